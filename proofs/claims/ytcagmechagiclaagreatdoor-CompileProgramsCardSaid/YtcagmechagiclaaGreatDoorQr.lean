/- Texts of this proof, joined, without what it does not use. No condition. -/
import Derived.Test.YtcagmechagiclaaGreatDoorQq

set_option maxHeartbeats 8000000
set_option linter.unusedSimpArgs false
set_option linter.unusedVariables false
set_option maxRecDepth 20000
namespace Go.Proofs.YtcagmechagiclaaGreatDoor
open Go Go.TL

theorem qFD:∀ (fu:Nat) {p0:Expr} {p1:Int} {p2:Int} {p3:Int} {r0:Bool} {r1:Int} (hm:iM fu p0 p1 p2 p3=some (r0,r1)),Ret Tryz.prog 155 [.box 3 [.d (.int .i64 p3)]] (fun _=>false) [.d (.ptr (p0.enc) 0),.d (.int .i64 p1),.d (.int .i64 p2),.mptr 0 0 0 0] (.d (.bool (r0))) [.box 3 [.d (.int .i64 r1)]]:=by
 intro fu
 induction fu with
 | zero=>
  intro p0 p1 p2 p3 r0 r1 hm
  unfold iM at hm
  cases hm
 | succ fu ih=>
  intro p0 p1 p2 p3 r0 r1 hm
  refine cC qTX Tryz.func155 Q Tryz.ntmps155 Q Q (fun wX gX=>?_)
  unfold iM at hm
  refine WN [0,1,2,3] Q Q (RS (SA TK Q (TN (WN [0,1,2,3] Q Q (TQ ?_)))))
  refine kQ [(17,.d (.bool (((decide ((12:Int) < p2))||(decide (p3=(0:Int)))))))] [17] [0,1,2,3] Q ?_ ?_
  ·refine TG (SA TK Q (SA TK Q (SB TK Q (fun q1 hq1 => ?_))))
   cases q1
   ·iterate 5 (refine SA TK Q ?_)
    refine TN (WT ?_)
    exact⟨[0],Q,(kB Q),dZ (bS (bT (by simp [hq1])) Q) Q⟩
   ·iterate 5 (refine SA TK Q ?_)
    refine TN (WT ?_)
    exact⟨[0],Q,(kB Q),dZ (bS (bT (by simp [hq1])) Q) Q⟩
  ·refine WN [0,1,2,3,17] Q Q ?_
   refine TC _ Q (fun h2=>?_) (fun h2=>?_)
   ·replace hm:=JA h2 hm
    refine RS (SA TK Q (TN (WN [8] Q Q (TR (WR ?_)))))
    obtain⟨rfl,rfl⟩:=Prod.mk.inj (Option.some.inj hm)
    exact⟨_,[0],res Q,by decide,(kB Q),Q,Q⟩
   ·replace hm:=JB h2 hm
    refine TS (WT (WN [0,1,2,3] Q Q (RS (SA TK Q (SA TK Q (SA TK Q ?_))))))
    obtain⟨g3,hm⟩:=GI hm
    refine SX Q Q (aV Q Q Q Q g3) (SA TK Q (SA TK Q (TN (WN [0,1,2,3] Q Q ?_))))
    refine dI hm (fun _=>([]:Fr)) (fun _=>([]:List (Nat×Blk))) [] [0,1,2,3] Q (fun z4 hm hz4=>?_) (fun j hm=>?_)
    ·refine RS ?_
     iterate 4 (refine SA TK Q ?_)
     refine TN (WN [0,1,2,3,26] Q Q (TB ?_))
     refine aK hm (fun x5=>([(27,.d (.bool (x5)))]:Fr)) (fun x5=>([]:List (Nat×Blk))) [27] [0,1,2,3,26] Q (fun z6 hm=>?_) (fun x5 hm=>?_)
     ·refine RS (SA TK Q (SA TK Q (TN (WN [0,1,2,3,26,27] Q Q ?_))))
      refine TC _ Q (fun h7=>?_) (fun h7=>?_)
      ·replace hm:=JT h7 hm
       refine TS (WT ?_)
       exact⟨_,[0],(SJ hm),Q,(kB Q),Q⟩
      ·replace hm:=JF h7 hm
       refine TG (SA TK Q (SA TK Q (TN (WT ?_))))
       exact⟨_,[0],(SJ hm),Q,(kB Q),Q⟩
     ·refine WN [0,1,2,3,26,27] Q Q ?_
      refine TC _ Q (fun h8=>?_) (fun h8=>?_)
      ·replace hm:=JA h8 hm
       refine kQ [(8,.d (.bool (((decide (p0.var=(0:Int)))&&(decide ((p0.args.length:Int)=(0:Int)))))))] [8] [] Q ?_ ?_
       ·refine TG ?_
        iterate 5 (refine SA TK Q ?_)
        refine SB TK Q (fun q9 hq9=>?_)
        cases q9
        ·iterate 8 (refine SA TK Q ?_)
         refine TN (WT ?_)
         exact⟨[0],Q,(kB Q),dZ (bS (bT (by simp [hq9])) Q) Q⟩
        ·iterate 4 (refine SA TK Q ?_)
         refine SX Q Q (aT TK Q Q Q) (SA TK Q (SA TK Q (SA TK Q (TN (WT ?_)))))
         exact⟨[0],Q,(kB Q),dZ (bS (bT (by simp [hq9])) Q) Q⟩
       ·refine WN [8] Q Q (TR (WB ?_))
        obtain⟨v10,hm,hz⟩:=II hm
        rw [hz4 _ hz] at hm
        refine WR ?_
        obtain⟨rfl,rfl⟩:=Prod.mk.inj (Option.some.inj hm)
        exact⟨_,[0],res Q,by decide,(kB Q),Q,Q⟩
      ·replace hm:=JB h8 hm
       refine RS (SA TK Q (SA TK Q (TN (WN [0,1,2,3,26,43] Q Q ?_))))
       refine TC _ Q (fun h11=>?_) (fun h11=>?_)
       ·replace hm:=JT h11 hm
        refine kQ [(8,.d (.bool (((decide ((0:Int)≤p0.var))&&((decide (p0.var < p1))&&(decide ((p0.args.length:Int)=(0:Int))))))))] [8] [] Q ?_ ?_
        ·refine TG ?_
         iterate 5 (refine SA TK Q ?_)
         refine SB TK Q (fun q12 hq12=>?_)
         cases q12
         ·iterate 16 (refine SA TK Q ?_)
          refine TN (WT ?_)
          exact⟨[0],Q,(kB Q),dZ (bS (bT (by simp [hq12])) Q) Q⟩
         ·iterate 7 (refine SA TK Q ?_)
          refine SB TK Q (fun q13 hq13=>?_)
          cases q13
          ·iterate 8 (refine SA TK Q ?_)
           refine TN (WT ?_)
           exact⟨[0],Q,(kB Q),dZ (bS (bT (by simp [hq12,hq13])) Q) Q⟩
          ·iterate 4 (refine SA TK Q ?_)
           refine SX Q Q (aT TK Q Q Q) (SA TK Q (SA TK Q (SA TK Q (TN (WT ?_)))))
           exact⟨[0],Q,(kB Q),dZ (bS (bT (by simp [hq12,hq13])) Q) Q⟩
        ·refine WN [8] Q Q (TR (WB ?_))
         obtain⟨v14,hm,hz⟩:=II hm
         rw [hz4 _ hz] at hm
         refine WR ?_
         obtain⟨rfl,rfl⟩:=Prod.mk.inj (Option.some.inj hm)
         exact⟨_,[0],res Q,by decide,(kB Q),Q,Q⟩
       ·replace hm:=JF h11 hm
        refine RS (SA TK Q (SA TK Q (TN (WN [0,1,2,3,26,66] Q Q ?_))))
        refine TC _ Q (fun h15=>?_) (fun h15=>?_)
        ·replace hm:=JT h15 hm
         refine RS ?_
         iterate 4 (refine SA TK Q ?_)
         refine SX Q Q (aT TK Q Q Q) (SA TK Q (TN (WN [0,1,2,3,73] Q Q ?_)))
         refine TC _ Q (fun h16=>?_) (fun h16=>?_)
         ·replace hm:=eT h16 hm
          refine RS (SA TK Q (TN (WN [8] Q Q (TR (WB ?_)))))
          obtain⟨v17,hm,hz⟩:=II hm
          rw [hz4 _ hz] at hm
          refine WR ?_
          obtain⟨rfl,rfl⟩:=Prod.mk.inj (Option.some.inj hm)
          exact⟨_,[0],res Q,by decide,(kB Q),Q,Q⟩
         ·replace hm:=eU h16 hm
          refine TS (WK (WT ?_))
          exact⟨_,[0],(SJ hm),Q,(kB Q),Q⟩
        ·replace hm:=JF h15 hm
         refine TQ (RS (SA TK Q (SA TK Q (TN (WN [0,1,2,3,26,74] Q Q ?_)))))
         refine TC _ Q (fun h18=>?_) (fun h18=>?_)
         ·replace hm:=JT h18 hm
          refine TS (WT (WN [0,1,2,3,74] Q Q (qWJ Q true h18 (TS (WK (WT ?_))))))
          exact⟨_,[0],(SJ hm),Q,(kB Q),Q⟩
         ·replace hm:=JF h18 hm
          refine TG (SA TK Q (SA TK Q (TN (WT (WN [0,1,2,3,74] Q Q ?_)))))
          refine TC _ Q (fun h19=>?_) (fun h19=>?_)
          ·replace hm:=JT h19 hm
           refine TS (WK (WT ?_))
           exact⟨_,[0],(SJ hm),Q,(kB Q),Q⟩
          ·replace hm:=JF h19 hm
           refine RS (SA TK Q (TN (WN [8] Q Q (TR (WB ?_)))))
           obtain⟨v20,hm,hz⟩:=II hm
           rw [hz4 _ hz] at hm
           refine WR ?_
           obtain⟨rfl,rfl⟩:=Prod.mk.inj (Option.some.inj hm)
           exact⟨_,[0],res Q,by decide,(kB Q),Q,Q⟩
    ·refine WN [0,1,2,3] Q Q (TQ (RS ?_))
     iterate 5 (refine SA TK Q ?_)
     refine TN (WN [0,1,2,3,81] Q Q ?_)
     refine TC _ Q (fun h21=>?_) (fun h21=>?_)
     ·replace hm:=eT h21 hm
      refine RS (SA TK Q (TN (WN [8] Q Q (TR (WR ?_)))))
      obtain⟨rfl,rfl⟩:=Prod.mk.inj (Option.some.inj hm)
      exact⟨_,[0],res Q,by decide,(kB Q),Q,Q⟩
     ·replace hm:=eU h21 hm
      refine TS (WT (WN [0,1,2,3] Q Q ?_))
      refine dI hm (fun c22=>([]:Fr)) (fun c22=>([(0,.box 3 [.d (.int .i64 c22)])]:List (Nat×Blk))) [] [] Q (fun z23 hm hz23=>?_) (fun c22 hm=>?_)
      ·refine RS ?_
       iterate 4 (refine SA TK Q ?_)
       refine SX Q Q (aT TK Q Q Q) (SA TK Q (TN (WN [0,1,2,3,86,87] Q Q (TB (aZ hm (fun (x27,c28)=>([(87,.d (.int .i64 x27))]:Fr)) (fun (x27,c28)=>([(0,.box 3 [.d (.int .i64 c28)])]:List (Nat×Blk))) [87] [0,1,2,3,86] [0] Q (kB Q) Q Q Q Q Q (fun s z29 hm hz29=>?_))))))
       obtain⟨x27,c28⟩:=s
       refine WN [0,1,2,3,86,87] Q Q (RS (SA TK Q (TN (WN [0,1,2,3,86,87,88] Q Q (TQ ?_)))))
       refine TC _ Q (fun h30=>?_) (fun h30=>?_)
       ·replace hm:=JT h30 hm
        refine TS (WT (WN [0,1,2,3,86,87] Q Q (TQ (TB (RS (SA TK Q (SA TK Q (TN (WN [0,1,2,3,9,86,87] Q Q ?_)))))))))
        refine RS ?_
        iterate 5 (refine SA TK Q ?_)
        obtain⟨e31,he31,hm⟩:=GV hm
        refine SX Q Q (qNF TK Q Q Q Q he31 (Expr.encR_eq _)) (SA TK Q (SA TK Q ?_))
        obtain⟨g32,hm⟩:=GI hm
        refine SX Q Q (aV Q Q Q Q g32) (SA TK Q ?_)
        obtain⟨r33,hr33,hm⟩:=BI hm
        obtain⟨r34,r35⟩:=r33
        refine dE [0] (fun _=>false) Q Q Q (by decide) Q Q Q Q (ih hr33) Q Q Q ?_
        refine SA TK Q (TN (WN [0,1,2,3,86,87,101] Q Q ?_))
        refine TC _ Q (fun h36=>?_) (fun h36=>?_)
        ·replace hm:=JA h36 hm
         refine RS (SA TK Q (TN (WN [8] Q Q (TR (WB (WR ?_))))))
         obtain⟨v37,hm,hz⟩:=II hm
         rw [hz29 _ hz] at hm
         refine WR (WB ?_)
         obtain⟨v38,hm,hz⟩:=II hm
         rw [hz23 _ hz] at hm
         refine WR ?_
         obtain⟨rfl,rfl⟩:=Prod.mk.inj (Option.some.inj hm)
         exact⟨_,[0],res Q,by decide,(kB Q),Q,Q⟩
        ·replace hm:=JB h36 hm
         refine TS (WK (WT (WN [0,1,2,3,86,87] Q Q (TG ?_))))
         obtain⟨g39,hm⟩:=GI hm
         refine SX Q Q (aV Q Q Q Q g39) (SA TK Q (TN (WT ?_)))
         exact⟨_,[0],(SJ hm),Q,(kB Q),Q⟩
       ·replace hm:=JF h30 hm
        refine aJ (WX ?_)
        obtain⟨v40,hm,hz⟩:=II hm
        rw [hz29 _ hz] at hm
        refine WX (WH (WT ?_))
        exact⟨_,[0],(SJ hm),Q,(kB Q),Q⟩
      ·refine WN [] Q Q (RS (SA TK Q (TN (WN [8] Q Q (TR ?_)))))
       obtain⟨rfl,rfl⟩:=Prod.mk.inj (Option.some.inj hm)
       exact⟨_,[0],res Q,by decide,(kB Q),Q,Q⟩
theorem qHO {p0:Expr} {p1:Int} {p2:Int} {p3:Int} {r0:Bool} {r1:Int} (hm:xM p0 p1 p2 p3=some (r0,r1)):Ret Tryz.prog 155 [.box 3 [.d (.int .i64 p3)]] (fun _=>false) [.d (.ptr (p0.enc) 0),.d (.int .i64 p1),.d (.int .i64 p2),.mptr 0 0 0 0] (.d (.bool (r0))) [.box 3 [.d (.int .i64 r1)]]:=qFD lG hm

theorem qHQ {p0:Expr} {p1:Int} {r:Bool} (hm:nO p0 p1=some r):RetN Tryz.prog 116 [p0.enc,.int .i64 p1] (.bool (r)):=by
 refine .unit (aQ qUV Tryz.func116 Q Tryz.ntmps116 Q Q (fun wX gX=>?_)) Q
 unfold nO at hm
 refine WN [0,1] Q Q (RS (eR 0 Q Q Q (SA TK Q (TN (WN [1,2] Q Q (RS (dA 1 Q Q lI Q (SA TK Q ?_))))))))
 refine TN (WN [1,2,5] Q Q (qVM 0 Q Q Q Q Q (RS (SA TK Q ?_))))
 obtain⟨r1,hr1,hm⟩:=BI hm
 obtain⟨r2,r3⟩:=r1
 refine dE [1] (fun _=>false) Q Q Q (by decide) Q Q Q Q (qHO hr1) Q Q Q ?_
 refine SA TK Q (TN (WN [4] Q Q (TR ?_)))
 obtain rfl:=OJ hm
 exact EndsS.one _ Q (.d _) (.refl _)

theorem qAX {p0:Program} {p1:Rung} {r:Bool} (hm:lT p0 p1=some r):RetN Tryz.prog 53 [p0.enc,p1.enc] (.bool (r)):=by
 refine .unit (aQ qZJ Tryz.func53 Q Tryz.ntmps53 Q Q (fun wX gX=>?_)) Q
 unfold lT at hm
 refine WN [0,1] Q Q (RS (eR 0 Q Q Q (eR 1 Q Q Q (SA TK Q (TN (WN [2,3] Q Q ?_))))))
 refine dI hm (fun _=>([]:Fr)) (fun _=>([]:List (Nat×Blk))) [] [2,3] Q (fun z1 hm hz1=>?_) (fun j hm=>?_)
 ·refine RS (SA TK Q (SA TK Q (TN (WN [2,3,6] Q Q (TB (RS (SA TK Q (SA TK Q (TN (WN [2,3,6,7] Q Q ?_))))))))))
  refine TC _ Q (fun h2=>?_) (fun h2=>?_)
  ·replace hm:=JT h2 hm
   refine RS (SA TK Q (SA TK Q (SA TK Q (TN (WN [2,3,11] Q Q ?_)))))
   refine TC _ Q (fun h3=>?_) (fun h3=>?_)
   ·replace hm:=eT h3 hm
    refine RS (SA TK Q (TN (WN [4] Q Q (TR (WB ?_)))))
    obtain⟨v4,hm,hz⟩:=II hm
    rw [hz1 _ hz] at hm
    refine WR ?_
    obtain rfl:=OJ hm
    exact EndsS.one _ Q (.d _) (.refl _)
   ·replace hm:=eU h3 hm
    refine TS (WK (WT ?_))
    exact⟨_,[0,1],(SJ hm),Q,k0,Q⟩
  ·replace hm:=JF h2 hm
   refine RS (SA TK Q (SA TK Q (TN (WN [2,3,12] Q Q ?_))))
   refine TC _ Q (fun h5=>?_) (fun h5=>?_)
   ·replace hm:=JT h5 hm
    refine kQ [(21,.d (.bool (((decide (p1.preset < (1:Int)))||(decide ((1073741824:Int) < p1.preset))))))] [21] [2,3] Q ?_ ?_
    ·refine TG (SA TK Q (SA TK Q (SA TK Q (SB TK Q (fun q6 hq6 => ?_)))))
     cases q6
     ·iterate 4 (refine SA TK Q ?_)
      refine TN (WT ?_)
      exact⟨[0,1],Q,k0,dZ (bS (bT (by simp [hq6])) Q) Q⟩
     ·iterate 4 (refine SA TK Q ?_)
      refine TN (WT ?_)
      exact⟨[0,1],Q,k0,dZ (bS (bT (by simp [hq6])) Q) Q⟩
    ·refine WN [2,3,21] Q Q ?_
     refine TC _ Q (fun h7=>?_) (fun h7=>?_)
     ·replace hm:=JA h7 hm
      refine RS (SA TK Q (TN (WN [4] Q Q (TR (WB ?_)))))
      obtain⟨v8,hm,hz⟩:=II hm
      rw [hz1 _ hz] at hm
      refine WR ?_
      obtain rfl:=OJ hm
      exact EndsS.one _ Q (.d _) (.refl _)
     ·replace hm:=JB h7 hm
      refine TS (WK (WT ?_))
      exact⟨_,[0,1],(SJ hm),Q,k0,Q⟩
   ·replace hm:=JF h5 hm
    refine RS (SA TK Q (TN (WN [4] Q Q (TR (WB ?_)))))
    obtain⟨v9,hm,hz⟩:=II hm
    rw [hz1 _ hz] at hm
    refine WR ?_
    obtain rfl:=OJ hm
    exact EndsS.one _ Q (.d _) (.refl _)
 ·refine WN [2,3] Q Q ?_
  refine aK hm (fun x10=>([(4,.d (.bool (x10)))]:Fr)) (fun x10=>([]:List (Nat×Blk))) [4] [] Q (fun z11 hm=>?_) (fun x10 hm=>?_)
  ·refine TG ?_
   iterate 5 (refine SA TK Q ?_)
   refine SB TK Q (fun q12 hq12=>?_)
   cases q12
   ·replace hm:=JF hq12 hm
    iterate 16 (refine SA TK Q ?_)
    refine TN (WT ?_)
    exact⟨_,[0,1],(SJ hm),Q,k0,Q⟩
   ·replace hm:=JT hq12 hm
    iterate 4 (refine SA TK Q ?_)
    refine SX Q Q (aT TK Q Q Q) (SA TK Q (SA TK Q (SB TK Q (fun q13 hq13=>?_))))
    cases q13
    ·replace hm:=JF hq13 hm
     iterate 8 (refine SA TK Q ?_)
     refine TN (WT ?_)
     exact⟨_,[0,1],(SJ hm),Q,k0,Q⟩
    ·replace hm:=JT hq13 hm
     iterate 4 (refine SA TK Q ?_)
     refine SX Q Q (aT TK Q Q Q) ?_
     obtain⟨r14,hr14,hm⟩:=BI hm
     refine SX Q Q (RN Q Q (SC (.d _) (SC (.d _) SN)) (qHQ hr14)) (SA TK Q (SA TK Q (TN (WT ?_))))
     exact⟨_,[0,1],(SJ hm),Q,k0,Q⟩
  ·refine WN [4] Q Q (TR ?_)
   obtain rfl:=OJ hm
   exact EndsS.one _ Q (.d _) (.refl _)

theorem qV {p0:Program} {r:Int} (hm:nL p0=some r):RetN Tryz.prog 13 [p0.enc] (.int .i64 r):=by
 refine .unit (aQ zAO Tryz.func13 Q Tryz.ntmps13 Q Q (fun wX gX=>?_)) Q
 unfold nL at hm
 refine WN [0] Q Q (RS (eR 0 Q Q Q (SA TK Q (TN (WN [1] Q Q (TQ (RS (SA TK Q (SA TK Q ?_)))))))))
 refine SX Q Q (aT TK Q Q Q) (SA TK Q (TN (WN [1,11] Q Q ?_)))
 refine TC _ Q (fun h1=>?_) (fun h1=>?_)
 ·replace hm:=JT h1 hm
  refine RS (SA TK Q (TN (WN [2] Q Q (TR (WR ?_)))))
  obtain rfl:=OJ hm
  exact EndsS.one _ Q (.d _) (.refl _)
 ·replace hm:=JF h1 hm
  refine TS (WT (WN [1] Q Q (TQ ?_)))
  refine kQ [(22,.d (.bool (((decide (p0.inputs < (0:Int)))||(decide ((p0.names.length:Int) < p0.inputs))))))] [22] [1] Q ?_ ?_
  ·refine TG (SA TK Q (SA TK Q (SA TK Q (SB TK Q (fun q2 hq2 => ?_)))))
   cases q2
   ·iterate 4 (refine SA TK Q ?_)
    refine SX Q Q (aT TK Q Q Q) (SA TK Q (SA TK Q (TN (WT ?_))))
    exact⟨[0],Q,k0,dZ (bS (bT (by simp [hq2])) Q) Q⟩
   ·iterate 7 (refine SA TK Q ?_)
    refine TN (WT ?_)
    exact⟨[0],Q,k0,dZ (bS (bT (by simp [hq2])) Q) Q⟩
  ·refine WN [1,22] Q Q ?_
   refine TC _ Q (fun h3=>?_) (fun h3=>?_)
   ·replace hm:=JA h3 hm
    refine RS (SA TK Q (TN (WN [2] Q Q (TR (WR ?_)))))
    obtain rfl:=OJ hm
    exact EndsS.one _ Q (.d _) (.refl _)
   ·replace hm:=JB h3 hm
    refine TS (WT (WN [1] Q Q ?_))
    refine dI hm (fun _=>([]:Fr)) (fun _=>([]:List (Nat×Blk))) [] [1] Q (fun z4 hm hz4=>?_) (fun j hm=>?_)
    ·refine RS (SA TK Q (SA TK Q (SX Q Q (aT TK Q Q Q) (SA TK Q (TN (WN [1, 24, 25, 26] Q Q (TB (aZ hm (fun x6 => ([(26, .d (.int .i64 x6))] : Fr)) (fun x6 => ([] : List (Nat × Blk))) [26] [1, 24, 25] [0] Q k0 Q Q Q Q Q (fun x6 z7 hm hz7 => (WN [1, 24, 25, 26] Q Q ?_))))))))))
     refine RS (SA TK Q (TN (WN [1,24,25,26,27] Q Q (TQ ?_))))
     refine TC _ Q (fun h8=>?_) (fun h8=>?_)
     ·replace hm:=JT h8 hm
      refine TS (WT (WN [1,24,25,26] Q Q (TQ (TB (RS ?_)))))
      obtain⟨e9,he9,hm⟩:=GV hm
      refine SX Q Q (bZ TK Q Q Q Q he9) (SA TK Q (dA 1 Q Q fV Q (cO 1 [none,none,none,none,none,some 3] Q Q (SA TK Q (TN (WN [1,4,24,25,26] Q Q (RS (SA TK Q (SA TK Q ?_)))))))))
      obtain⟨r10,hr10,hm⟩:=BI hm
      refine SX Q Q (RN Q Q (SC (.d _) (SC (.d _) SN)) (qAX hr10)) (SA TK Q (TN (WN [1,24,25,26,33] Q Q ?_)))
      refine TC _ Q (fun h11=>?_) (fun h11=>?_)
      ·replace hm:=JA h11 hm
       refine RS (SA TK Q (TN (WN [2] Q Q (TR (WB (WR ?_))))))
       obtain⟨v12,hm,hz⟩:=II hm
       rw [hz7 _ hz] at hm
       refine WR (WB ?_)
       obtain⟨v13,hm,hz⟩:=II hm
       rw [hz4 _ hz] at hm
       refine WR ?_
       obtain rfl:=OJ hm
       exact EndsS.one _ Q (.d _) (.refl _)
      ·replace hm:=JB h11 hm
       refine TS (WK (WT (WN [1,24,25,26] Q Q (TG ?_))))
       obtain⟨g14,hm⟩:=GI hm
       refine SX Q Q (aV Q Q Q Q g14) (SA TK Q (TN (WT ?_)))
       exact⟨_,[0],(SJ hm),Q,k0,Q⟩
     ·replace hm:=JF h8 hm
      refine aJ (WX ?_)
      obtain⟨v15,hm,hz⟩:=II hm
      rw [hz7 _ hz] at hm
      refine WX (WH (WT ?_))
      exact⟨_,[0],(SJ hm),Q,k0,Q⟩
    ·refine WN [1] Q Q (RS (SA TK Q (SA TK Q (SX Q Q (aT TK Q Q Q) ?_))))
     obtain⟨g16,hm⟩:=GI hm
     refine zBK (f:=D.bool) (x:=false) 1 TK Q Q Q oF Q Q Q Q Q g16 Q (SA TK Q (TN (WN [1,5] Q Q ?_)))
     refine dI hm (fun b17=>([]:Fr)) (fun b17=>([(1,.flat 4 1 (b17.map D.bool))]:List (Nat×Blk))) [] [] Q (fun z18 hm hz18=>?_) (fun b17 hm=>?_)
     ·refine RS (SA TK Q (SA TK Q (SX Q Q (aT TK Q Q Q) (SA TK Q (TN (WN [5, 40, 41, 42] Q Q (TB (aZ hm (fun (x22, b23) => ([(5, .msl 1 1 0 b23.length), (42, .d (.int .i64 x22))] : Fr)) (fun (x22, b23) => ([(1, .flat 4 1 (b23.map D.bool))] : List (Nat × Blk))) [5, 42] [40, 41] [0, 1] Q k0 Q Q Q Q Q (fun s z24 hm hz24 => ?_)))))))))
      obtain⟨x22,b23⟩:=s
      refine WN [5,40,41,42] Q Q (RS (SA TK Q (TN (WN [5,40,41,42,43] Q Q (TQ ?_)))))
      refine TC _ Q (fun h25=>?_) (fun h25=>?_)
      ·replace hm:=JT h25 hm
       refine TS (WT (WN [5,40,41,42] Q Q (TQ (TB (RS ?_)))))
       obtain⟨e26,he26,hm⟩:=GV hm
       refine SX Q Q (bZ TK Q Q Q Q he26) (SA TK Q (dA 2 Q Q fV Q (cO 2 [none,none,none,none,none,some 3] Q Q (SA TK Q (TN (WN [5,7,40,41,42] Q Q (TQ (RS ?_))))))))
       refine SA TK Q (SA TK Q (SA TK Q ?_))
       obtain⟨e27,he27,hm⟩:=GV hm
       refine SX Q Q (oG TK Q Q Q Q he27 Q) (SX Q Q (wF TK Q Q Q Q he27.2 Q) (TN (WN [5,7,40,41,42,50] Q Q ?_)))
       refine TC _ Q (fun h28=>?_) (fun h28=>?_)
       ·replace hm:=JA h28 hm
        refine RS (SA TK Q (TN (WN [2] Q Q (TR (WR (WB (WR ?_)))))))
        obtain⟨v29,hm,hz⟩:=II hm
        rw [hz24 _ hz] at hm
        refine WR (WB ?_)
        obtain⟨v30,hm,hz⟩:=II hm
        rw [hz18 _ hz] at hm
        refine WR ?_
        obtain rfl:=OJ hm
        exact EndsS.one _ Q (.d _) (.refl _)
       ·replace hm:=JB h28 hm
        refine TS (WT (WN [5,7,40,41,42] Q Q (TG (SA TK Q (SA TK Q (SA TK Q ?_))))))
        obtain⟨e31,he31,hm⟩:=GV hm
        refine SX Q Q (oG TK Q Q Q Q he31 Q) (qCC (x':=true) TK Q Q Q Q Q he31.2 Q Q Q (oU 5 (b23.set e26.var.toNat true).length Q List.length_set.symm (oU 51 (b23.set e26.var.toNat true).length Q List.length_set.symm (TN (WK (WT (WN [5,40,41,42] Q Q (TG ?_))))))))
        obtain⟨g32,hm⟩:=GI hm
        refine SX Q Q (aV Q Q Q Q g32) (SA TK Q (TN (WT ?_)))
        exact⟨_,[0,1],(SJ hm),Q,k0,Q⟩
      ·replace hm:=JF h25 hm
       refine aJ (WX ?_)
       obtain⟨v33,hm,hz⟩:=II hm
       rw [hz24 _ hz] at hm
       refine WX (WH (WT ?_))
       exact⟨_,[0,1],(SJ hm),Q,k0,Q⟩
     ·refine WN [] Q Q (RS (SA TK Q (TN (WN [2] Q Q (TR ?_)))))
      obtain rfl:=OJ hm
      exact EndsS.one _ Q (.d _) (.refl _)

theorem qIZ {p0:Program} {r:Machine} (hm:pI p0=some r):RetD Tryz.prog 22 [p0.enc] (r.enc):=by
 refine .of (mv:=fun _=>false) (aQ qOR Tryz.func22 Q Tryz.ntmps22 Q Q (fun wX gX=>?_))
 unfold pI at hm
 refine WN [0] Q Q (RS (eR 0 Q Q Q (dA 1 Q Q nG Q (cO 1 [some 1,some 1,none] Q Q (TN (WN [1,2] Q Q (TQ (RS ?_))))))))
 refine SA TK Q ?_
 obtain⟨r1,hr1,hm⟩:=BI hm
 refine SX Q Q (RN Q Q (SC (.d _) SN) (qV hr1)) (SA TK Q (TN (WN [1,2,5] Q Q ?_)))
 refine TC _ Q (fun h2=>?_) (fun h2=>?_)
 ·replace hm:=eT h2 hm
  refine RS (SX Q Q (dJ Q qJA nG Q Q Q Q) (qGP 6 [some 1,some 1,none] Q (SA TK Q (TN (WN [2] Q Q (TR (WR ?_)))))))
  obtain rfl:=OJ hm
  exact EndsS.cellR _ TK Q Q Q Q Q (.d _)
 ·replace hm:=eU h2 hm
  refine TS (WT (WN [1,2] Q Q (cE follows  ?_)))
  iterate 2 (refine DA [0,1] TK Q ?_)
  refine DX [0,1] Q Q (aT TK Q Q Q) ?_
  obtain⟨g3,hm⟩:=GI hm
  refine DX [0,1] Q Q (qBR (f:=D.bool) (x:=false) TK Q Q oF Q Q Q Q Q g3 Q) ?_
  iterate 2 (refine DA [0,1] TK Q ?_)
  refine DX [0,1] Q Q (aT TK Q Q Q) ?_
  obtain⟨g4,hm⟩:=GI hm
  refine DX [0,1] Q Q (qBR (f:=(D.int .i64)) (x:=(0:Int)) TK Q Q lI Q Q Q Q Q g4 Q) (DX [0,1] Q Q (dJ Q qJA nG Q Q Q Q) ?_)
  refine DT ?_ (by kernel_rfl)
  refine SA TK Q (TN (WN [2] Q Q (TR ?_)))
  obtain rfl:=OJ hm
  exact EndsS.cellR _ TK Q Q Q Q Q (.d _)

theorem jK {p0:(List Bool)} {p1:Int} {p2:Bool} {r:Bool} (hm:gV p0 p1 p2=some r):RetN Tryz.prog 55 [.sl 1 (p0.map D.bool),.int .i64 p1,.bool (p2)] (.bool (r)):=by
 refine .unit (aQ qZH Tryz.func55 Q Tryz.ntmps55 Q Q (fun wX gX=>?_)) Q
 unfold gV at hm
 refine WN [0,1,2] Q Q (RS (SA TK Q (TN (WN [0,1,2] Q Q ?_))))
 refine aK hm (fun x1=>([(6,.d (.bool (x1)))]:Fr)) (fun x1=>([]:List (Nat×Blk))) [6] [] Q (fun z2 hm=>?_) (fun x1 hm=>?_)
 ·refine TG (SA TK Q (SA TK Q (SX Q Q (aT TK Q Q Q) (SA TK Q (SB TK Q (fun q3 hq3 => ?_))))))
  cases q3
  ·replace hm:=JF hq3 hm
   iterate 8 (refine SA TK Q ?_)
   refine TN (WT ?_)
   exact⟨_,[],(SJ hm),Q,k0,Q⟩
  ·replace hm:=JT hq3 hm
   refine SA TK Q (SA TK Q ?_)
   obtain⟨e4,he4,hm⟩:=GV hm
   refine SX Q Q (bZ TK Q Q Q Q he4) ?_
   iterate 5 (refine SA TK Q ?_)
   refine TN (WT ?_)
   exact⟨_,[],(SJ hm),Q,k0,Q⟩
 ·refine WN [6] Q Q (TR ?_)
  obtain rfl:=OJ hm
  exact EndsS.one _ Q (.d _) (.refl _)

theorem oX {p0:(List Int)} {p1:Int} {p2:Int} {r:Bool} (hm:kP p0 p1 p2=some r):RetN Tryz.prog 56 [.sl 1 (p0.map (D.int .i64)),.int .i64 p1,.int .i64 p2] (.bool (r)):=by
 refine .unit (aQ qZG Tryz.func56 Q Tryz.ntmps56 Q Q (fun wX gX=>?_)) Q
 unfold kP at hm
 refine WN [0,1,2] Q Q (RS (SA TK Q (TN (WN [0,1,2] Q Q ?_))))
 refine aK hm (fun x1=>([(6,.d (.bool (x1)))]:Fr)) (fun x1=>([]:List (Nat×Blk))) [6] [] Q (fun z2 hm=>?_) (fun x1 hm=>?_)
 ·refine TG (SA TK Q (SA TK Q (SX Q Q (aT TK Q Q Q) (SA TK Q (SB TK Q (fun q3 hq3 => ?_))))))
  cases q3
  ·replace hm:=JF hq3 hm
   iterate 8 (refine SA TK Q ?_)
   refine TN (WT ?_)
   exact⟨_,[],(SJ hm),Q,k0,Q⟩
  ·replace hm:=JT hq3 hm
   refine SA TK Q (SA TK Q ?_)
   obtain⟨e4,he4,hm⟩:=GV hm
   refine SX Q Q (bZ TK Q Q Q Q he4) ?_
   iterate 5 (refine SA TK Q ?_)
   refine TN (WT ?_)
   exact⟨_,[],(SJ hm),Q,k0,Q⟩
 ·refine WN [6] Q Q (TR ?_)
  obtain rfl:=OJ hm
  exact EndsS.one _ Q (.d _) (.refl _)

theorem sF {p0:Table} {p1:Inputs} {r:(List Bool)} (hm:nB p0 p1=some r):RetD Tryz.prog 15 [p0.enc,p1.enc] (.sl 1 (r.map D.bool)):=by
 refine .of (mv:=fun _=>false) (aQ zAN Tryz.func15 Q Tryz.ntmps15 Q Q (fun wX gX=>?_))
 unfold nB at hm
 refine WN [0,1] Q Q (RS (eR 0 Q Q Q (eR 1 Q Q Q (SA TK Q (TN (WN [2,3] Q Q (TQ (RS ?_))))))))
 refine SA TK Q ?_
 obtain⟨r1,hr1,hm⟩:=BI hm
 refine SX Q Q (RN Q Q (SC (.d _) SN) (rB hr1)) (SA TK Q (TN (WN [2,3,11] Q Q ?_)))
 refine TC _ Q (fun h2=>?_) (fun h2=>?_)
 ·replace hm:=eT h2 hm
  refine RS (SA TK Q (TN (c_wk 4 [some 1] Q (WN [4] Q Q (TR (WR ?_))))))
  obtain rfl:=OJ hm
  exact EndsS.one _ Q (.d _) (.refl _)
 ·replace hm:=eU h2 hm
  refine TS (WT (WN [2,3] Q Q (RS (jD (f:=D.bool) 2 4 1 Q Q Q (TN (WN [2,3,5] Q Q ?_))))))
  refine aK hm (fun b3=>([(5,.msl 2 1 0 b3.length)]:Fr)) (fun b3=>([(2,.flat 4 1 (b3.map D.bool))]:List (Nat×Blk))) [5] [2,3] Q (fun z4 hm=>?_) (fun b3 hm=>?_)
  ·refine RS (SA TK Q (SA TK Q (SA TK Q (TN (WN [2, 3, 5, 13, 14] Q Q (TB (aZ hm (fun (x8, b9) => ([(5, .msl 2 1 0 b9.length), (14, .d (.int .i64 x8))] : Fr)) (fun (x8, b9) => ([(2, .flat 4 1 (b9.map D.bool))] : List (Nat × Blk))) [5, 14] [2, 3, 13] [0, 1, 2] Q k0 Q Q Q Q Q (fun s z10 hm hz10 => ?_))))))))
   obtain⟨x8,b9⟩:=s
   refine WN [2,3,5,13,14] Q Q (RS (SA TK Q (TN (WN [2,3,5,13,14,15] Q Q (TQ ?_)))))
   refine TC _ Q (fun h11=>?_) (fun h11=>?_)
   ·replace hm:=JT h11 hm
    refine TS (WT (WN [2,3,5,13,14] Q Q (TQ (TB (RS (SA TK Q (SA TK Q (TN (WN [2,3,5,6,13,14] Q Q ?_)))))))))
    refine cN follows  ?_
    iterate 4 (refine DA [0,1,2] TK Q ?_)
    obtain⟨r12,hr12,hm⟩:=BI hm
    refine DX [0,1,2] Q Q (RN Q Q (SC (.d _) (SC (.d _) (SC (.d _) SN))) (jK hr12)) ?_
    iterate 3 (refine DA [0,1,2] TK Q ?_)
    obtain⟨r13,hr13,hm⟩:=BI hm
    refine DX [0,1,2] Q Q (RN Q Q (SC (.d _) (SC (.d _) (SC (.d _) SN))) (jK hr13)) (DX [0,1,2] Q Q (dW [.tmp 21,.tmp 25] TK Q Q oF Q Q Q Q Q) ?_)
    refine DT ?_ (by kernel_rfl)
    obtain⟨g14,hm⟩:=GI hm
    refine cT (f:=D.bool) ([r12,r13]:List Bool) TK Q Q oF Q Q Q Q Q (fun h=>absurd h (Nat.not_lt_zero _)) Q cR g14 Q Q (SA TK Q (TN (WK (WT (WN [2,3,5,13,14] Q Q (TG ?_))))))
    obtain⟨g15,hm⟩:=GI hm
    refine SX Q Q (aV Q Q Q Q g15) (SA TK Q (TN (WT ?_)))
    exact⟨_,[0,1,2],(SJ hm),Q,k0,Q⟩
   ·replace hm:=JF h11 hm
    refine aJ (WX ?_)
    obtain⟨v16,hm,hz⟩:=II hm
    rw [hz10 _ hz] at hm
    refine WX (WH (WT ?_))
    exact⟨_,[0,1,2],(SJ hm),Q,k0,Q⟩
  ·refine WN [2,3,5] Q Q ?_
   refine aK hm (fun b17=>([(5,.msl 2 1 0 b17.length)]:Fr)) (fun b17=>([(2,.flat 4 1 (b17.map D.bool))]:List (Nat×Blk))) [5] [2,3] Q (fun z18 hm=>?_) (fun b17 hm=>?_)
   ·refine RS (SA TK Q (SA TK Q (SX Q Q (aT TK Q Q Q) (SA TK Q (TN (WN [2, 3, 5, 31, 32] Q Q (TB (aZ hm (fun (x22, b23) => ([(5, .msl 2 1 0 b23.length), (32, .d (.int .i64 x22))] : Fr)) (fun (x22, b23) => ([(2, .flat 4 1 (b23.map D.bool))] : List (Nat × Blk))) [5, 32] [2, 3, 31] [0, 1, 2] Q k0 Q Q Q Q Q (fun s z24 hm hz24 => ?_)))))))))
    obtain⟨x22,b23⟩:=s
    refine WN [2,3,5,31,32] Q Q (RS (SA TK Q (TN (WN [2,3,5,31,32,33] Q Q (TQ ?_)))))
    refine TC _ Q (fun h25=>?_) (fun h25=>?_)
    ·replace hm:=JT h25 hm
     refine TS (WT (WN [2,3,5,31,32] Q Q (TQ (TB (RS (SA TK Q (SA TK Q (TN (WN [2,3,5,7,31,32] Q Q ?_)))))))))
     refine cN follows  ?_
     iterate 4 (refine DA [0,1,2] TK Q ?_)
     obtain⟨r26,hr26,hm⟩:=BI hm
     refine DX [0,1,2] Q Q (RN Q Q (SC (.d _) (SC (.d _) (SC (.d _) SN))) (oX hr26)) ?_
     iterate 3 (refine DA [0,1,2] TK Q ?_)
     obtain⟨r27,hr27,hm⟩:=BI hm
     refine DX [0,1,2] Q Q (RN Q Q (SC (.d _) (SC (.d _) (SC (.d _) SN))) (oX hr27)) (DX [0,1,2] Q Q (dW [.tmp 39,.tmp 43] TK Q Q oF Q Q Q Q Q) ?_)
     refine DT ?_ (by kernel_rfl)
     obtain⟨g28,hm⟩:=GI hm
     refine cT (f:=D.bool) ([r26,r27]:List Bool) TK Q Q oF Q Q Q Q Q (fun h=>absurd h (Nat.not_lt_zero _)) Q cR g28 Q Q (SA TK Q (TN (WK (WT (WN [2,3,5,31,32] Q Q (TG ?_))))))
     obtain⟨g29,hm⟩:=GI hm
     refine SX Q Q (aV Q Q Q Q g29) (SA TK Q (TN (WT ?_)))
     exact⟨_,[0,1,2],(SJ hm),Q,k0,Q⟩
    ·replace hm:=JF h25 hm
     refine aJ (WX ?_)
     obtain⟨v30,hm,hz⟩:=II hm
     rw [hz24 _ hz] at hm
     refine WX (WH (WT ?_))
     exact⟨_,[0,1,2],(SJ hm),Q,k0,Q⟩
   ·refine WN [2,3,5] Q Q ?_
    refine aK hm (fun b31=>([(5,.msl 2 1 0 b31.length)]:Fr)) (fun b31=>([(2,.flat 4 1 (b31.map D.bool))]:List (Nat×Blk))) [5] [] Q (fun z32 hm=>?_) (fun b31 hm=>?_)
    ·refine RS (SA TK Q (SA TK Q (SX Q Q (aT TK Q Q Q) (SA TK Q (TN (WN [3, 5, 49, 50] Q Q (TB (aZ hm (fun (x36, b37) => ([(5, .msl 2 1 0 b37.length), (50, .d (.int .i64 x36))] : Fr)) (fun (x36, b37) => ([(2, .flat 4 1 (b37.map D.bool))] : List (Nat × Blk))) [5, 50] [3, 49] [0, 1, 2] Q k0 Q Q Q Q Q (fun s z38 hm hz38 => ?_)))))))))
     obtain⟨x36,b37⟩:=s
     refine WN [3,5,49,50] Q Q (RS (SA TK Q (TN (WN [3,5,49,50,51] Q Q (TQ ?_)))))
     refine TC _ Q (fun h39=>?_) (fun h39=>?_)
     ·replace hm:=JT h39 hm
      refine TS (WT (WN [3,5,49,50] Q Q (TQ (TB (RS (SA TK Q (SA TK Q (TN (WN [3,5,8,49,50] Q Q ?_)))))))))
      refine cN follows  ?_
      iterate 4 (refine DA [0,1,2] TK Q ?_)
      obtain⟨r40,hr40,hm⟩:=BI hm
      refine DX [0,1,2] Q Q (RN Q Q (SC (.d _) (SC (.d _) (SC (.d _) SN))) (jK hr40)) ?_
      iterate 3 (refine DA [0,1,2] TK Q ?_)
      obtain⟨r41,hr41,hm⟩:=BI hm
      refine DX [0,1,2] Q Q (RN Q Q (SC (.d _) (SC (.d _) (SC (.d _) SN))) (jK hr41)) ?_
      iterate 3 (refine DA [0,1,2] TK Q ?_)
      obtain⟨r42,hr42,hm⟩:=BI hm
      refine DX [0,1,2] Q Q (RN Q Q (SC (.d _) (SC (.d _) SN)) (gO hr42)) ?_
      iterate 3 (refine DA [0,1,2] TK Q ?_)
      obtain⟨r43,hr43,hm⟩:=BI hm
      refine DX [0,1,2] Q Q (RN Q Q (SC (.d _) (SC (.d _) SN)) (gO hr43)) (DX [0,1,2] Q Q (dW [.tmp 57,.tmp 61,.tmp 65,.tmp 69] TK Q Q oF Q Q Q Q Q) ?_)
      refine DT ?_ (by kernel_rfl)
      obtain⟨g44,hm⟩:=GI hm
      refine cT (f:=D.bool) ([r40,r41,r42,r43]:List Bool) TK Q Q oF Q Q Q Q Q (fun h=>absurd h (Nat.not_lt_zero _)) Q cR g44 Q Q (SA TK Q (TN (WK (WT (WN [3,5,49,50] Q Q (TG ?_))))))
      obtain⟨g45,hm⟩:=GI hm
      refine SX Q Q (aV Q Q Q Q g45) (SA TK Q (TN (WT ?_)))
      exact⟨_,[0,1,2],(SJ hm),Q,k0,Q⟩
     ·replace hm:=JF h39 hm
      refine aJ (WX ?_)
      obtain⟨v46,hm,hz⟩:=II hm
      rw [hz38 _ hz] at hm
      refine WX (WH (WT ?_))
      exact⟨_,[0,1,2],(SJ hm),Q,k0,Q⟩
    ·refine WN [5] Q Q (RS (SA TK Q (SA TK Q (TN (WN [4] Q Q (TR ?_))))))
     obtain rfl:=OJ hm
     exact EndsS.one _ Q (eO Q) (.refl _)

theorem qLW {p0:Program} {p1:Machine} {r:Bool} (hm:qCV p0 p1=some r):RetN Tryz.prog 62 [p0.enc,p1.enc] (.bool (r)):=by
 refine .unit (aQ qZB Tryz.func62 Q Tryz.ntmps62 Q Q (fun wX gX=>?_)) Q
 unfold qCV at hm
 refine WN [0,1] Q Q (RS (eR 0 Q Q Q (eR 1 Q Q Q (SA TK Q (TN (WN [2,3] Q Q (TQ ?_)))))))
 refine aK hm (fun x1=>([(27,.d (.bool (x1)))]:Fr)) (fun x1=>([]:List (Nat×Blk))) [27] [2,3] Q (fun z2 hm=>?_) (fun x1 hm=>?_)
 ·refine TG (SA TK Q ?_)
  obtain⟨r3,hr3,hm⟩:=BI hm
  refine SX Q Q (RN Q Q (SC (.d _) SN) (qV hr3)) (SA TK Q (SB TK Q (fun q4 hq4=>?_)))
  cases q4
  ·replace hm:=eU hq4 hm
   refine SA TK Q (SA TK Q (SX Q Q (aT TK Q Q Q) (SA TK Q (SA TK Q (SX Q Q (aT TK Q Q Q) (SA TK Q (SA TK Q (SB TK Q (fun q5 hq5=>?_)))))))))
   cases q5
   ·replace hm:=eU hq5 hm
    refine SA TK Q (SA TK Q (SX Q Q (aT TK Q Q Q) (SA TK Q (SA TK Q (SX Q Q (aT TK Q Q Q) (SA TK Q (SA TK Q (TN (WT ?_)))))))))
    exact⟨_,[0,1],(SJ hm),Q,k0,Q⟩
   ·replace hm:=eT hq5 hm
    iterate 8 (refine SA TK Q ?_)
    refine TN (WT ?_)
    exact⟨_,[0,1],(SJ hm),Q,k0,Q⟩
  ·replace hm:=eT hq4 hm
   iterate 17 (refine SA TK Q ?_)
   refine TN (WT ?_)
   exact⟨_,[0,1],(SJ hm),Q,k0,Q⟩
 ·refine WN [2,3,27] Q Q ?_
  refine TC _ Q (fun h6=>?_) (fun h6=>?_)
  ·replace hm:=JA h6 hm
   refine RS (SA TK Q (TN (WN [4] Q Q (TR (WR ?_)))))
   obtain rfl:=OJ hm
   exact EndsS.one _ Q (.d _) (.refl _)
  ·replace hm:=JB h6 hm
   refine TS (WT (WN [2,3] Q Q ?_))
   refine dI hm (fun _=>([]:Fr)) (fun _=>([]:List (Nat×Blk))) [] [] Q (fun z7 hm hz7=>?_) (fun j hm=>?_)
   ·refine RS (SA TK Q (SA TK Q (SX Q Q (aT TK Q Q Q) (SA TK Q (TN (WN [3, 29, 30, 31] Q Q (TB (aZ hm (fun x9 => ([(31, .d (.int .i64 x9))] : Fr)) (fun x9 => ([] : List (Nat × Blk))) [31] [3, 29, 30] [0, 1] Q k0 Q Q Q Q Q (fun x9 z10 hm hz10 => (WN [3, 29, 30, 31] Q Q ?_))))))))))
    refine RS (SA TK Q (TN (WN [3,29,30,31,32] Q Q (TQ ?_))))
    refine TC _ Q (fun h11=>?_) (fun h11=>?_)
    ·replace hm:=JT h11 hm
     refine TS (WT (WN [3,29,30,31] Q Q (TQ (TB (RS (SA TK Q ?_))))))
     obtain⟨e12,he12,hm⟩:=GV hm
     refine SX Q Q (bZ TK Q Q Q Q he12) (SA TK Q (dA 2 Q Q fV Q (cO 2 [none,none,none,none,none,some 3] Q Q (SA TK Q (SA TK Q (TN (WN [3,5,6,29,30,31] Q Q ?_)))))))
     refine aK hm (fun x13=>([(51,.d (.bool (x13)))]:Fr)) (fun x13=>([]:List (Nat×Blk))) [51] [3,29,30,31] Q (fun z14 hm=>?_) (fun x13 hm=>?_)
     ·refine cN follows  ?_
      iterate 3 (refine DA [0,1,2] TK Q ?_)
      obtain⟨e15,he15,hm⟩:=GV hm
      refine DX [0,1,2] Q Q (bZ TK Q Q Q Q he15) ?_
      iterate 2 (refine DA [0,1,2] TK Q ?_)
      refine d_b [0,1,2] TK Q (fun q16 hq16=>?_)
      cases q16
      ·replace hm:=JF hq16 hm
       iterate 3 (refine DA [0,1,2] TK Q ?_)
       obtain⟨e17,he17,hm⟩:=GV hm
       refine DX [0,1,2] Q Q (bZ TK Q Q Q Q he17) ?_
       iterate 5 (refine DA [0,1,2] TK Q ?_)
       refine DT ?_ (by kernel_rfl)
       refine TN (WT ?_)
       exact⟨_,[0,1,2],(SJ hm),Q,k0,Q⟩
      ·replace hm:=JT hq16 hm
       iterate 9 (refine DA [0,1,2] TK Q ?_)
       refine DT ?_ (by kernel_rfl)
       refine TN (WT ?_)
       exact⟨_,[0,1,2],(SJ hm),Q,k0,Q⟩
     ·refine WN [3,29,30,31,51] Q Q ?_
      refine TC _ Q (fun h18=>?_) (fun h18=>?_)
      ·replace hm:=JA h18 hm
       refine RS (SA TK Q (TN (WN [4] Q Q (TR (WB (WR ?_))))))
       obtain⟨v19,hm,hz⟩:=II hm
       rw [hz10 _ hz] at hm
       refine WR (WB ?_)
       obtain⟨v20,hm,hz⟩:=II hm
       rw [hz7 _ hz] at hm
       refine WR ?_
       obtain rfl:=OJ hm
       exact EndsS.one _ Q (.d _) (.refl _)
      ·replace hm:=JB h18 hm
       refine TS (WK (WT (WN [3,29,30,31] Q Q (TG ?_))))
       obtain⟨g21,hm⟩:=GI hm
       refine SX Q Q (aV Q Q Q Q g21) (SA TK Q (TN (WT ?_)))
       exact⟨_,[0,1],(SJ hm),Q,k0,Q⟩
    ·replace hm:=JF h11 hm
     refine aJ (WX ?_)
     obtain⟨v22,hm,hz⟩:=II hm
     rw [hz10 _ hz] at hm
     refine WX (WH (WT ?_))
     exact⟨_,[0,1],(SJ hm),Q,k0,Q⟩
   ·refine WN [] Q Q (RS (SA TK Q (TN (WN [4] Q Q (TR ?_)))))
    obtain rfl:=OJ hm
    exact EndsS.one _ Q (.d _) (.refl _)

end Go.Proofs.YtcagmechagiclaaGreatDoor

set_option maxHeartbeats 8000000
set_option linter.unusedSimpArgs false
set_option linter.unusedVariables false
set_option maxRecDepth 20000
namespace Go.Proofs.YtcagmechagiclaaGreatDoor
open Go Go.TL

theorem xZ {p0:Int} {p1:Bool} {r0:Int} {r1:Bool} (hm:oQ p0 p1=some (r0,r1)):RetT Tryz.prog 123 [.int .i64 p0,.bool (p1)] [.int .i64 r0,.bool (r1)]:=by
 refine .of (mv:=fun _=>false) (pH qUO Tryz.func123 Q Tryz.ntmps123 Q Q (fun wX gX=>?_))
 unfold oQ at hm
 refine WN [0,1] Q Q (RS (SA TK Q (SA TK Q (TN (WN [0,1] Q Q (RS ?_))))))
 iterate 4 (refine SA TK Q ?_)
 refine TN (WN [4,5] Q Q (TR ?_))
 obtain⟨rfl,rfl⟩:=Prod.mk.inj (Option.some.inj hm)
 exact EndsT.two Q (.d _) (.refl _) (.d _) (.refl _)

theorem xY {p0:Int} {p1:Bool} {p2:Rung} {r0:Int} {r1:Bool} (hm:oP p0 p1 p2=some (r0,r1)):RetT Tryz.prog 124 [.int .i64 p0,.bool (p1),.ptr (p2.enc) 0] [.int .i64 r0,.bool (r1)]:=by
 refine .of (mv:=fun _=>false) (pH qUN Tryz.func124 Q Tryz.ntmps124 Q Q (fun wX gX=>?_))
 unfold oP at hm
 refine WN [0,1,2] Q Q (RS (SA TK Q (SA TK Q (TN (WN [0,1,2] Q Q (TQ (RS (SA TK Q (SA TK Q (TN ?_))))))))))
 refine WN [0,2,8] Q Q ?_
 refine TC _ Q (fun h1=>?_) (fun h1=>?_)
 ·replace hm:=JA h1 hm
  refine RS (SA TK Q (SA TK Q (TN (WN [5,6] Q Q (TR (WR ?_))))))
  obtain⟨rfl,rfl⟩:=Prod.mk.inj (Option.some.inj hm)
  exact EndsT.two Q (.d _) (.refl _) (.d _) (.refl _)
 ·replace hm:=JB h1 hm
  refine TS (WT (WN [0,2] Q Q (TQ (RS ?_))))
  iterate 4 (refine SA TK Q ?_)
  refine TN (WN [0,2,12] Q Q ?_)
  refine TC _ Q (fun h2=>?_) (fun h2=>?_)
  ·replace hm:=JT h2 hm
   refine TG (SA TK Q ?_)
   obtain⟨g3,hm⟩:=GI hm
   refine SX Q Q (aV Q Q Q Q g3) (SA TK Q (TN (WT (WN [0,2] Q Q (cE follows  ?_)))))
   iterate 6 (refine DA [] TK Q ?_)
   refine DT ?_ (by kernel_rfl)
   refine SA TK Q (TN (WN [5,6] Q Q (TR ?_)))
   obtain⟨rfl,rfl⟩:=Prod.mk.inj (Option.some.inj hm)
   exact EndsT.two Q (.d _) (.refl _) (.d _) (.refl _)
  ·replace hm:=JF h2 hm
   refine TS (WT (WN [0,2] Q Q (cE follows  ?_)))
   iterate 6 (refine DA [] TK Q ?_)
   refine DT ?_ (by kernel_rfl)
   refine SA TK Q (TN (WN [5,6] Q Q (TR ?_)))
   obtain⟨rfl,rfl⟩:=Prod.mk.inj (Option.some.inj hm)
   exact EndsT.two Q (.d _) (.refl _) (.d _) (.refl _)

theorem qCS {p0:Rung} {r:Effect} (hm:sV p0=some r):RetD Tryz.prog 65 [p0.enc] (r.enc):=by
 refine .of (mv:=fun _=>false) (aQ qYY Tryz.func65 Q Tryz.ntmps65 Q Q (fun wX gX=>?_))
 unfold sV at hm
 refine WN [0] Q Q (RS (eR 0 Q Q Q (dA 1 Q Q qGK Q (TN (WN [1,2] Q Q (TQ (RS (SA TK Q (SA TK Q (SA TK Q ?_))))))))))
 refine TN (WN [1,2,5] Q Q ?_)
 refine TC _ Q (fun h1=>?_) (fun h1=>?_)
 ·replace hm:=eT h1 hm
  refine RS (SX Q Q (dJ Q qSF qGK Q Q Q Q) (SA TK Q (TN (WN [2] Q Q (TR (WR ?_))))))
  obtain rfl:=OJ hm
  exact EndsS.cellR _ TK Q Q Q Q Q (.d _)
 ·replace hm:=eU h1 hm
  refine TS (WT (WN [1,2] Q Q (qVM 0 Q Q Q Q Q (RS (SA TK Q (SX Q Q (dJ Q qSF qGK Q Q Q Q) (SA TK Q (TN ?_))))))))
  refine WN [2] Q Q (TR ?_)
  obtain rfl:=OJ hm
  exact EndsS.cellR _ TK Q Q Q Q Q (.d _)

theorem qFE {p0:Expr} {r:If_node} (hm:uS p0=some r):RetD Tryz.prog 156 [.ptr (p0.enc) 0] (r.enc):=by
 refine .of (mv:=fun _=>false) (aQ qTW Tryz.func156 Q Tryz.ntmps156 Q Q (fun wX gX=>?_))
 unfold uS at hm
 refine WN [0] Q Q (RS (SA TK Q (TN (WN [0] Q Q (TQ (RS ?_))))))
 iterate 4 (refine SA TK Q ?_)
 refine TN (WN [0,6] Q Q (TB (RS (SA TK Q (SA TK Q (TN (WN [0,6,7] Q Q ?_)))))))
 refine TC _ Q (fun h1=>?_) (fun h1=>?_)
 ·replace hm:=JT h1 hm
  refine RS (SA TK Q (SX Q Q (dJ Q plc180 qGJ Q Q Q Q) (SA TK Q (SA TK Q (TN (WN [2] Q Q (TR (WB (WR ?_)))))))))
  obtain rfl:=OJ hm
  exact EndsS.one _ Q (.d _) (.refl _)
 ·replace hm:=JF h1 hm
  refine RS (SA TK Q (SA TK Q (TN (WN [0,6,12] Q Q ?_))))
  refine TC _ Q (fun h2=>?_) (fun h2=>?_)
  ·replace hm:=JT h2 hm
   refine RS ?_
   iterate 4 (refine SA TK Q ?_)
   refine SX Q Q (aT TK Q Q Q) (SA TK Q (TN (WN [0,19] Q Q ?_)))
   refine TC _ Q (fun h3=>?_) (fun h3=>?_)
   ·replace hm:=JT h3 hm
    refine RS (SA TK Q (SX Q Q (dJ Q plc181 qGI Q Q Q Q) (SA TK Q (SA TK Q (TN (WN [2] Q Q (TR (WB (WR ?_)))))))))
    obtain rfl:=OJ hm
    exact EndsS.one _ Q (.d _) (.refl _)
   ·replace hm:=JF h3 hm
    refine TS (WK (WT (WN [0] Q Q (RS (SA TK Q (SX Q Q (dJ Q qSD qND Q Q Q Q) (SA TK Q (SA TK Q (TN ?_)))))))))
    refine WN [2] Q Q (TR ?_)
    obtain rfl:=OJ hm
    exact EndsS.one _ Q (.d _) (.refl _)
  ·replace hm:=JF h2 hm
   refine RS (SA TK Q (SA TK Q (TN (WN [0,6,23] Q Q ?_))))
   refine TC _ Q (fun h4=>?_) (fun h4=>?_)
   ·replace hm:=JT h4 hm
    refine RS (SA TK Q (SX Q Q (dJ Q plc182 qGH Q Q Q Q) (SA TK Q (SA TK Q (TN (WN [2] Q Q (TR (WB (WR ?_)))))))))
    obtain rfl:=OJ hm
    exact EndsS.one _ Q (.d _) (.refl _)
   ·replace hm:=JF h4 hm
    refine RS (SA TK Q (SA TK Q (TN (WN [0,28] Q Q ?_))))
    refine TC _ Q (fun h5=>?_) (fun h5=>?_)
    ·replace hm:=JT h5 hm
     refine RS (SA TK Q (SX Q Q (dJ Q plc183 qGG Q Q Q Q) (SA TK Q (SA TK Q (TN (WN [2] Q Q (TR (WB (WR ?_)))))))))
     obtain rfl:=OJ hm
     exact EndsS.one _ Q (.d _) (.refl _)
    ·replace hm:=JF h5 hm
     refine TS (WK (WT (WN [0] Q Q (RS (SA TK Q (SX Q Q (dJ Q qSD qND Q Q Q Q) (SA TK Q (SA TK Q (TN ?_)))))))))
     refine WN [2] Q Q (TR ?_)
     obtain rfl:=OJ hm
     exact EndsS.one _ Q (.d _) (.refl _)

theorem qHP:∀ (fu:Nat) {p0:Expr} {p1:(List Bool)} {r:Bool} (hm:lA fu p0 p1=some r),RetN Tryz.prog 125 [.ptr (p0.enc) 0,.sl 1 (p1.map D.bool)] (.bool (r)):=by
 intro fu
 induction fu with
 | zero=>
  intro p0 p1 r hm
  unfold lA at hm
  cases hm
 | succ fu ih=>
  intro p0 p1 r hm
  refine .unit (aQ qUM Tryz.func125 Q Tryz.ntmps125 Q Q (fun wX gX=>?_)) Q
  unfold lA at hm
  refine WN [0,1] Q Q (RS (SA TK Q (TN (WN [0,1] Q Q ?_))))
  refine dI hm (fun _=>([]:Fr)) (fun _=>([]:List (Nat×Blk))) [] [0] Q (fun z1 hm hz1=>?_) (fun j hm=>?_)
  ·refine RS (SA TK Q ?_)
   obtain⟨r2,hr2,hm⟩:=BI hm
   refine SX Q Q (RD Q Q Q (qFE hr2)) (TN (WN [0,1,12] Q Q (TB (RS ?_))))
   by_cases h3:r2.tid=180
   ·rw [if_pos h3] at hm
    refine SX Q Q (qNG Q qOO Q h3) (SA TK Q (SA TK Q (TN (WN [0,1,12,14,15] Q Q ?_))))
    refine TC true Q (fun _=>?_) (fun h=>by cases h)
    refine RS (dA 0 Q Q qGJ Q (SA TK Q (TN (WN [1,5] Q Q ?_))))
    refine aK hm (fun x4=>([(4,.d (.bool (x4)))]:Fr)) (fun x4=>([]:List (Nat×Blk))) [4] [] Q (fun z5 hm=>?_) (fun x4 hm=>?_)
    ·refine TG ?_
     iterate 6 (refine SA TK Q ?_)
     refine SB TK Q (fun q6 hq6=>?_)
     cases q6
     ·replace hm:=JF hq6 hm
      iterate 20 (refine SA TK Q ?_)
      refine TN (WT ?_)
      exact⟨_,[0],(SJ hm),Q,k0,Q⟩
     ·replace hm:=JT hq6 hm
      iterate 6 (refine SA TK Q ?_)
      refine SX Q Q (aT TK Q Q Q) (SA TK Q (SA TK Q (SB TK Q (fun q7 hq7=>?_))))
      cases q7
      ·replace hm:=JF hq7 hm
       iterate 10 (refine SA TK Q ?_)
       refine TN (WT ?_)
       exact⟨_,[0],(SJ hm),Q,k0,Q⟩
      ·replace hm:=JT hq7 hm
       iterate 6 (refine SA TK Q ?_)
       obtain⟨e8,he8,hm⟩:=GV hm
       refine SX Q Q (bZ TK Q Q Q Q he8) (SA TK Q (SA TK Q (SA TK Q (TN (WT ?_)))))
       exact⟨_,[0],(SJ hm),Q,k0,Q⟩
    ·refine WN [4] Q Q (TR (WB ?_))
     obtain⟨v9,hm,hz⟩:=II hm
     rw [hz1 _ hz] at hm
     refine WR ?_
     obtain rfl:=OJ hm
     exact EndsS.one _ Q (.d _) (.refl _)
   ·rw [if_neg h3] at hm
    refine SX Q Q (qNH Q qOO Q h3 qGJ Q) (SA TK Q (SA TK Q (TN (WN [0,1,12,14] Q Q (TC false Q (fun h=>by cases h) (fun _=>(RS ?_)))))))
    by_cases h10:r2.tid=181
    ·rw [if_pos h10] at hm
     refine SX Q Q (qNG Q qON Q h10) (SA TK Q (SA TK Q (TN (WN [0,1,12,43,44] Q Q ?_))))
     refine TC true Q (fun _=>?_) (fun h=>by cases h)
     refine RS (dA 0 Q Q qGI Q (SA TK Q (TN (WN [1,6] Q Q (RS ?_)))))
     iterate 5 (refine SA TK Q ?_)
     obtain⟨e11,he11,hm⟩:=GV hm
     refine SX Q Q (qNF TK Q Q Q Q he11 (Expr.encR_eq _)) (SA TK Q ?_)
     obtain⟨r12,hr12,hm⟩:=BI hm
     refine SX Q Q (RN Q Q (SC (.d _) (SC (.d _) SN)) (ih hr12)) (SA TK Q (SA TK Q (TN (WN [4] Q Q (TR (WB ?_))))))
     obtain⟨v13,hm,hz⟩:=II hm
     rw [hz1 _ hz] at hm
     refine WR ?_
     obtain rfl:=OJ hm
     exact EndsS.one _ Q (.d _) (.refl _)
    ·rw [if_neg h10] at hm
     refine SX Q Q (qNH Q qON Q h10 qGI Q) (SA TK Q (SA TK Q (TN (WN [0,1,12,43] Q Q (TC false Q (fun h=>by cases h) (fun _=>(RS ?_)))))))
     by_cases h14:r2.tid=182
     ·rw [if_pos h14] at hm
      refine SX Q Q (qNG Q qOM Q h14) (SA TK Q (SA TK Q (TN (WN [0,1,12,55,56] Q Q ?_))))
      refine TC true Q (fun _=>?_) (fun h=>by cases h)
      refine RS (dA 0 Q Q qGH Q (SA TK Q (TN (WN [1,7] Q Q ?_))))
      refine dI hm (fun _=>([]:Fr)) (fun _=>([]:List (Nat×Blk))) [] [] Q (fun z15 hm hz15=>?_) (fun j hm=>?_)
      ·refine RS ?_
       iterate 5 (refine SA TK Q ?_)
       refine SX Q Q (aT TK Q Q Q) (SA TK Q (TN (WN [1,7,62,63] Q Q (TB (aZ hm (fun x17=>([(63,.d (.int .i64 x17))]:Fr)) (fun x17=>([]:List (Nat×Blk))) [63] [1,7,62] [0] Q k0 Q Q Q Q Q (fun x17 z18 hm hz18=>(WN [1,7,62,63] Q Q (RS (SA TK Q ?_)))))))))
       refine TN (WN [1,7,62,63,64] Q Q (TQ ?_))
       refine TC _ Q (fun h19=>?_) (fun h19=>?_)
       ·replace hm:=JT h19 hm
        refine TS (WT (WN [1,7,62,63] Q Q (TQ (TB (RS (SA TK Q (SA TK Q (TN (WN [1,7,8,62,63] Q Q ?_)))))))))
        refine RS ?_
        iterate 6 (refine SA TK Q ?_)
        obtain⟨e20,he20,hm⟩:=GV hm
        refine SX Q Q (qNF TK Q Q Q Q he20 (Expr.encR_eq _)) (SA TK Q ?_)
        obtain⟨r21,hr21,hm⟩:=BI hm
        refine SX Q Q (RN Q Q (SC (.d _) (SC (.d _) SN)) (ih hr21)) (SA TK Q (TN (WN [1,7,62,63,75] Q Q ?_)))
        refine TC _ Q (fun h22=>?_) (fun h22=>?_)
        ·replace hm:=JA h22 hm
         refine RS (SA TK Q (TN (WN [4] Q Q (TR (WB (WR ?_))))))
         obtain⟨v23,hm,hz⟩:=II hm
         rw [hz18 _ hz] at hm
         refine WR (WB ?_)
         obtain⟨v24,hm,hz⟩:=II hm
         rw [hz15 _ hz] at hm
         refine WR (WB ?_)
         obtain⟨v25,hm,hz⟩:=II hm
         rw [hz1 _ hz] at hm
         refine WR ?_
         obtain rfl:=OJ hm
         exact EndsS.one _ Q (.d _) (.refl _)
        ·replace hm:=JB h22 hm
         refine TS (WK (WT (WN [1,7,62,63] Q Q (TG ?_))))
         obtain⟨g26,hm⟩:=GI hm
         refine SX Q Q (aV Q Q Q Q g26) (SA TK Q (TN (WT ?_)))
         exact⟨_,[0],(SJ hm),Q,k0,Q⟩
       ·replace hm:=JF h19 hm
        refine aJ (WX ?_)
        obtain⟨v27,hm,hz⟩:=II hm
        rw [hz18 _ hz] at hm
        refine WX (WH (WT ?_))
        exact⟨_,[0],(SJ hm),Q,k0,Q⟩
      ·refine WN [] Q Q (RS (SA TK Q (TN (WN [4] Q Q (TR (WB ?_))))))
       obtain⟨v28,hm,hz⟩:=II hm
       rw [hz1 _ hz] at hm
       refine WR ?_
       obtain rfl:=OJ hm
       exact EndsS.one _ Q (.d _) (.refl _)
     ·rw [if_neg h14] at hm
      refine SX Q Q (qNH Q qOM Q h14 qGH Q) (SA TK Q (SA TK Q (TN (WN [0,1,12,55] Q Q (TC false Q (fun h=>by cases h) (fun _=>(RS ?_)))))))
      by_cases h29:r2.tid=183
      ·rw [if_pos h29] at hm
       refine SX Q Q (qNG Q qOL Q h29) (SA TK Q (SA TK Q (TN (WN [0,1,78,79] Q Q ?_))))
       refine TC true Q (fun _=>?_) (fun h=>by cases h)
       refine RS (dA 0 Q Q qGG Q (SA TK Q (TN (WN [1,9] Q Q ?_))))
       refine dI hm (fun _=>([]:Fr)) (fun _=>([]:List (Nat×Blk))) [] [] Q (fun z30 hm hz30=>?_) (fun j hm=>?_)
       ·refine RS ?_
        iterate 5 (refine SA TK Q ?_)
        refine SX Q Q (aT TK Q Q Q) (SA TK Q (TN (WN [1,9,85,86] Q Q (TB (aZ hm (fun x32=>([(86,.d (.int .i64 x32))]:Fr)) (fun x32=>([]:List (Nat×Blk))) [86] [1,9,85] [0] Q k0 Q Q Q Q Q (fun x32 z33 hm hz33=>(WN [1,9,85,86] Q Q (RS (SA TK Q ?_)))))))))
        refine TN (WN [1,9,85,86,87] Q Q (TQ ?_))
        refine TC _ Q (fun h34=>?_) (fun h34=>?_)
        ·replace hm:=JT h34 hm
         refine TS (WT (WN [1,9,85,86] Q Q (TQ (TB (RS (SA TK Q (SA TK Q (TN (WN [1,9,10,85,86] Q Q ?_)))))))))
         refine RS ?_
         iterate 6 (refine SA TK Q ?_)
         obtain⟨e35,he35,hm⟩:=GV hm
         refine SX Q Q (qNF TK Q Q Q Q he35 (Expr.encR_eq _)) (SA TK Q ?_)
         obtain⟨r36,hr36,hm⟩:=BI hm
         refine SX Q Q (RN Q Q (SC (.d _) (SC (.d _) SN)) (ih hr36)) (TN (WN [1,9,85,86,97] Q Q ?_))
         refine TC _ Q (fun h37=>?_) (fun h37=>?_)
         ·replace hm:=JA h37 hm
          refine RS (SA TK Q (TN (WN [4] Q Q (TR (WB (WR ?_))))))
          obtain⟨v38,hm,hz⟩:=II hm
          rw [hz33 _ hz] at hm
          refine WR (WB ?_)
          obtain⟨v39,hm,hz⟩:=II hm
          rw [hz30 _ hz] at hm
          refine WR (WB ?_)
          obtain⟨v40,hm,hz⟩:=II hm
          rw [hz1 _ hz] at hm
          refine WR ?_
          obtain rfl:=OJ hm
          exact EndsS.one _ Q (.d _) (.refl _)
         ·replace hm:=JB h37 hm
          refine TS (WK (WT (WN [1,9,85,86] Q Q (TG ?_))))
          obtain⟨g41,hm⟩:=GI hm
          refine SX Q Q (aV Q Q Q Q g41) (SA TK Q (TN (WT ?_)))
          exact⟨_,[0],(SJ hm),Q,k0,Q⟩
        ·replace hm:=JF h34 hm
         refine aJ (WX ?_)
         obtain⟨v42,hm,hz⟩:=II hm
         rw [hz33 _ hz] at hm
         refine WX (WH (WT ?_))
         exact⟨_,[0],(SJ hm),Q,k0,Q⟩
       ·refine WN [] Q Q (RS (SA TK Q (TN (WN [4] Q Q (TR (WB ?_))))))
        obtain⟨v43,hm,hz⟩:=II hm
        rw [hz1 _ hz] at hm
        refine WR ?_
        obtain rfl:=OJ hm
        exact EndsS.one _ Q (.d _) (.refl _)
      ·rw [if_neg h29] at hm
       refine SX Q Q (qNH Q qOL Q h29 qGG Q) (SA TK Q (SA TK Q (TN (WN [0,1,78] Q Q (TC false Q (fun h=>by cases h) (fun _=>(TS (WK (WT ?_)))))))))
       exact⟨_,[],(SJ hm),Q,k0,Q⟩
  ·refine WN [0] Q Q (RS ?_)
   iterate 6 (refine SA TK Q ?_)
   refine TN (WN [4] Q Q (TR ?_))
   obtain rfl:=OJ hm
   exact EndsS.one _ Q (.d _) (.refl _)
theorem qKC {p0:Expr} {p1:(List Bool)} {r:Bool} (hm:qFX p0 p1=some r):RetN Tryz.prog 125 [.ptr (p0.enc) 0,.sl 1 (p1.map D.bool)] (.bool (r)):=qHP lG hm

theorem qKD {p0:Expr} {p1:(List Bool)} {r:Bool} (hm:zV p0 p1=some r):RetN Tryz.prog 66 [p0.enc,.sl 1 (p1.map D.bool)] (.bool (r)):=by
 refine .unit (aQ qYX Tryz.func66 Q Tryz.ntmps66 Q Q (fun wX gX=>?_)) Q
 unfold zV at hm
 refine WN [0,1] Q Q (RS (eR 0 Q Q Q (SA TK Q (TN (WN [1,2] Q Q (qVM 0 Q Q Q Q Q (RS (SA TK Q ?_))))))))
 obtain⟨r1,hr1,hm⟩:=BI hm
 refine SX Q Q (RN Q Q (SC (.d _) (SC (.d _) SN)) (qKC hr1)) (SA TK Q (TN (WN [4] Q Q (TR ?_))))
 obtain rfl:=OJ hm
 exact EndsS.one _ Q (.d _) (.refl _)

theorem qEU {p0:Program} {r:Machine} (hm:pI p0=some r):Ret Tryz.prog 22 [] (fun _=>false) ([p0.enc].map .d) (.agg [.msl 0 1 0 r.vars.length,.msl 1 1 0 r.counts.length,.d (.bool (r.halted))]) [.flat 4 1 (r.vars.map D.bool),.flat 3 1 (r.counts.map (D.int .i64))]:=by
 refine cC qOR Tryz.func22 Q Tryz.ntmps22 Q Q (fun wX gX=>?_)
 unfold pI at hm
 refine WN [0] Q Q (RS (eR 0 Q Q Q (dA 1 Q Q nG Q (jR (f:=D.bool) 1 0 2 4 1 Q Q Q (jR (f:=(D.int .i64)) 1 1 3 3 1 Q Q Q (TN (WN [1,2] Q Q (TQ ?_))))))))
 refine RS (SA TK Q ?_)
 obtain⟨r1,hr1,hm⟩:=BI hm
 refine SX Q Q (RN Q Q (SC (.d _) SN) (qV hr1)) (SA TK Q (TN (WN [1,2,5] Q Q ?_)))
 refine TC _ Q (fun h2=>?_) (fun h2=>?_)
 ·replace hm:=eT h2 hm
  refine RS (SX Q Q (jV Q qJA nG Q Q Q Q) (SA TK Q (jR (f:=D.bool) 1 0 4 4 1 Q Q Q (jR (f:=(D.int .i64)) 1 1 5 3 1 Q Q Q (TN (WN [2] Q Q (TR (WR ?_))))))))
  obtain rfl:=OJ hm
  exact⟨_,[4,5],.mk _ (.cons (.agg (TK.lay Q) Q Q Q Q) .nil) Q,by decide,k0,Q,Q⟩
 ·replace hm:=eU h2 hm
  refine TS (WT (WN [1,2] Q Q (gC (gC (cE follows  (DA [] TK Q (DA [0] TK Q (DX [] Q Q (aT TK Q Q Q) ?_))))))))
  obtain⟨g3,hm⟩:=GI hm
  refine tB [4] _ (.msl 4 1 0 (List.replicate (p0.names.length:Int).toNat false).length) Q (jZ Q) Q (zBI (f:=D.bool) (x:=false) TK Q Q Q oF Q Q Q Q Q g3 Q) (DA [] TK Q (DA [0] TK Q (DX [] Q Q (aT TK Q Q Q) ?_)))
  obtain⟨g4,hm⟩:=GI hm
  refine tB [5] _ (.msl 5 1 0 (List.replicate (p0.rungs.length:Int).toNat (0:Int)).length) Q (jZ Q) Q (zBI (f:=(D.int .i64)) (x:=(0:Int)) TK Q Q Q lI Q Q Q Q Q g4 Q) (DX [] Q Q (jV Q qJA nG Q Q Q Q) ?_)
  refine DT ?_ (by kernel_rfl)
  refine SA TK Q (TN (WN [2] Q Q (TR ?_)))
  obtain rfl:=OJ hm
  exact⟨_,[4,5],.mk _ (.cons (.agg (TK.lay Q) Q Q Q Q) .nil) Q,by decide,k0,Q,Q⟩

theorem qGX {p0:Program} {r:Machine} (hm:qCU p0=some r):Ret Tryz.prog 24 [] (fun _=>false) ([p0.enc].map .d) (.agg [.msl 0 1 0 r.vars.length,.msl 1 1 0 r.counts.length,.d (.bool (r.halted))]) [.flat 4 1 (r.vars.map D.bool),.flat 3 1 (r.counts.map (D.int .i64))]:=by
 refine cC zAJ Tryz.func24 Q Tryz.ntmps24 Q Q (fun wX gX=>?_)
 unfold qCU at hm
 refine WN [0] Q Q (RS (eR 0 Q Q Q (dA 1 Q Q nG Q (jR (f:=D.bool) 1 0 2 4 1 Q Q Q (jR (f:=(D.int .i64)) 1 1 3 3 1 Q Q Q (TN (WN [1,2] Q Q (RS ?_))))))))
 refine SA TK Q ?_
 obtain⟨r1,hr1,hm⟩:=BI hm
 refine xR Q Q Q (qEU hr1) Q Q (qRM 5 (.agg [.msl 4 1 0 r1.vars.length,.msl 5 1 0 r1.counts.length,.d (.bool (r1.halted))]) Q Q (dA 6 Q Q nG Q (jR (f:=D.bool) 6 0 7 4 1 Q Q Q (jR (f:=(D.int .i64)) 6 1 8 3 1 Q Q Q (SA TK Q (TN (WN [2,3] Q Q (RS ?_))))))))
 refine SA TK Q (SA TK Q (TN (WN [2,3] Q Q (RS (SA TK Q (SA TK Q (TN (WN [2] Q Q (TR ?_)))))))))
 obtain rfl:=OJ hm
 exact⟨_,[4,5],.mk _ (.cons (.agg (TK.lay Q) Q Q Q Q) .nil) Q,by decide,k0,Q,Q⟩

theorem tV {p0:(List Bool)} {r:(List Bool)} (hm:mV p0=some r):Ret Tryz.prog 63 [] (fun _=>false) ([.sl 1 (p0.map D.bool)].map .d) (.msl 0 1 0 r.length) [.flat 4 1 (r.map D.bool)]:=by
 refine cC qZA Tryz.func63 Q Tryz.ntmps63 Q Q (fun wX gX=>?_)
 unfold mV at hm
 refine WN [0] Q Q (RS (jD (f:=D.bool) 0 4 1 Q Q Q (TN (WN [0] Q Q (TQ (RS (SA TK Q (qNO Q Tryz.underlying41 Q Q (fun b1 hb1=>?_)))))))))
 refine TN (WN [0,4] Q Q ?_)
 refine TC _ Q (fun h2=>?_) (fun h2=>?_)
 ·obtain⟨hnb1,hm⟩:=zBN (hb1 h2) hm
  subst hnb1
  refine RS (jD (f:=D.bool) 1 4 1 Q Q Q (TN (WN [2] Q Q (TR (WR ?_)))))
  obtain rfl:=OJ hm
  exact⟨_,[1],res Q,by decide,k0,Q,Q⟩
 ·replace hm:=zBO hm
  refine TS (WT (WN [0] Q Q (RS (xB (f:=D.bool) 1 [] ([]:List Bool) TK Q Q Q oF Q Q Q Q Q (SA TK Q ?_)))))
  obtain⟨g3,hm⟩:=GI hm
  refine cT (f:=D.bool) p0 TK Q Q oF Q Q Q Q Q (fun h=>absurd h (Nat.not_lt_zero _)) Q cR g3 Q Q (SA TK Q (TN (WN [2] Q Q (TR ?_))))
  obtain rfl:=OJ hm
  exact⟨_,[1],res Q,by decide,k0,Q,Q⟩

theorem uB {p0:(List Int)} {r:(List Int)} (hm:nH p0=some r):Ret Tryz.prog 64 [] (fun _=>false) ([.sl 1 (p0.map (D.int .i64))].map .d) (.msl 0 1 0 r.length) [.flat 3 1 (r.map (D.int .i64))]:=by
 refine cC qYZ Tryz.func64 Q Tryz.ntmps64 Q Q (fun wX gX=>?_)
 unfold nH at hm
 refine WN [0] Q Q (RS (jD (f:=(D.int .i64)) 0 3 1 Q Q Q (TN (WN [0] Q Q (TQ (RS (SA TK Q (qNO Q Tryz.underlying23 Q Q (fun b1 hb1=>?_)))))))))
 refine TN (WN [0,4] Q Q ?_)
 refine TC _ Q (fun h2=>?_) (fun h2=>?_)
 ·obtain⟨hnb1,hm⟩:=zBN (hb1 h2) hm
  subst hnb1
  refine RS (jD (f:=(D.int .i64)) 1 3 1 Q Q Q (TN (WN [2] Q Q (TR (WR ?_)))))
  obtain rfl:=OJ hm
  exact⟨_,[1],res Q,by decide,k0,Q,Q⟩
 ·replace hm:=zBO hm
  refine TS (WT (WN [0] Q Q (RS (xB (f:=(D.int .i64)) 1 [] ([]:List Int) TK Q Q Q lI Q Q Q Q Q (SA TK Q ?_)))))
  obtain⟨g3,hm⟩:=GI hm
  refine cT (f:=(D.int .i64)) p0 TK Q Q lI Q Q Q Q Q (fun h=>absurd h (Nat.not_lt_zero _)) Q cR g3 Q Q (SA TK Q (TN (WN [2] Q Q (TR ?_))))
  obtain rfl:=OJ hm
  exact⟨_,[1],res Q,by decide,k0,Q,Q⟩

theorem qCT {p0:Program} {p1:Machine} {p2:(List Bool)} {r:Machine} (hm:yA p0 p1 p2=some r):RetD Tryz.prog 23 [p0.enc,p1.enc,.sl 1 (p2.map D.bool)] (r.enc):=by
 refine .of (mv:=fun _=>false) (aQ zAK Tryz.func23 Q Tryz.ntmps23 Q Q (fun wX gX=>?_))
 unfold yA at hm
 refine WN [0,1,2] Q Q (RS (eR 0 Q Q Q (eR 1 Q Q Q (dA 2 Q Q nG Q (jR (f:=D.bool) 2 0 3 4 1 Q Q Q (jR (f:=(D.int .i64)) 2 1 4 3 1 Q Q Q (TN (WN [2,3,4,6] Q Q ?_))))))))
 refine TQ ?_
 refine aK hm (fun x1=>([(18,.d (.bool (x1)))]:Fr)) (fun x1=>([]:List (Nat×Blk))) [18] [2,3,4,6] Q (fun z2 hm=>?_) (fun x1 hm=>?_)
 ·refine TG (SA TK Q (SA TK Q (SB TK Q (fun q3 hq3 => ?_))))
  cases q3
  ·replace hm:=JB hq3 hm
   refine SA TK Q (SA TK Q ?_)
   obtain⟨r4,hr4,hm⟩:=BI hm
   refine SX Q Q (RN Q Q (SC (.d _) (SC (.d _) SN)) (qLW hr4)) (SA TK Q (SA TK Q (TN (WT ?_))))
   exact⟨_,[0,1,2,3,4],(SJ hm),Q,k0,Q⟩
  ·replace hm:=JA hq3 hm
   iterate 5 (refine SA TK Q ?_)
   refine TN (WT ?_)
   exact⟨_,[0,1,2,3,4],(SJ hm),Q,k0,Q⟩
 ·refine WN [2,3,4,6,18] Q Q ?_
  refine TC _ Q (fun h5=>?_) (fun h5=>?_)
  ·replace hm:=JA h5 hm
   refine RS (SA TK Q ?_)
   obtain⟨r6,hr6,hm⟩:=BI hm
   refine xR Q Q Q (qGX hr6) Q Q (qRM 20 (.agg [.msl 5 1 0 r6.vars.length,.msl 6 1 0 r6.counts.length,.d (.bool (r6.halted))]) Q Q (SA TK Q (TN (WN [6] Q Q (TR (WR ?_))))))
   obtain rfl:=OJ hm
   exact EndsS.cellR _ TK Q Q Q Q Q (kS (.cons (eO Q) Q (.cons (eO Q) Q (.cons (.d _) Q .nil))))
  ·replace hm:=JB h5 hm
   refine TS (WT (WN [2,3,4,6] Q Q (gC (gC (gC (cE follows  (DA [] TK Q (DA [1] TK Q ?_))))))))
   obtain⟨r7,hr7,hm⟩:=BI hm
   refine tB [5] [(5,.flat 4 1 (r7.map D.bool))] (.msl 5 1 0 r7.length) Q (jZ Q) Q (qID (Bs:=[.flat 4 1 (r7.map D.bool)]) [5] (by intro i h;simp only [List.mem_cons,List.not_mem_nil,or_false] at h;rcases h with rfl<;>rfl) (by decide) Q Q Q Q (tV hr7) (by intro B h;simp only [List.mem_cons,List.not_mem_nil,or_false] at h;rcases h with rfl<;>exact qFV (fun _=>Q)) (.msl _ _ _ _) Q (by intro B h;simp only [List.mem_cons,List.not_mem_nil,or_false] at h;rcases h with rfl<;>rfl)) ?_
   refine DA [] TK Q (DA [1] TK Q ?_)
   obtain⟨r8,hr8,hm⟩:=BI hm
   refine tB [6] [(6,.flat 3 1 (r8.map (D.int .i64)))] (.msl 6 1 0 r8.length) Q (jZ Q) Q (qID (Bs:=[.flat 3 1 (r8.map (D.int .i64))]) [6] (by intro i h;simp only [List.mem_cons,List.not_mem_nil,or_false] at h;rcases h with rfl<;>rfl) (by decide) Q Q Q Q (uB hr8) (by intro B h;simp only [List.mem_cons,List.not_mem_nil,or_false] at h;rcases h with rfl<;>exact qFV (fun _=>Q)) (.msl _ _ _ _) Q (by intro B h;simp only [List.mem_cons,List.not_mem_nil,or_false] at h;rcases h with rfl<;>rfl)) ?_
   refine DX [] Q Q (jV Q qJA nG Q Q Q Q) (tB [7] _ (.mptr 7 0 0 0) Q (jZ Q) Q (kM Q Q nG Q Q) ?_)
   refine DT ?_ (by kernel_rfl)
   refine SA TK Q (TN (WN [2,3,6,7] Q Q ?_))
   refine aK hm (fun b9=>([]:Fr)) (fun b9=>([(5,.flat 4 1 (b9.map D.bool)),(7,.box 48 [.msl 5 1 0 b9.length,.msl 6 1 0 r8.length,.d (.bool (false))])]:List (Nat×Blk))) [] [3,6,7] Q (fun z10 hm=>?_) (fun b9 hm=>?_)
   ·refine RS (SA TK Q (SA TK Q (SA TK Q (TN (WN [2, 3, 6, 7, 29, 30] Q Q (TB (aZ hm (fun (x14, b15) => ([(30, .d (.int .i64 x14))] : Fr)) (fun (x14, b15) => ([(5, .flat 4 1 (b15.map D.bool)), (7, .box 48 [.msl 5 1 0 b15.length, .msl 6 1 0 r8.length, .d (.bool (false))])] : List (Nat × Blk))) [30] [2, 3, 6, 7, 29] [0, 1, 2, 3, 4, 5, 6, 7] Q k0 Q Q Q Q Q (fun s z16 hm hz16 => ?_))))))))
    obtain⟨x14,b15⟩:=s
    refine WN [2,3,6,7,29,30] Q Q (RS (SA TK Q (TN (WN [2,3,6,7,29,30,31] Q Q (TQ ?_)))))
    refine TC _ Q (fun h17=>?_) (fun h17=>?_)
    ·replace hm:=JT h17 hm
     refine TS (WT (WN [2,3,6,7,29,30] Q Q (TQ (TB (RS (SA TK Q (SA TK Q (TN (WN [2,3,6,7,8,29,30] Q Q ?_)))))))))
     refine cN follows  ?_
     iterate 5 (refine DA [0,1,2,3,4,5,6,7] TK Q ?_)
     refine DX [0,1,2,3,4,5,6,7] Q Q (aT TK Q Q Q) (DA [0,1,2,3,4,5,6,7] TK Q (d_b [0,1,2,3,4,5,6,7] TK Q (fun q18 hq18=>?_)))
     cases q18
     ·replace hm:=JF hq18 hm
      iterate 5 (refine DA [0,1,2,3,4,5,6,7] TK Q ?_)
      obtain⟨e19,he19,hm⟩:=GV hm
      refine DX [0,1,2,3,4,5,6,7] Q Q (oG TK Q Q Q Q he19 Q) ?_
      refine DT ?_ (by kernel_rfl)
      refine qCC (x':=false) TK Q Q Q Q Q he19.2 Q Q Q (oU 34 (b15.set x14.toNat false).length Q List.length_set.symm ?_)
      refine qFJ 7 [.msl 5 1 0 (b15.set x14.toNat false).length,.msl 6 1 0 r8.length,.d (.bool (false))] Q (by simp only [List.length_set]) ?_
      refine TN (WK (WT (WN [2,3,6,7,29,30] Q Q (TG ?_))))
      obtain⟨g20,hm⟩:=GI hm
      refine SX Q Q (aV Q Q Q Q g20) (SA TK Q (TN (WT ?_)))
      exact⟨_,[0,1,2,3,4,5,6,7],(SJ hm),Q,k0,Q⟩
     ·replace hm:=JT hq18 hm
      iterate 2 (refine DA [0,1,2,3,4,5,6,7] TK Q ?_)
      obtain⟨e21,he21,hm⟩:=GV hm
      refine DX [0,1,2,3,4,5,6,7] Q Q (bZ TK Q Q Q Q he21) ?_
      iterate 2 (refine DA [0,1,2,3,4,5,6,7] TK Q ?_)
      obtain⟨e22,he22,hm⟩:=GV hm
      refine DX [0,1,2,3,4,5,6,7] Q Q (oG TK Q Q Q Q he22 Q) ?_
      refine DT ?_ (by kernel_rfl)
      refine qCC (x':=e21) TK Q Q Q Q Q he22.2 Q Q Q (oU 34 (b15.set x14.toNat e21).length Q List.length_set.symm ?_)
      refine qFJ 7 [.msl 5 1 0 (b15.set x14.toNat e21).length,.msl 6 1 0 r8.length,.d (.bool (false))] Q (by simp only [List.length_set]) ?_
      refine TN (WK (WT (WN [2,3,6,7,29,30] Q Q (TG ?_))))
      obtain⟨g23,hm⟩:=GI hm
      refine SX Q Q (aV Q Q Q Q g23) (SA TK Q (TN (WT ?_)))
      exact⟨_,[0,1,2,3,4,5,6,7],(SJ hm),Q,k0,Q⟩
    ·replace hm:=JF h17 hm
     refine aJ (WX ?_)
     obtain⟨v24,hm,hz⟩:=II hm
     rw [hz16 _ hz] at hm
     refine WX (WH (WT ?_))
     exact⟨_,[0,1,2,3,4,5,6,7],(SJ hm),Q,k0,Q⟩
   ·refine WN [3,6,7] Q Q ?_
    refine aK hm (fun (b25,b26)=>([]:Fr)) (fun (b25,b26)=>([(5,.flat 4 1 (b25.map D.bool)),(6,.flat 3 1 (b26.map (D.int .i64))),(7,.box 48 [.msl 5 1 0 b25.length,.msl 6 1 0 b26.length,.d (.bool (false))])]:List (Nat×Blk))) [] [6,7] Q (fun z27 hm=>?_) (fun j hm=>?_)
    ·refine RS (SA TK Q (SA TK Q (SX Q Q (aT TK Q Q Q) (SA TK Q (TN (WN [6, 7, 49, 50, 51] Q Q (TB (aZ hm (fun (x32, b33, b34) => ([(51, .d (.int .i64 x32))] : Fr)) (fun (x32, b33, b34) => ([(5, .flat 4 1 (b33.map D.bool)), (6, .flat 3 1 (b34.map (D.int .i64))), (7, .box 48 [.msl 5 1 0 b33.length, .msl 6 1 0 b34.length, .d (.bool (false))])] : List (Nat × Blk))) [51] [6, 7, 49, 50] [0, 1, 2, 3, 4, 5, 6, 7] Q k0 Q Q Q Q Q (fun s z35 hm hz35 => ?_)))))))))
     obtain⟨x32,b33,b34⟩:=s
     refine WN [6,7,49,50,51] Q Q (RS (SA TK Q (TN (WN [6,7,49,50,51,52] Q Q (TQ ?_)))))
     refine TC _ Q (fun h36=>?_) (fun h36=>?_)
     ·replace hm:=JT h36 hm
      refine TS (WT (WN [6,7,49,50,51] Q Q (TQ (TB (RS (SA TK Q ?_))))))
      obtain⟨e37,he37,hm⟩:=GV hm
      refine SX Q Q (bZ TK Q Q Q Q he37) (SA TK Q (dA 8 Q Q fV Q (cO 8 [none,none,none,none,none,some 3] Q Q (SA TK Q (SA TK Q (TN (WN [6,7,9,10,49,50,51] Q Q (cN follows  (DA [] TK Q ?_)))))))))
      refine DA [7] TK Q ?_
      iterate 2 (refine DA [] TK Q ?_)
      refine DA [7] TK Q (DA [] TK Q ?_)
      iterate 2 (refine DA [8] TK Q ?_)
      obtain⟨r38,hr38,hm⟩:=BI hm
      refine DX [] Q Q (RD Q Q Q (qCS hr38)) ?_
      iterate 2 (refine DA [] TK Q ?_)
      refine DA [7] TK Q (DA [] TK Q ?_)
      obtain⟨e39,he39,hm⟩:=GV hm
      refine DX [] Q Q (oG TK Q Q Q Q he39 Q) (DX [6] Q Q (wF TK Q Q Q Q he39.2 Q) (DA [] TK Q (DA [8] TK Q (DA [] TK Q (DA [7] TK Q ?_)))))
      obtain⟨r40,hr40,hm⟩:=BI hm
      refine DX [5] Q Q (RN Q Q (SC (.d _) (SC (eO Q) SN)) (qKD hr40)) ?_
      cases h41:r38.act with
      | c123=>
       rw [h41] at hm
       dsimp only at hm
       obtain⟨r42,hr42,hm⟩:=BI hm
       obtain⟨r43,r44⟩:=r42
       refine DX [] Q Q (zH (ds:=[.int .i64 e39,.bool (r40)]) Q Q Q Q (xZ hr42)) ?_
       iterate 3 (refine DA [] TK Q ?_)
       obtain⟨e45,he45,hm⟩:=GV hm
       refine DX [] Q Q (oG TK Q Q Q Q he45 Q) (qXO 1000023 [6] [(6,.flat 3 1 ((b34.set x32.toNat r43).map (D.int .i64)))] (jZ Q) Q (qQT (z':=r43) TK Q Q Q Q Q Q Q he45.2 Q Q Q) ?_)
       obtain⟨e46,he46,hm⟩:=GV hm
       refine DX [] Q Q (oG TK Q Q Q Q he46 Q) ?_
       refine DT ?_ (by kernel_rfl)
       refine oU 58 (b34.set x32.toNat r43).length Q List.length_set.symm (oU 68 (b34.set x32.toNat r43).length Q List.length_set.symm ?_)
       refine qFJ 7 [.msl 5 1 0 b33.length,.msl 6 1 0 (b34.set x32.toNat r43).length,.d (.bool (false))] Q (by simp only [List.length_set]) ?_
       refine qCC (x':=r44) TK Q Q Q Q Q he46.2 Q Q Q (oU 61 (b33.set e37.var.toNat r44).length Q List.length_set.symm (oU 75 (b33.set e37.var.toNat r44).length Q List.length_set.symm ?_))
       refine qFJ 7 [.msl 5 1 0 (b33.set e37.var.toNat r44).length,.msl 6 1 0 (b34.set x32.toNat r43).length,.d (.bool (false))] Q (by simp only [List.length_set]) ?_
       refine TN (WK (WT (WN [6,7,49,50,51] Q Q (TG ?_))))
       obtain⟨g47,hm⟩:=GI hm
       refine SX Q Q (aV Q Q Q Q g47) (SA TK Q (TN (WT ?_)))
       exact⟨_,[0,1,2,3,4,5,6,7],(SJ hm),Q,k0,Q⟩
      | c124 u48=>
       rw [h41] at hm
       dsimp only at hm
       obtain⟨r49,hr49,hm⟩:=BI hm
       obtain⟨r50,r51⟩:=r49
       refine DX [] Q Q (zH (ds:=[.int .i64 e39,.bool (r40)]) Q Q Q Q (xY hr49)) ?_
       iterate 3 (refine DA [] TK Q ?_)
       obtain⟨e52,he52,hm⟩:=GV hm
       refine DX [] Q Q (oG TK Q Q Q Q he52 Q) (qXO 1000024 [6] [(6,.flat 3 1 ((b34.set x32.toNat r50).map (D.int .i64)))] (jZ Q) Q (qQT (z':=r50) TK Q Q Q Q Q Q Q he52.2 Q Q Q) ?_)
       obtain⟨e53,he53,hm⟩:=GV hm
       refine DX [] Q Q (oG TK Q Q Q Q he53 Q) ?_
       refine DT ?_ (by kernel_rfl)
       refine oU 58 (b34.set x32.toNat r50).length Q List.length_set.symm (oU 68 (b34.set x32.toNat r50).length Q List.length_set.symm ?_)
       refine qFJ 7 [.msl 5 1 0 b33.length,.msl 6 1 0 (b34.set x32.toNat r50).length,.d (.bool (false))] Q (by simp only [List.length_set]) ?_
       refine qCC (x':=r51) TK Q Q Q Q Q he53.2 Q Q Q (oU 61 (b33.set e37.var.toNat r51).length Q List.length_set.symm (oU 75 (b33.set e37.var.toNat r51).length Q List.length_set.symm ?_))
       refine qFJ 7 [.msl 5 1 0 (b33.set e37.var.toNat r51).length,.msl 6 1 0 (b34.set x32.toNat r50).length,.d (.bool (false))] Q (by simp only [List.length_set]) ?_
       refine TN (WK (WT (WN [6,7,49,50,51] Q Q (TG ?_))))
       obtain⟨g54,hm⟩:=GI hm
       refine SX Q Q (aV Q Q Q Q g54) (SA TK Q (TN (WT ?_)))
       exact⟨_,[0,1,2,3,4,5,6,7],(SJ hm),Q,k0,Q⟩
     ·replace hm:=JF h36 hm
      refine aJ (WX ?_)
      obtain⟨v55,hm,hz⟩:=II hm
      rw [hz35 _ hz] at hm
      refine WX (WH (WT ?_))
      exact⟨_,[0,1,2,3,4,5,6,7],(SJ hm),Q,k0,Q⟩
    ·obtain⟨b25,b26⟩:=j
     refine WN [6,7] Q Q (RS (SA TK Q (SA TK Q (TN (WN [6] Q Q (TR ?_))))))
     obtain rfl:=OJ hm
     exact EndsS.cellR _ TK Q Q Q Q Q (kS (.cons (eO Q) Q (.cons (eO Q) Q (.cons (.d _) Q .nil))))

theorem lX {p0:Numbering} {p1:Machine} {r:Bool} (hm:iN p0 p1=some r):RetN Tryz.prog 59 [p0.enc,p1.enc] (.bool (r)):=by
 refine .unit (aQ qZD Tryz.func59 Q Tryz.ntmps59 Q Q (fun wX gX=>?_)) Q
 unfold iN at hm
 refine WN [0,1] Q Q (RS (eR 0 Q Q Q (eR 1 Q Q Q (SA TK Q (TN (WN [2,3] Q Q ?_))))))
 refine aK hm (fun x1=>([(4,.d (.bool (x1)))]:Fr)) (fun x1=>([]:List (Nat×Blk))) [4] [] Q (fun z2 hm=>?_) (fun x1 hm=>?_)
 ·refine TG (SA TK Q (SA TK Q (SX Q Q (aT TK Q Q Q) (SA TK Q (SA TK Q (SA TK Q (SB TK Q (fun q3 hq3 => ?_))))))))
  cases q3
  ·replace hm:=JF hq3 hm
   iterate 11 (refine SA TK Q ?_)
   refine TN (WT ?_)
   exact⟨_,[0,1],(SJ hm),Q,k0,Q⟩
  ·replace hm:=JT hq3 hm
   refine SA TK Q (SA TK Q (SX Q Q (aT TK Q Q Q) ?_))
   iterate 4 (refine SA TK Q ?_)
   obtain⟨g4,hm⟩:=GI hm
   refine SX Q Q (aV Q Q Q Q g4) (SA TK Q (SA TK Q (SA TK Q (TN (WT ?_)))))
   exact⟨_,[0,1],(SJ hm),Q,k0,Q⟩
 ·refine WN [4] Q Q (TR ?_)
  obtain rfl:=OJ hm
  exact EndsS.one _ Q (.d _) (.refl _)

theorem nQ {p0:Numbering} {p1:Machine} {p2:Int} {r:RouteState} (hm:iD p0 p1 p2=some r):RetN Tryz.prog 60 [p0.enc,p1.enc,.int .i64 p2] (r.enc):=by
 refine .unit (aQ qZC Tryz.func60 Q Tryz.ntmps60 Q Q (fun wX gX=>?_)) Q
 unfold iD at hm
 refine WN [0,1,2] Q Q (RS (eR 0 Q Q Q (eR 1 Q Q Q (dA 2 Q Q yU Q (TN (WN [2,3,4,6] Q Q (RS (SX Q Q (zAS Q qWW qNE Q Q Q Q) ?_))))))))
 refine dA 3 Q Q qNE Q (SA TK Q (TN (WN [2,3,4,6,7] Q Q (RS (dA 4 Q Q yU Q (TN (WN [2,3,4,6,7,8] Q Q ?_)))))))
 refine aK hm (fun c1=>([]:Fr)) (fun c1=>([(4,.box 60 [.d (.int .i64 c1),.d (.int .i64 (0:Int)),.d (.int .i64 (0:Int))])]:List (Nat×Blk))) [] [2,3,4,6,8] Q (fun z2 hm=>?_) (fun c1 hm=>?_)
 ·refine RS (SA TK Q (SA TK Q (TN (WN [2, 3, 4, 6, 8, 12, 13] Q Q (TB (aZ hm (fun x4 => ([(13, .d (.int .i64 x4))] : Fr)) (fun x4 => ([] : List (Nat × Blk))) [13] [2, 3, 4, 6, 8, 12] [0, 1, 2, 3, 4] Q k0 Q Q Q Q Q (fun x4 z5 hm hz5 => (WN [2, 3, 4, 6, 8, 12, 13] Q Q (RS (SA TK Q ?_))))))))))
  refine TN (WN [2,3,4,6,8,12,13,14] Q Q (TQ ?_))
  refine TC _ Q (fun h6=>?_) (fun h6=>?_)
  ·replace hm:=JT h6 hm
   refine TS (WT (WN [2,3,4,6,8,12,13] Q Q (TQ (TB (RS (SA TK Q ?_))))))
   obtain⟨e7,he7,hm⟩:=GV hm
   refine SX Q Q (x_ixv (f:=(D.int .i64)) (xs:=([(1:Int),(2:Int),(3:Int),(4:Int)]:List Int)) Q Tryz.underlying144 lay3 Q Q he7 Q) (SA TK Q (SA TK Q (TN (WN [2,3,4,6,8,9,10,12,13] Q Q (cE follows  ?_)))))
   iterate 5 (refine DA [0,1,2,3,4] TK Q ?_)
   obtain⟨g8,hm⟩:=GI hm
   refine DX [0,1,2,3,4] Q Q (aV Q Q Q Q g8) ?_
   obtain⟨r9,hr9,hm⟩:=BI hm
   refine DX [0,1,2,3,4] Q Q (RN Q Q (SC (.d _) (SC (.d _) (SC (.d _) SN))) (cH hr9)) ?_
   obtain⟨e10,he10,hm⟩:=GV hm
   refine DX [0,1,2,3,4] Q Q (bZ TK Q Q Q Q he10) (DA [0,1,2,3,4] TK Q ?_)
   refine DT ?_ (by kernel_rfl)
   refine TN (WN [2,3,4,6,8,10,12,13,25] Q Q ?_)
   refine TC _ Q (fun h11=>?_) (fun h11=>?_)
   ·replace hm:=JA h11 hm
    refine RS (SA TK Q (SA TK Q (SA TK Q (TN (WN [2,3,4,6,8] Q Q (aJ (qQS Q (WX ?_))))))))
    obtain⟨v12,hm,hz⟩:=II hm
    rw [hz5 _ hz] at hm
    refine WX (WH (WT ?_))
    exact⟨_,[0,1,2,3,4],(SJ hm),Q,k0,Q⟩
   ·replace hm:=JB h11 hm
    refine TS (WK (WT (WN [2,3,4,6,8,12,13] Q Q (TG ?_))))
    obtain⟨g13,hm⟩:=GI hm
    refine SX Q Q (aV Q Q Q Q g13) (SA TK Q (TN (WT ?_)))
    exact⟨_,[0,1,2,3,4],(SJ hm),Q,k0,Q⟩
  ·replace hm:=JF h6 hm
   refine aJ (WX ?_)
   obtain⟨v14,hm,hz⟩:=II hm
   rw [hz5 _ hz] at hm
   refine WX (WH (WT ?_))
   exact⟨_,[0,1,2,3,4],(SJ hm),Q,k0,Q⟩
 ·refine WN [2,3,4,6,8] Q Q (TQ ?_)
  refine kQ [(36,.d (.bool (((!(decide (c1=(3:Int))))&&(!(decide (c1=(4:Int))))))))] [36] [2,3,4,6,8] Q ?_ ?_
  ·refine TG (SA TK Q (SA TK Q (SA TK Q (SB TK Q (fun q15 hq15 => ?_)))))
   cases q15
   ·iterate 4 (refine SA TK Q ?_)
    refine TN (WT ?_)
    exact⟨[0,1,2,3,4],Q,k0,dZ (bS (bT (by simp [hq15])) Q) Q⟩
   ·iterate 4 (refine SA TK Q ?_)
    refine TN (WT ?_)
    exact⟨[0,1,2,3,4],Q,k0,dZ (bS (bT (by simp [hq15])) Q) Q⟩
  ·refine WN [2,3,4,6,8,36] Q Q ?_
   refine TC _ Q (fun h16=>?_) (fun h16=>?_)
   ·replace hm:=JA h16 hm
    refine RS (SA TK Q (SA TK Q (TN (WN [6] Q Q (TR (WR ?_))))))
    obtain rfl:=OJ hm
    exact EndsS.cellR _ TK Q Q Q Q Q (.d _)
   ·replace hm:=JB h16 hm
    refine TS (WT (WN [2,3,4,6,8] Q Q ?_))
    refine aK hm (fun c17=>([]:Fr)) (fun c17=>([(4,.box 60 [.d (.int .i64 c1),.d (.int .i64 c17),.d (.int .i64 (0:Int))])]:List (Nat×Blk))) [] [2,4,6,8] Q (fun z18 hm=>?_) (fun c17 hm=>?_)
    ·refine TB (aZ hm (fun c20 => ([] : Fr)) (fun c20 => ([(4, .box 60 [.d (.int .i64 c1), .d (.int .i64 c20), .d (.int .i64 (0 : Int))])] : List (Nat × Blk))) [] [2, 3, 4, 6, 8] [0, 1, 2, 3, 4] Q k0 Q Q Q Q Q (fun c20 z21 hm hz21 => (WN [2, 3, 4, 6, 8] Q Q (TQ ?_))))
     refine aK hm (fun x22=>([(55,.d (.bool (x22)))]:Fr)) (fun x22=>([]:List (Nat×Blk))) [55] [2,3,4,6,8] Q (fun z23 hm=>?_) (fun x22 hm=>?_)
     ·refine cN follows  ?_
      iterate 4 (refine DA [0,1,2,3,4] TK Q ?_)
      obtain⟨r24,hr24,hm⟩:=BI hm
      refine DX [0,1,2,3,4] Q Q (RN Q Q (SC (.d _) (SC (.d _) SN)) (bW hr24)) (DA [0,1,2,3,4] TK Q (d_b [0,1,2,3,4] TK Q (fun q25 hq25=>?_)))
      cases q25
      ·replace hm:=JF hq25 hm
       iterate 11 (refine DA [0,1,2,3,4] TK Q ?_)
       refine DT ?_ (by kernel_rfl)
       refine TN (WT ?_)
       exact⟨_,[0,1,2,3,4],(SJ hm),Q,k0,Q⟩
      ·replace hm:=JT hq25 hm
       iterate 6 (refine DA [0,1,2,3,4] TK Q ?_)
       obtain⟨g26,hm⟩:=GI hm
       refine DX [0,1,2,3,4] Q Q (aV Q Q Q Q g26) ?_
       obtain⟨r27,hr27,hm⟩:=BI hm
       refine DX [0,1,2,3,4] Q Q (RN Q Q (SC (.d _) (SC (.d _) (SC (.d _) SN))) (cH hr27)) ?_
       obtain⟨e28,he28,hm⟩:=GV hm
       refine DX [0,1,2,3,4] Q Q (bZ TK Q Q Q Q he28) ?_
       iterate 2 (refine DA [0,1,2,3,4] TK Q ?_)
       refine DT ?_ (by kernel_rfl)
       refine TN (WT ?_)
       exact⟨_,[0,1,2,3,4],(SJ hm),Q,k0,Q⟩
     ·refine WN [2,3,4,6,8,55] Q Q ?_
      refine TC _ Q (fun h29=>?_) (fun h29=>?_)
      ·replace hm:=JA h29 hm
       refine TS (WT (WN [2,3,4,6,8] Q Q (TB (TG (SA TK Q (SA TK Q ?_))))))
       obtain⟨g30,hm⟩:=GI hm
       refine SX Q Q (aV Q Q Q Q g30) (SA TK Q (SA TK Q (TN (WK (WT ?_)))))
       exact⟨_,[0,1,2,3,4],(SJ hm),Q,k0,Q⟩
      ·replace hm:=JB h29 hm
       refine aJ (WX ?_)
       obtain⟨v31,hm,hz⟩:=II hm
       rw [hz21 _ hz] at hm
       refine WX (WH (WT ?_))
       exact⟨_,[0,1,2,3,4],(SJ hm),Q,k0,Q⟩
    ·refine WN [2,4,6,8] Q Q (TQ (RS (SA TK Q (SA TK Q (SA TK Q (TN (WN [2,4,6,8,62] Q Q ?_)))))))
     refine TC _ Q (fun h32=>?_) (fun h32=>?_)
     ·replace hm:=JT h32 hm
      refine TG (SA TK Q (SA TK Q (SA TK Q ?_)))
      obtain⟨g33,hm⟩:=GI hm
      refine SX Q Q (aV Q Q Q Q g33) ?_
      obtain⟨e34,he34,hm⟩:=GV hm
      refine SX Q Q (bZ TK Q Q Q Q he34) (SA TK Q (SA TK Q (SA TK Q (TN (WT (WN [6,8] Q Q (RS (SA TK Q (SA TK Q (TN (WN [6] Q Q ?_)))))))))))
      refine TR ?_
      obtain rfl:=OJ hm
      exact EndsS.cellR _ TK Q Q Q Q Q (.d _)
     ·replace hm:=JF h32 hm
      refine TG (SA TK Q (SA TK Q (SA TK Q ?_)))
      obtain⟨g35,hm⟩:=GI hm
      refine SX Q Q (aV Q Q Q Q g35) ?_
      obtain⟨g36,hm⟩:=GI hm
      refine SX Q Q (aV Q Q Q Q g36) ?_
      obtain⟨e37,he37,hm⟩:=GV hm
      refine SX Q Q (bZ TK Q Q Q Q he37) (SA TK Q (SA TK Q (SA TK Q (TN (WT (WN [6,8] Q Q (RS (SA TK Q (SA TK Q (TN (WN [6] Q Q ?_)))))))))))
      refine TR ?_
      obtain rfl:=OJ hm
      exact EndsS.cellR _ TK Q Q Q Q Q (.d _)

end Go.Proofs.YtcagmechagiclaaGreatDoor

set_option maxHeartbeats 8000000
set_option linter.unusedSimpArgs false
set_option linter.unusedVariables false
set_option maxRecDepth 20000
namespace Go.Proofs.YtcagmechagiclaaGreatDoor
open Go Go.TL

theorem tR {p0:Table} {p1:Machine} {r:Inter} (hm:oB p0 p1=some r):RetD Tryz.prog 18 [p0.enc,p1.enc] (r.enc):=by
 refine .of (mv:=fun _=>false) (aQ zAM Tryz.func18 Q Tryz.ntmps18 Q Q (fun wX gX=>?_))
 unfold oB at hm
 refine WN [0,1] Q Q (RS (eR 0 Q Q Q (eR 1 Q Q Q (dA 2 Q Q qBQ Q (jR (f:=RouteState.enc) 2 0 3 60 3 Q Q Q (jR (f:=(D.int .i64)) 2 1 4 3 1 Q Q Q (TN (WN [2,3,4] Q Q ?_))))))))
 refine RS (SA TK Q ?_)
 obtain⟨r1,hr1,hm⟩:=BI hm
 obtain⟨r2,r3⟩:=r1
 refine SX Q Q (sI Q Q Q (nR hr1)) (SA TK Q (SA TK Q (SA TK Q (dA 5 Q Q tX Q (cO 5 [some 14,some 1,some 1,none,none,none,some 1,none,none] Q Q (SA TK Q (SA TK Q (TN (WN [2,3,4,5,6] Q Q (TQ ?_))))))))))
 refine aK hm (fun x4=>([(23,.d (.bool (x4)))]:Fr)) (fun x4=>([]:List (Nat×Blk))) [23] [2,3,4,5] Q (fun z5 hm=>?_) (fun x4 hm=>?_)
 ·refine TG (SA TK Q (SA TK Q (SB TK Q (fun q6 hq6 => ?_))))
  cases q6
  ·replace hm:=eU hq6 hm
   refine SA TK Q (SA TK Q ?_)
   obtain⟨r7,hr7,hm⟩:=BI hm
   refine SX Q Q (RN Q Q (SC (.d _) (SC (.d _) SN)) (lX hr7)) (SA TK Q (SA TK Q (TN (WT ?_))))
   exact⟨_,[0,1,2,3,4,5],(SJ hm),Q,k0,Q⟩
  ·replace hm:=eT hq6 hm
   iterate 5 (refine SA TK Q ?_)
   refine TN (WT ?_)
   exact⟨_,[0,1,2,3,4,5],(SJ hm),Q,k0,Q⟩
 ·refine WN [2,3,4,5,23] Q Q ?_
  refine TC _ Q (fun h8=>?_) (fun h8=>?_)
  ·replace hm:=JA h8 hm
   refine RS (SX Q Q (jV Q plc52 qBQ Q Q Q Q) (SA TK Q (jR (f:=RouteState.enc) 2 0 6 60 3 Q Q Q (jR (f:=(D.int .i64)) 2 1 7 3 1 Q Q Q (TN (WN [4] Q Q (TR (WR ?_))))))))
   obtain rfl:=OJ hm
   exact EndsS.cellR _ TK Q Q Q Q Q (kS (.cons (eO Q) Q (.cons (eO Q) Q .nil)))
  ·replace hm:=JB h8 hm
   refine TS (WT (WN [2,3,4,5] Q Q (RS (dA 6 Q Q qBQ Q (jR (f:=RouteState.enc) 6 0 7 60 3 Q Q Q (jR (f:=(D.int .i64)) 6 1 8 3 1 Q Q Q (TN (WN [2,3,4,5,7] Q Q ?_))))))))
   refine aK hm (fun b9=>([]:Fr)) (fun b9=>([(6,.box 52 [.msl 7 3 0 b9.length,.msl 8 1 0 ([]:List Int).length]),(7,.flat 60 3 (b9.map RouteState.enc))]:List (Nat×Blk))) [] [2,3,4,5,7] Q (fun z10 hm=>?_) (fun b9 hm=>?_)
   ·refine RS (SA TK Q (SA TK Q (SX Q Q (aT TK Q Q Q) (SA TK Q (TN (WN [2, 3, 4, 5, 7, 27, 28] Q Q (TB (aZ hm (fun (x14, b15) => ([(28, .d (.int .i64 x14))] : Fr)) (fun (x14, b15) => ([(6, .box 52 [.msl 7 3 0 b15.length, .msl 8 1 0 ([] : List Int).length]), (7, .flat 60 3 (b15.map RouteState.enc))] : List (Nat × Blk))) [28] [2, 3, 4, 5, 7, 27] [0, 1, 2, 3, 4, 5, 6, 7, 8] Q k0 Q Q Q Q Q (fun s z16 hm hz16 => ?_)))))))))
    obtain⟨x14,b15⟩:=s
    refine WN [2,3,4,5,7,27,28] Q Q (RS (SA TK Q (TN (WN [2,3,4,5,7,27,28,29] Q Q (TQ ?_)))))
    refine TC _ Q (fun h17=>?_) (fun h17=>?_)
    ·replace hm:=JT h17 hm
     refine TS (WT (WN [2,3,4,5,7,27,28] Q Q (TQ (TB (RS (SA TK Q (SA TK Q (TN (WN [2,3,4,5,7,8,27,28] Q Q ?_)))))))))
     refine gC (cN follows  (DA [] TK Q (DA [6] TK Q (DA [5] TK Q (DA [1] TK Q (DA [] TK Q ?_))))))
     obtain⟨r18,hr18,hm⟩:=BI hm
     refine DX [] Q Q (RN Q Q (SC (.d _) (SC (.d _) (SC (.d _) SN))) (nQ hr18)) (DX [] Q Q (dW [.tmp 36] TK Q Q yU Q Q Q Q Q) ?_)
     obtain⟨g19,hm⟩:=GI hm
     refine tB [7,9] _ (.msl 9 3 0 (b15++([r18]:List RouteState)).length) Q (jZ Q) Q (w_appD (f:=RouteState.enc) (xs:=b15) ([r18]:List RouteState) Q Q Q TK Q yU Q Q Q Q Q Q cR g19) (DA [] TK Q ?_)
     refine DT ?_ (by kernel_rfl)
     refine SA TK Q (TN (WK (WT (WN [2,3,4,5,7,27,28] Q Q (TG ?_)))))
     obtain⟨g20,hm⟩:=GI hm
     refine SX Q Q (aV Q Q Q Q g20) (SA TK Q (TN (WT ?_)))
     exact⟨_,[0,1,2,3,4,5,6,9,8],(SJ hm),Q,k0,Q⟩
    ·replace hm:=JF h17 hm
     refine aJ (WX ?_)
     obtain⟨v21,hm,hz⟩:=II hm
     rw [hz16 _ hz] at hm
     refine WX (WH (WT ?_))
     exact⟨_,[0,1,2,3,4,5,6,7,8],(SJ hm),Q,k0,Q⟩
   ·refine WN [2,3,4,5,7] Q Q ?_
    refine aK hm (fun b22=>([]:Fr)) (fun b22=>([(6,.box 52 [.msl 7 3 0 b9.length,.msl 8 1 0 b22.length]),(8,.flat 3 1 (b22.map (D.int .i64)))]:List (Nat×Blk))) [] [4,7] Q (fun z23 hm=>?_) (fun b22 hm=>?_)
    ·refine RS (SA TK Q (SA TK Q (SX Q Q (aT TK Q Q Q) (SA TK Q (TN (WN [3, 4, 5, 7, 43, 44] Q Q (TB (aZ hm (fun (x27, b28) => ([(44, .d (.int .i64 x27))] : Fr)) (fun (x27, b28) => ([(6, .box 52 [.msl 7 3 0 b9.length, .msl 8 1 0 b28.length]), (8, .flat 3 1 (b28.map (D.int .i64)))] : List (Nat × Blk))) [44] [3, 4, 5, 7, 43] [0, 1, 2, 3, 4, 5, 6, 7, 8] Q k0 Q Q Q Q Q (fun s z29 hm hz29 => ?_)))))))))
     obtain⟨x27,b28⟩:=s
     refine WN [3,4,5,7,43,44] Q Q (RS (SA TK Q (TN (WN [3,4,5,7,43,44,45] Q Q (TQ ?_)))))
     refine TC _ Q (fun h30=>?_) (fun h30=>?_)
     ·replace hm:=JT h30 hm
      refine TS (WT (WN [3,4,5,7,43,44] Q Q (TQ (TB (RS (SA TK Q (SA TK Q (TN (WN [3,4,5,7,9,43,44] Q Q ?_)))))))))
      refine RS (SA TK Q (TN (WN [3,4,5,7,9,10,43,44] Q Q ?_)))
      refine aK hm (fun pos31=>([(10,.d (.int .i64 pos31))]:Fr)) (fun pos31=>([]:List (Nat×Blk))) [10] [3,4,5,7,43,44] Q (fun z32 hm=>?_) (fun pos31 hm=>?_)
      ·refine cE follows  ?_
       iterate 4 (refine DA [0,1,2,3,4,5,6,7,8] TK Q ?_)
       obtain⟨r33,hr33,hm⟩:=BI hm
       refine DX [0,1,2,3,4,5,6,7,8] Q Q (RN Q Q (SC (.d _) (SC (.d _) SN)) (iA hr33)) ?_
       obtain⟨e34,he34,hm⟩:=GV hm
       refine DX [0,1,2,3,4,5,6,7,8] Q Q (bZ TK Q Q Q Q he34) (DA [0,1,2,3,4,5,6,7,8] TK Q ?_)
       refine DT ?_ (by kernel_rfl)
       refine TN (WN [3,4,5,7,10,43,44,53] Q Q ?_)
       refine TC _ Q (fun h35=>?_) (fun h35=>?_)
       ·replace hm:=JA h35 hm
        refine TG (SA TK Q (TN (WT ?_)))
        exact⟨_,[0,1,2,3,4,5,6,7,8],(SJ hm),Q,k0,Q⟩
       ·replace hm:=JB h35 hm
        refine TS (WT ?_)
        exact⟨_,[0,1,2,3,4,5,6,7,8],(SJ hm),Q,k0,Q⟩
      ·refine WN [3,4,5,7,10,43,44] Q Q (TG (SA TK Q (SA TK Q (SA TK Q (SX Q Q (dW [.tmp 56] TK Q Q lI Q Q Q Q Q) ?_)))))
       obtain⟨g36,hm⟩:=GI hm
       refine cT (f:=(D.int .i64)) ([pos31]:List Int) TK Q Q lI Q Q Q Q Q (fun h=>absurd h (Nat.not_lt_zero _)) Q cR g36 Q Q (SA TK Q (SA TK Q (TN (WK (WT (WN [3,4,5,7,43,44] Q Q (TG ?_)))))))
       obtain⟨g37,hm⟩:=GI hm
       refine SX Q Q (aV Q Q Q Q g37) (SA TK Q (TN (WT ?_)))
       exact⟨_,[0,1,2,3,4,5,6,7,8],(SJ hm),Q,k0,Q⟩
     ·replace hm:=JF h30 hm
      refine aJ (WX ?_)
      obtain⟨v38,hm,hz⟩:=II hm
      rw [hz29 _ hz] at hm
      refine WX (WH (WT ?_))
      exact⟨_,[0,1,2,3,4,5,6,7,8],(SJ hm),Q,k0,Q⟩
    ·refine WN [4,7] Q Q (RS (SA TK Q (SA TK Q (TN (WN [4] Q Q (TR ?_))))))
     obtain rfl:=OJ hm
     exact EndsS.cellR _ TK Q Q Q Q Q (kS (.cons (eO Q) Q (.cons (eO Q) Q .nil)))

theorem qAZ {p0:Table} {p1:Machine} {r:(List Bool)} (hm:rL p0 p1=some r):RetD Tryz.prog 20 [p0.enc,p1.enc] (.sl 1 (r.map D.bool)):=by
 refine .of (mv:=fun _=>false) (aQ zAL Tryz.func20 Q Tryz.ntmps20 Q Q (fun wX gX=>?_))
 unfold rL at hm
 refine WN [0,1] Q Q (RS (eR 0 Q Q Q (eR 1 Q Q Q (SA TK Q (TN (WN [2,3] Q Q (TQ (RS ?_))))))))
 refine SA TK Q ?_
 obtain⟨r1,hr1,hm⟩:=BI hm
 refine SX Q Q (RN Q Q (SC (.d _) SN) (rB hr1)) (SA TK Q (TN (WN [2,3,12] Q Q ?_)))
 refine TC _ Q (fun h2=>?_) (fun h2=>?_)
 ·replace hm:=eT h2 hm
  refine RS (SA TK Q (TN (c_wk 4 [some 1] Q (WN [4] Q Q (TR (WR ?_))))))
  obtain rfl:=OJ hm
  exact EndsS.one _ Q (.d _) (.refl _)
 ·replace hm:=eU h2 hm
  refine TS (WT (WN [2,3] Q Q (RS (SA TK Q (SA TK Q ?_)))))
  obtain⟨g3,hm⟩:=GI hm
  refine zBK (f:=D.bool) (x:=false) 2 TK Q Q Q oF Q Q Q Q Q g3 Q (SA TK Q (TN (WN [2,3,5] Q Q (RS (SA TK Q ?_)))))
  obtain⟨r4,hr4,hm⟩:=BI hm
  obtain⟨r5,r6⟩:=r4
  refine SX Q Q (sI Q Q Q (nR hr4)) (SA TK Q (SA TK Q (SA TK Q (dA 3 Q Q tX Q (cO 3 [some 14,some 1,some 1,none,none,none,some 1,none,none] Q Q (SA TK Q (SA TK Q (TN (WN [2,3,5,6,7] Q Q (TQ ?_))))))))))
  refine aK hm (fun x7=>([(32,.d (.bool (x7)))]:Fr)) (fun x7=>([]:List (Nat×Blk))) [32] [2,3,5,6] Q (fun z8 hm=>?_) (fun x7 hm=>?_)
  ·refine TG (SA TK Q (SA TK Q (SB TK Q (fun q9 hq9 => ?_))))
   cases q9
   ·replace hm:=eU hq9 hm
    refine SA TK Q (SA TK Q (SA TK Q (SB TK Q (fun q10 hq10=>?_))))
    cases q10
    ·replace hm:=JB hq10 hm
     refine SA TK Q (SA TK Q ?_)
     obtain⟨r11,hr11,hm⟩:=BI hm
     refine SX Q Q (RN Q Q (SC (.d _) (SC (.d _) SN)) (lX hr11)) (SA TK Q (SA TK Q (TN (WT ?_))))
     exact⟨_,[0,1,2,3],(SJ hm),Q,k0,Q⟩
    ·replace hm:=JA hq10 hm
     iterate 5 (refine SA TK Q ?_)
     refine TN (WT ?_)
     exact⟨_,[0,1,2,3],(SJ hm),Q,k0,Q⟩
   ·replace hm:=eT hq9 hm
    iterate 9 (refine SA TK Q ?_)
    refine TN (WT ?_)
    exact⟨_,[0,1,2,3],(SJ hm),Q,k0,Q⟩
  ·refine WN [2,3,5,6,32] Q Q ?_
   refine TC _ Q (fun h12=>?_) (fun h12=>?_)
   ·replace hm:=JA h12 hm
    refine RS (SA TK Q (SA TK Q (TN (WN [4] Q Q (TR (WR ?_))))))
    obtain rfl:=OJ hm
    exact EndsS.one _ Q (eO Q) (.refl _)
   ·replace hm:=JB h12 hm
    refine TS (WT (WN [2,3,5,6] Q Q ?_))
    refine aK hm (fun b13=>([(5,.msl 2 1 0 b13.length)]:Fr)) (fun b13=>([(2,.flat 4 1 (b13.map D.bool))]:List (Nat×Blk))) [5] [] Q (fun z14 hm=>?_) (fun b13 hm=>?_)
    ·refine RS (SA TK Q (SA TK Q (SX Q Q (aT TK Q Q Q) (SA TK Q (TN (WN [3, 5, 6, 35, 36, 37] Q Q (TB (aZ hm (fun (x18, b19) => ([(5, .msl 2 1 0 b19.length), (37, .d (.int .i64 x18))] : Fr)) (fun (x18, b19) => ([(2, .flat 4 1 (b19.map D.bool))] : List (Nat × Blk))) [5, 37] [3, 6, 35, 36] [0, 1, 2, 3] Q k0 Q Q Q Q Q (fun s z20 hm hz20 => ?_)))))))))
     obtain⟨x18,b19⟩:=s
     refine WN [3,5,6,35,36,37] Q Q (RS (SA TK Q (TN (WN [3,5,6,35,36,37,38] Q Q (TQ ?_)))))
     refine TC _ Q (fun h21=>?_) (fun h21=>?_)
     ·replace hm:=JT h21 hm
      refine TS (WT (WN [3,5,6,35,36,37] Q Q (TQ (TB (RS (SA TK Q ?_))))))
      obtain⟨e22,he22,hm⟩:=GV hm
      refine SX Q Q (bZ TK Q Q Q Q he22) (SA TK Q (dA 4 Q Q iH Q (cO 4 [none,none,none,some 3,some 2,some 1,none,none,some 3,some 2,some 1,some 2,some 1,some 2] Q Q (SA TK Q (SA TK Q (TN (WN [3,5,6,8,9,35,36,37] Q Q (cE follows  ?_))))))))
      iterate 4 (refine DA [0,1,2,3,4] TK Q ?_)
      obtain⟨r23,hr23,hm⟩:=BI hm
      refine DX [0,1,2,3,4] Q Q (RN Q Q (SC (.d _) (SC (.d _) (SC (.d _) SN))) (cH hr23)) ?_
      obtain⟨e24,he24,hm⟩:=GV hm
      refine DX [0,1,2,3,4] Q Q (bZ TK Q Q Q Q he24) (DA [0,1,2,3,4] TK Q ?_)
      refine DT ?_ (by kernel_rfl)
      refine TN (WN [3,5,6,9,35,36,37,48] Q Q ?_)
      refine TC _ Q (fun h25=>?_) (fun h25=>?_)
      ·replace hm:=JA h25 hm
       refine TG (SA TK Q (SA TK Q (SA TK Q ?_)))
       obtain⟨e26,he26,hm⟩:=GV hm
       refine SX Q Q (oG TK Q Q Q Q he26 Q) (qCC (x':=true) TK Q Q Q Q Q he26.2 Q Q Q (oU 5 (b19.set e22.entry.toNat true).length Q List.length_set.symm (oU 49 (b19.set e22.entry.toNat true).length Q List.length_set.symm (TN (WK (WT (WN [3,5,6,35,36,37] Q Q (TG ?_))))))))
       obtain⟨g27,hm⟩:=GI hm
       refine SX Q Q (aV Q Q Q Q g27) (SA TK Q (TN (WT ?_)))
       exact⟨_,[0,1,2,3],(SJ hm),Q,k0,Q⟩
      ·replace hm:=JB h25 hm
       refine TS (WK (WT (WN [3,5,6,35,36,37] Q Q (TG ?_))))
       obtain⟨g28,hm⟩:=GI hm
       refine SX Q Q (aV Q Q Q Q g28) (SA TK Q (TN (WT ?_)))
       exact⟨_,[0,1,2,3],(SJ hm),Q,k0,Q⟩
     ·replace hm:=JF h21 hm
      refine aJ (WX ?_)
      obtain⟨v29,hm,hz⟩:=II hm
      rw [hz20 _ hz] at hm
      refine WX (WH (WT ?_))
      exact⟨_,[0,1,2,3],(SJ hm),Q,k0,Q⟩
    ·refine WN [5] Q Q (RS (SA TK Q (SA TK Q (TN (WN [4] Q Q (TR ?_))))))
     obtain rfl:=OJ hm
     exact EndsS.one _ Q (eO Q) (.refl _)

theorem rH  {r:Bool} (hm:mQ=some r):RetN Tryz.prog 10 [] (.bool (r)):=by
 refine .unit (aQ zAR Tryz.func10 Q Tryz.ntmps10 Q Q (fun wX gX=>?_)) Q
 unfold mQ at hm
 refine WN [] Q Q (RS (SA TK Q (TN (WN [] Q Q (RS ?_)))))
 obtain⟨r1,hr1,hm⟩:=BI hm
 refine SX Q Q (RD Q Q Q (qHJ hr1)) (dA 0 Q Q qKS Q (cO 0 [some 14,some 1,some 1,none,none] Q Q (SA TK Q (TN (WN [1] Q Q (RS (SA TK Q ?_)))))))
 obtain⟨r2,hr2,hm⟩:=BI hm
 obtain⟨r3,r4⟩:=r2
 refine SX Q Q (sI Q Q Q (qY hr2)) (SA TK Q (SA TK Q (SA TK Q (dA 1 Q Q rA Q (cO 1 [some 1,none,some 6] Q Q (SA TK Q (SA TK Q (TN (WN [1,2,3] Q Q (TQ ?_))))))))))
 refine aK hm (fun x5=>([(62,.d (.bool (x5)))]:Fr)) (fun x5=>([]:List (Nat×Blk))) [62] [1,2] Q (fun z6 hm=>?_) (fun x5 hm=>?_)
 ·refine TG (SA TK Q (SA TK Q (SB TK Q (fun q7 hq7 => ?_))))
  cases q7
  ·replace hm:=eU hq7 hm
   refine SA TK Q (SA TK Q (SX Q Q (aT TK Q Q Q) (SA TK Q (SA TK Q (SB TK Q (fun q8 hq8=>?_))))))
   cases q8
   ·replace hm:=eU hq8 hm
    iterate 4 (refine SA TK Q ?_)
    refine SB TK Q (fun q9 hq9=>?_)
    cases q9
    ·replace hm:=eU hq9 hm
     refine SA TK Q (SA TK Q (SX Q Q (aT TK Q Q Q) (SA TK Q (SA TK Q (SB TK Q (fun q10 hq10=>?_))))))
     cases q10
     ·replace hm:=eU hq10 hm
      refine SA TK Q (SA TK Q ?_)
      obtain⟨e11,he11,hm⟩:=GV hm
      refine SX Q Q (bZ TK Q Q Q Q he11) (SA TK Q (SA TK Q (SA TK Q (SB TK Q (fun q12 hq12=>?_)))))
      cases q12
      ·replace hm:=eU hq12 hm
       refine SA TK Q (SA TK Q ?_)
       obtain⟨e13,he13,hm⟩:=GV hm
       refine SX Q Q (bZ TK Q Q Q Q he13) (SA TK Q (SA TK Q (SA TK Q (SB TK Q (fun q14 hq14=>?_)))))
       cases q14
       ·replace hm:=eU hq14 hm
        refine SA TK Q (SA TK Q ?_)
        obtain⟨e15,he15,hm⟩:=GV hm
        refine SX Q Q (bZ TK Q Q Q Q he15) (SA TK Q (SA TK Q (SA TK Q (SB TK Q (fun q16 hq16=>?_)))))
        cases q16
        ·replace hm:=eU hq16 hm
         refine SA TK Q (SA TK Q ?_)
         obtain⟨e17,he17,hm⟩:=GV hm
         refine SX Q Q (bZ TK Q Q Q Q he17) (SA TK Q (SA TK Q (SA TK Q (TN (WT ?_)))))
         exact⟨_,[0,1],(SJ hm),Q,k0,Q⟩
        ·replace hm:=eT hq16 hm
         iterate 6 (refine SA TK Q ?_)
         refine TN (WT ?_)
         exact⟨_,[0,1],(SJ hm),Q,k0,Q⟩
       ·replace hm:=eT hq14 hm
        iterate 13 (refine SA TK Q ?_)
        refine TN (WT ?_)
        exact⟨_,[0,1],(SJ hm),Q,k0,Q⟩
      ·replace hm:=eT hq12 hm
       iterate 20 (refine SA TK Q ?_)
       refine TN (WT ?_)
       exact⟨_,[0,1],(SJ hm),Q,k0,Q⟩
     ·replace hm:=eT hq10 hm
      iterate 27 (refine SA TK Q ?_)
      refine TN (WT ?_)
      exact⟨_,[0,1],(SJ hm),Q,k0,Q⟩
    ·replace hm:=eT hq9 hm
     iterate 33 (refine SA TK Q ?_)
     refine TN (WT ?_)
     exact⟨_,[0,1],(SJ hm),Q,k0,Q⟩
   ·replace hm:=eT hq8 hm
    iterate 38 (refine SA TK Q ?_)
    refine TN (WT ?_)
    exact⟨_,[0,1],(SJ hm),Q,k0,Q⟩
  ·replace hm:=eT hq7 hm
   iterate 44 (refine SA TK Q ?_)
   refine TN (WT ?_)
   exact⟨_,[0,1],(SJ hm),Q,k0,Q⟩
 ·refine WN [1,2,62] Q Q ?_
  refine TC _ Q (fun h18=>?_) (fun h18=>?_)
  ·replace hm:=JA h18 hm
   refine RS (SA TK Q (TN (WN [0] Q Q (TR (WR ?_)))))
   obtain rfl:=OJ hm
   exact EndsS.one _ Q (.d _) (.refl _)
  ·replace hm:=JB h18 hm
   refine TS (WT (WN [1,2] Q Q (gC (cE follows  ?_))))
   obtain⟨g19,hm⟩:=GI hm
   refine DX [] Q Q (qBR (f:=D.bool) (x:=false) TK Q Q oF Q Q Q Q Q g19 Q) ?_
   obtain⟨g20,hm⟩:=GI hm
   refine DX [] Q Q (qBR (f:=D.bool) (x:=false) TK Q Q oF Q Q Q Q Q g20 Q) ?_
   obtain⟨g21,hm⟩:=GI hm
   refine DX [] Q Q (qBR (f:=D.bool) (x:=false) TK Q Q oF Q Q Q Q Q g21 Q) (DX [] Q Q (dW [.const (Value.int IntKind.i64 0)] TK Q Q lI Q Q Q Q Q) (DX [] Q Q (dJ Q plc43 qQR Q Q Q Q) (tB [2] _ (.mptr 2 0 0 0) Q (jZ Q) Q (kM Q Q qQR Q Q) ?_)))
   refine DT ?_ (by kernel_rfl)
   refine SA TK Q (cO 2 [none,some 1,none,none,some 1,none,some 1] Q Q (TN (WN [1,2,4] Q Q (gC (cE follows  ?_)))))
   iterate 2 (refine DA [1] TK Q ?_)
   obtain⟨r22,hr22,hm⟩:=BI hm
   refine DX [] Q Q (RD Q Q Q (qIZ hr22)) (DA [0] TK Q (DA [2] TK Q ?_))
   obtain⟨r23,hr23,hm⟩:=BI hm
   refine DX [] Q Q (RD Q Q Q (sF hr23)) ?_
   obtain⟨r24,hr24,hm⟩:=BI hm
   refine DX [] Q Q (RD Q Q Q (qCT hr24)) (tB [3] _ (.mptr 3 0 0 0) Q (jZ Q) Q (kM Q Q nG Q Q) ?_)
   refine DT ?_ (by kernel_rfl)
   refine SA TK Q (TN (WN [1,2,4,5] Q Q (RS (SA TK Q (SA TK Q (cO 2 [none,none,none,none,none,some 1,none] Q Q (TN (WN [1,2,4,5] Q Q (gC ?_)))))))))
   refine cE follows  (DA [1] TK Q (DA [3] TK Q (DA [0] TK Q (DA [2] TK Q ?_))))
   obtain⟨r25,hr25,hm⟩:=BI hm
   refine DX [] Q Q (RD Q Q Q (sF hr25)) ?_
   obtain⟨r26,hr26,hm⟩:=BI hm
   refine DX [] Q Q (RD Q Q Q (qCT hr26)) (tB [4] _ (.mptr 4 0 0 0) Q (jZ Q) Q (kM Q Q nG Q Q) ?_)
   refine DT ?_ (by kernel_rfl)
   refine SA TK Q (TN (WN [1,5,6] Q Q (gC (gC (cE follows  (DA [0] TK Q (DA [3] TK Q ?_)))))))
   obtain⟨r27,hr27,hm⟩:=BI hm
   refine DX [] Q Q (RD Q Q Q (tR hr27)) (DA [0] TK Q (DA [4] TK Q ?_))
   obtain⟨r28,hr28,hm⟩:=BI hm
   refine DX [] Q Q (RD Q Q Q (tR hr28)) (tB [5] _ (.mptr 5 0 0 0) Q (jZ Q) Q (kM Q Q qBQ Q Q) (tB [6] _ (.mptr 6 0 0 0) Q (jZ Q) Q (kM Q Q qBQ Q Q) ?_))
   refine DT ?_ (by kernel_rfl)
   refine SA TK Q (SA TK Q (TN (WN [1,6,7,8] Q Q (TQ ?_))))
   refine kQ [(97,.d (.bool (((!(decide ((r27.routes.length:Int)=(2:Int))))||(!(decide ((r28.routes.length:Int)=(2:Int))))))))] [97] [1,6,7,8] Q ?_ ?_
   ·refine TG (SA TK Q (SA TK Q (SX Q Q (aT TK Q Q Q) (SA TK Q (SB TK Q (fun q29 hq29 => ?_))))))
    cases q29
    ·refine SA TK Q (SA TK Q (SX Q Q (aT TK Q Q Q) (SA TK Q (SA TK Q (TN (WT ?_))))))
     exact⟨[0,1,2,3,4,5,6],Q,k0,dZ (bS (bT (by simp [hq29])) Q) Q⟩
    ·iterate 5 (refine SA TK Q ?_)
     refine TN (WT ?_)
     exact⟨[0,1,2,3,4,5,6],Q,k0,dZ (bS (bT (by simp [hq29])) Q) Q⟩
   ·refine WN [1,6,7,8,97] Q Q ?_
    refine TC _ Q (fun h30=>?_) (fun h30=>?_)
    ·replace hm:=JA h30 hm
     refine RS (SA TK Q (TN (WN [0] Q Q (TR (WR ?_)))))
     obtain rfl:=OJ hm
     exact EndsS.one _ Q (.d _) (.refl _)
    ·replace hm:=JB h30 hm
     refine TS (WT (WN [1,6,7,8] Q Q (RS (SA TK Q (SA TK Q ?_)))))
     obtain⟨r31,hr31,hm⟩:=BI hm
     refine SX Q Q (RD Q Q Q (qAZ hr31)) (SA TK Q (TN (WN [7,8,9] Q Q ?_)))
     refine aK hm (fun x32=>([(0,.d (.bool (x32)))]:Fr)) (fun x32=>([]:List (Nat×Blk))) [0] [] Q (fun z33 hm=>?_) (fun x32 hm=>?_)
     ·refine TG (SA TK Q (SA TK Q ?_))
      obtain⟨e34,he34,hm⟩:=GV hm
      refine SX Q Q (bZ TK Q Q Q Q he34) (SA TK Q (SX Q Q (dJ Q zBM yU Q Q Q Q) ?_))
      obtain⟨g35,hm⟩:=GI hm
      refine SX Q Q (wY Q Q Q g35.1 g35.2) (SB TK Q (fun q37 hq37=>?_))
      cases q37
      ·replace hm:=JF hq37 hm
       iterate 24 (refine SA TK Q ?_)
       refine TN (WT ?_)
       exact⟨_,[0,1,2,3,4,5,6],(SJ hm),Q,k0,Q⟩
      ·replace hm:=JT hq37 hm
       refine SA TK Q (SA TK Q ?_)
       obtain⟨e38,he38,hm⟩:=GV hm
       refine SX Q Q (bZ TK Q Q Q Q he38) (SA TK Q (SX Q Q (dJ Q zBM yU Q Q Q Q) ?_))
       obtain⟨g39,hm⟩:=GI hm
       refine SX Q Q (wY Q Q Q g39.1 g39.2) (SA TK Q (SB TK Q (fun q41 hq41=>?_)))
       cases q41
       ·replace hm:=JF hq41 hm
        iterate 16 (refine SA TK Q ?_)
        refine TN (WT ?_)
        exact⟨_,[0,1,2,3,4,5,6],(SJ hm),Q,k0,Q⟩
       ·replace hm:=JT hq41 hm
        refine SA TK Q (SX Q Q (aT TK Q Q Q) (SA TK Q (SA TK Q (SB TK Q (fun q42 hq42=>?_)))))
        cases q42
        ·replace hm:=JF hq42 hm
         iterate 11 (refine SA TK Q ?_)
         refine TN (WT ?_)
         exact⟨_,[0,1,2,3,4,5,6],(SJ hm),Q,k0,Q⟩
        ·replace hm:=JT hq42 hm
         refine SA TK Q ?_
         obtain⟨e43,he43,hm⟩:=GV hm
         refine SX Q Q (bZ TK Q Q Q Q he43) (SA TK Q (SA TK Q (SB TK Q (fun q44 hq44=>?_))))
         cases q44
         ·replace hm:=JB hq44 hm
          iterate 6 (refine SA TK Q ?_)
          refine TN (WT ?_)
          exact⟨_,[0,1,2,3,4,5,6],(SJ hm),Q,k0,Q⟩
         ·replace hm:=JA hq44 hm
          refine SA TK Q ?_
          obtain⟨e45,he45,hm⟩:=GV hm
          refine SX Q Q (bZ TK Q Q Q Q he45) ?_
          iterate 4 (refine SA TK Q ?_)
          refine TN (WT ?_)
          exact⟨_,[0,1,2,3,4,5,6],(SJ hm),Q,k0,Q⟩
     ·refine WN [0] Q Q (TR ?_)
      obtain rfl:=OJ hm
      exact EndsS.one _ Q (.d _) (.refl _)

theorem zD {p0:Table} {p1:(List Int)} {r:Bool} (hm:kV p0 p1=some r):RetN Tryz.prog 126 [p0.enc,.sl 1 (p1.map (D.int .i64))] (.bool (r)):=by
 refine .unit (aQ qUL Tryz.func126 Q Tryz.ntmps126 Q Q (fun wX gX=>?_)) Q
 unfold kV at hm
 refine WN [0,1] Q Q (RS (eR 0 Q Q Q (SA TK Q (TN (WN [1,2] Q Q ?_)))))
 refine dI hm (fun _=>([]:Fr)) (fun _=>([]:List (Nat×Blk))) [] [] Q (fun z1 hm hz1=>?_) (fun j hm=>?_)
 ·refine RS (SA TK Q (SX Q Q (aT TK Q Q Q) (SA TK Q (TN (WN [1, 2, 8, 9, 10] Q Q (TB (aZ hm (fun x3 => ([(10, .d (.int .i64 x3))] : Fr)) (fun x3 => ([] : List (Nat × Blk))) [10] [1, 2, 8, 9] [0] Q k0 Q Q Q Q Q (fun x3 z4 hm hz4 => (WN [1, 2, 8, 9, 10] Q Q ?_)))))))))
  refine RS (SA TK Q (TN (WN [1,2,8,9,10,11] Q Q (TQ ?_))))
  refine TC _ Q (fun h5=>?_) (fun h5=>?_)
  ·replace hm:=JT h5 hm
   refine TS (WT (WN [1,2,8,9,10] Q Q ?_))
   refine dI hm (fun _=>([]:Fr)) (fun _=>([]:List (Nat×Blk))) [] [1,2,8,9,10] Q (fun z6 hm hz6=>?_) (fun j hm=>?_)
   ·refine TB (RS (SA TK Q ?_))
    obtain⟨e7,he7,hm⟩:=GV hm
    refine SX Q Q (bZ TK Q Q Q Q he7) (SA TK Q (SA TK Q (SA TK Q (TN (WN [1,2,5,6,8,9,10] Q Q (TQ ?_))))))
    refine kQ [(22,.d (.bool (((decide (e7 < (0:Int)))||(decide (p0.sections≤e7))))))] [22] [1,2,5,6,8,9,10] Q ?_ ?_
    ·refine TG (SA TK Q (SA TK Q (SB TK Q (fun q8 hq8 => ?_))))
     cases q8
     ·iterate 5 (refine SA TK Q ?_)
      refine TN (WT ?_)
      exact⟨[0],Q,k0,dZ (bS (bT (by simp [hq8])) Q) Q⟩
     ·iterate 5 (refine SA TK Q ?_)
      refine TN (WT ?_)
      exact⟨[0],Q,k0,dZ (bS (bT (by simp [hq8])) Q) Q⟩
    ·refine WN [1,2,5,6,8,9,10,22] Q Q ?_
     refine TC _ Q (fun h9=>?_) (fun h9=>?_)
     ·replace hm:=JA h9 hm
      refine RS (SA TK Q (TN (WN [4] Q Q (TR (WR (WB ?_))))))
      obtain⟨v10,hm,hz⟩:=II hm
      rw [hz6 _ hz] at hm
      refine WR ?_
      obtain⟨v11,hm,hz⟩:=II hm
      rw [hz4 _ hz] at hm
      refine WR (WB ?_)
      obtain⟨v12,hm,hz⟩:=II hm
      rw [hz1 _ hz] at hm
      refine WR ?_
      obtain rfl:=OJ hm
      exact EndsS.one _ Q (.d _) (.refl _)
     ·replace hm:=JB h9 hm
      refine TS (WT (WN [1,2,5,6,8,9,10] Q Q (RS (SA TK Q (SA TK Q (TN (WN [1,2,6,8,9,10,23,24] Q Q (TB (aZ hm (fun x14=>([(24,.d (.int .i64 x14))]:Fr)) (fun x14=>([]:List (Nat×Blk))) [24] [1,2,6,8,9,10,23] [0] Q k0 Q Q Q Q Q (fun x14 z15 hm hz15=>?_))))))))))
      refine WN [1,2,6,8,9,10,23,24] Q Q (RS (SA TK Q (TN (WN [1,2,6,8,9,10,23,24,25] Q Q (TQ ?_)))))
      refine TC _ Q (fun h16=>?_) (fun h16=>?_)
      ·replace hm:=JT h16 hm
       refine TS (WT (WN [1,2,6,8,9,10,23,24] Q Q (TQ (TB (RS (SA TK Q (SA TK Q (TN (WN [1,2,6,7,8,9,10,23,24] Q Q ?_)))))))))
       refine RS (SA TK Q (SA TK Q ?_))
       obtain⟨e17,he17,hm⟩:=GV hm
       refine SX Q Q (bZ TK Q Q Q Q he17) (SA TK Q (SA TK Q (SA TK Q (TN (WN [1,2,6,8,9,10,23,24,32] Q Q ?_)))))
       refine TC _ Q (fun h18=>?_) (fun h18=>?_)
       ·replace hm:=JT h18 hm
        refine RS (SA TK Q (TN (WN [4] Q Q (TR (WB (WR ?_))))))
        obtain⟨v19,hm,hz⟩:=II hm
        rw [hz15 _ hz] at hm
        refine WR (WB (WB ?_))
        obtain⟨v20,hm,hz⟩:=II hm
        rw [hz6 _ hz] at hm
        refine WR ?_
        obtain⟨v21,hm,hz⟩:=II hm
        rw [hz4 _ hz] at hm
        refine WR (WB ?_)
        obtain⟨v22,hm,hz⟩:=II hm
        rw [hz1 _ hz] at hm
        refine WR ?_
        obtain rfl:=OJ hm
        exact EndsS.one _ Q (.d _) (.refl _)
       ·replace hm:=JF h18 hm
        refine TS (WK (WT (WN [1,2,6,8,9,10,23,24] Q Q (TG ?_))))
        obtain⟨g23,hm⟩:=GI hm
        refine SX Q Q (aV Q Q Q Q g23) (SA TK Q (TN (WT ?_)))
        exact⟨_,[0],(SJ hm),Q,k0,Q⟩
      ·replace hm:=JF h16 hm
       refine aJ (WX ?_)
       obtain⟨v24,hm,hz⟩:=II hm
       rw [hz15 _ hz] at hm
       refine WX (WH (WK (WT ?_)))
       exact⟨_,[0],(SJ hm),Q,k0,Q⟩
   ·refine WN [1,2,8,9,10] Q Q (TG ?_)
    obtain⟨g25,hm⟩:=GI hm
    refine SX Q Q (aV Q Q Q Q g25) (SA TK Q (TN (WT ?_)))
    exact⟨_,[0],(SJ hm),Q,k0,Q⟩
  ·replace hm:=JF h5 hm
   refine aJ (WX ?_)
   obtain⟨v26,hm,hz⟩:=II hm
   rw [hz4 _ hz] at hm
   refine WX (WH (WT ?_))
   exact⟨_,[0],(SJ hm),Q,k0,Q⟩
 ·refine WN [] Q Q (RS (SA TK Q (TN (WN [4] Q Q (TR ?_)))))
  obtain rfl:=OJ hm
  exact EndsS.one _ Q (.d _) (.refl _)

theorem qES {p0:Table} {p1:Route} {r:Bool} (hm:mO p0 p1=some r):RetN Tryz.prog 67 [p0.enc,p1.enc] (.bool (r)):=by
 refine .unit (aQ qYW Tryz.func67 Q Tryz.ntmps67 Q Q (fun wX gX=>?_)) Q
 unfold mO at hm
 refine WN [0,1] Q Q (RS (eR 0 Q Q Q (eR 1 Q Q Q (SA TK Q (TN (WN [2,3] Q Q (TQ ?_)))))))
 refine kQ [(44,.d (.bool (((decide (p1.entry < (0:Int)))||((decide (p0.signals≤p1.entry))||((decide (p1.exit < (-1:Int)))||((decide (p0.signals≤p1.exit))||((decide ((p1.path.length:Int) < (1:Int)))||((decide ((12:Int) < (p1.path.length:Int)))||(decide (p1.length < (1:Int))))))))))))] [44] [2,3] Q ?_ ?_
 ·refine TG (SA TK Q (SA TK Q (SA TK Q (SB TK Q (fun q1 hq1 => ?_)))))
  cases q1
  ·iterate 6 (refine SA TK Q ?_)
   refine SB TK Q (fun q2 hq2=>?_)
   cases q2
   ·iterate 4 (refine SA TK Q ?_)
    refine SB TK Q (fun q3 hq3=>?_)
    cases q3
    ·iterate 6 (refine SA TK Q ?_)
     refine SB TK Q (fun q4 hq4=>?_)
     cases q4
     ·refine SA TK Q (SA TK Q (SX Q Q (aT TK Q Q Q) (SA TK Q (SA TK Q (SB TK Q (fun q5 hq5 => ?_))))))
      cases q5
      ·refine SA TK Q (SA TK Q (SX Q Q (aT TK Q Q Q) (SA TK Q (SA TK Q (SB TK Q (fun q6 hq6 => ?_))))))
       cases q6
       ·iterate 4 (refine SA TK Q ?_)
        refine TN (WT ?_)
        exact⟨[0,1],Q,k0,dZ (bS (bT (by simp [hq1,hq2,hq3,hq4,hq5,hq6])) Q) Q⟩
       ·iterate 4 (refine SA TK Q ?_)
        refine TN (WT ?_)
        exact⟨[0,1],Q,k0,dZ (bS (bT (by simp [hq1,hq2,hq3,hq4,hq5,hq6])) Q) Q⟩
      ·iterate 10 (refine SA TK Q ?_)
       refine TN (WT ?_)
       exact⟨[0,1],Q,k0,dZ (bS (bT (by simp [hq1,hq2,hq3,hq4,hq5])) Q) Q⟩
     ·iterate 16 (refine SA TK Q ?_)
      refine TN (WT ?_)
      exact⟨[0,1],Q,k0,dZ (bS (bT (by simp [hq1,hq2,hq3,hq4])) Q) Q⟩
    ·iterate 23 (refine SA TK Q ?_)
     refine TN (WT ?_)
     exact⟨[0,1],Q,k0,dZ (bS (bT (by simp [hq1,hq2,hq3])) Q) Q⟩
   ·iterate 28 (refine SA TK Q ?_)
    refine TN (WT ?_)
    exact⟨[0,1],Q,k0,dZ (bS (bT (by simp [hq1,hq2])) Q) Q⟩
  ·iterate 35 (refine SA TK Q ?_)
   refine TN (WT ?_)
   exact⟨[0,1],Q,k0,dZ (bS (bT (by simp [hq1])) Q) Q⟩
 ·refine WN [2,3,44] Q Q ?_
  refine TC _ Q (fun h7=>?_) (fun h7=>?_)
  ·replace hm:=JA h7 hm
   refine RS (SA TK Q (TN (WN [4] Q Q (TR (WR ?_)))))
   obtain rfl:=OJ hm
   exact EndsS.one _ Q (.d _) (.refl _)
  ·replace hm:=JB h7 hm
   refine TS (WT (WN [2,3] Q Q (RS (jD (f:=(D.int .i64)) 2 3 1 Q Q Q (TN (WN [2,3,5] Q Q (RS (SA TK Q (SA TK Q (SA TK Q ?_))))))))))
   obtain⟨g8,hm⟩:=GI hm
   refine cT (f:=(D.int .i64)) p1.sections TK Q Q lI Q Q Q Q Q (fun h=>absurd h (Nat.not_lt_zero _)) Q cR g8 Q Q (SA TK Q (TN (WN [2,3,5] Q Q (RS (SA TK Q (SA TK Q (SA TK Q ?_)))))))
   obtain⟨g9,hm⟩:=GI hm
   refine cT (f:=(D.int .i64)) p1.overSections TK Q Q lI Q Q Q Q Q (fun h=>absurd h (Nat.not_lt_zero _)) Q cR g9 Q Q (SA TK Q (TN (WN [2,3,5] Q Q ?_)))
   refine aK hm (fun x10=>([(4,.d (.bool (x10)))]:Fr)) (fun x10=>([]:List (Nat×Blk))) [4] [] Q (fun z11 hm=>?_) (fun x10 hm=>?_)
   ·refine TG (SA TK Q (SA TK Q (SX Q Q (aT TK Q Q Q) (SA TK Q (SB TK Q (fun q12 hq12 => ?_))))))
    cases q12
    ·replace hm:=JF hq12 hm
     iterate 17 (refine SA TK Q ?_)
     refine TN (WT ?_)
     exact⟨_,[0,1,2],(SJ hm),Q,k0,Q⟩
    ·replace hm:=JT hq12 hm
     refine SA TK Q (SA TK Q ?_)
     obtain⟨r13,hr13,hm⟩:=BI hm
     refine SX Q Q (RN Q Q (SC (.d _) (SC (eO Q) SN)) (zD hr13)) (SA TK Q (SB TK Q (fun q14 hq14=>?_)))
     cases q14
     ·replace hm:=JB hq14 hm
      iterate 12 (refine SA TK Q ?_)
      refine TN (WT ?_)
      exact⟨_,[0,1,2],(SJ hm),Q,k0,Q⟩
     ·replace hm:=JA hq14 hm
      iterate 4 (refine SA TK Q ?_)
      refine SB TK Q (fun q15 hq15=>?_)
      cases q15
      ·replace hm:=JF hq15 hm
       iterate 7 (refine SA TK Q ?_)
       refine TN (WT ?_)
       exact⟨_,[0,1,2],(SJ hm),Q,k0,Q⟩
      ·replace hm:=JT hq15 hm
       iterate 7 (refine SA TK Q ?_)
       refine TN (WT ?_)
       exact⟨_,[0,1,2],(SJ hm),Q,k0,Q⟩
   ·refine WN [4] Q Q (TR ?_)
    obtain rfl:=OJ hm
    exact EndsS.one _ Q (.d _) (.refl _)

theorem nY {p0:Table} {p1:Int} {r:Int} (hm:jY p0 p1=some r):RetN Tryz.prog 113 [p0.enc,.int .i64 p1] (.int .i64 r):=by
 refine .unit (aQ qUY Tryz.func113 Q Tryz.ntmps113 Q Q (fun wX gX=>?_)) Q
 unfold jY at hm
 refine WN [0,1] Q Q (RS (eR 0 Q Q Q (SA TK Q (TN (WN [1,2] Q Q ?_)))))
 refine dI hm (fun _=>([]:Fr)) (fun _=>([]:List (Nat×Blk))) [] [] Q (fun z1 hm hz1=>?_) (fun j hm=>?_)
 ·refine RS (SA TK Q (SA TK Q (SX Q Q (aT TK Q Q Q) (SA TK Q (TN (WN [1, 8, 9, 10] Q Q (TB (aZ hm (fun x3 => ([(10, .d (.int .i64 x3))] : Fr)) (fun x3 => ([] : List (Nat × Blk))) [10] [1, 8, 9] [0] Q k0 Q Q Q Q Q (fun x3 z4 hm hz4 => (WN [1, 8, 9, 10] Q Q ?_))))))))))
  refine RS (SA TK Q (TN (WN [1,8,9,10,11] Q Q (TQ ?_))))
  refine TC _ Q (fun h5=>?_) (fun h5=>?_)
  ·replace hm:=JT h5 hm
   refine TS (WT (WN [1,8,9,10] Q Q (TQ (TB (RS (SA TK Q ?_))))))
   obtain⟨e6,he6,hm⟩:=GV hm
   refine SX Q Q (bZ TK Q Q Q Q he6) (SA TK Q (SA TK Q (SA TK Q (TN (WN [1,5,6,8,9,10] Q Q (RS (SA TK Q (SA TK Q (SA TK Q (TN (WN [1,5,8,9,10,17] Q Q ?_)))))))))))
   refine TC _ Q (fun h7=>?_) (fun h7=>?_)
   ·replace hm:=JT h7 hm
    refine RS (SA TK Q (SA TK Q (TN (WN [4] Q Q (TR (WB (WR ?_)))))))
    obtain⟨v8,hm,hz⟩:=II hm
    rw [hz4 _ hz] at hm
    refine WR (WB ?_)
    obtain⟨v9,hm,hz⟩:=II hm
    rw [hz1 _ hz] at hm
    refine WR ?_
    obtain rfl:=OJ hm
    exact EndsS.one _ Q (.d _) (.refl _)
   ·replace hm:=JF h7 hm
    refine TS (WK (WT (WN [1,8,9,10] Q Q (TG ?_))))
    obtain⟨g10,hm⟩:=GI hm
    refine SX Q Q (aV Q Q Q Q g10) (SA TK Q (TN (WT ?_)))
    exact⟨_,[0],(SJ hm),Q,k0,Q⟩
  ·replace hm:=JF h5 hm
   refine aJ (WX ?_)
   obtain⟨v11,hm,hz⟩:=II hm
   rw [hz4 _ hz] at hm
   refine WX (WH (WT ?_))
   exact⟨_,[0],(SJ hm),Q,k0,Q⟩
 ·refine WN [] Q Q (RS (SA TK Q (TN (WN [4] Q Q (TR ?_)))))
  obtain rfl:=OJ hm
  exact EndsS.one _ Q (.d _) (.refl _)

theorem nJ {p0:Table} {p1:(List Setting)} {r:Bool} (hm:fQ p0 p1=some r):RetN Tryz.prog 68 [p0.enc,.sl 2 (p1.map Setting.enc)] (.bool (r)):=by
 refine .unit (aQ qYV Tryz.func68 Q Tryz.ntmps68 Q Q (fun wX gX=>?_)) Q
 unfold fQ at hm
 refine WN [0,1] Q Q (RS (eR 0 Q Q Q (SA TK Q (TN (WN [1,2] Q Q ?_)))))
 refine dI hm (fun _=>([]:Fr)) (fun _=>([]:List (Nat×Blk))) [] [] Q (fun z1 hm hz1=>?_) (fun j hm=>?_)
 ·refine RS (SA TK Q (SX Q Q (aT TK Q Q Q) (SA TK Q (TN (WN [1, 2, 7, 8, 9] Q Q (TB (aZ hm (fun x3 => ([(9, .d (.int .i64 x3))] : Fr)) (fun x3 => ([] : List (Nat × Blk))) [9] [1, 2, 7, 8] [0] Q k0 Q Q Q Q Q (fun x3 z4 hm hz4 => (WN [1, 2, 7, 8, 9] Q Q ?_)))))))))
  refine RS (SA TK Q (TN (WN [1,2,7,8,9,10] Q Q (TQ ?_))))
  refine TC _ Q (fun h5=>?_) (fun h5=>?_)
  ·replace hm:=JT h5 hm
   refine TS (WT (WN [1,2,7,8,9] Q Q (TQ (TB (RS (SA TK Q ?_))))))
   obtain⟨e6,he6,hm⟩:=GV hm
   refine SX Q Q (bZ TK Q Q Q Q he6) (SA TK Q (dA 1 Q Q fU Q (SA TK Q (SA TK Q (TN (WN [1,2,5,6,7,8,9] Q Q ?_))))))
   refine aK hm (fun x7=>([(43,.d (.bool (x7)))]:Fr)) (fun x7=>([]:List (Nat×Blk))) [43] [1,2,7,8,9] Q (fun z8 hm=>?_) (fun x7 hm=>?_)
   ·refine cN follows  ?_
    iterate 3 (refine DA [0,1] TK Q ?_)
    obtain⟨r9,hr9,hm⟩:=BI hm
    refine DX [0,1] Q Q (RN Q Q (SC (.d _) (SC (.d _) SN)) (nY hr9)) (DA [0,1] TK Q (d_b [0,1] TK Q (fun q10 hq10=>?_)))
    cases q10
    ·replace hm:=JF hq10 hm
     iterate 4 (refine DA [0,1] TK Q ?_)
     refine d_b [0,1] TK Q (fun q11 hq11=>?_)
     cases q11
     ·replace hm:=JF hq11 hm
      iterate 4 (refine DA [0,1] TK Q ?_)
      refine d_b [0,1] TK Q (fun q12 hq12=>?_)
      cases q12
      ·replace hm:=JF hq12 hm
       iterate 2 (refine DA [0,1] TK Q ?_)
       refine d_b [0,1] TK Q (fun q13 hq13=>?_)
       cases q13
       ·replace hm:=JF hq13 hm
        iterate 11 (refine DA [0,1] TK Q ?_)
        refine DT ?_ (by kernel_rfl)
        refine TN (WT ?_)
        exact⟨_,[0,1],(SJ hm),Q,k0,Q⟩
       ·replace hm:=JT hq13 hm
        iterate 2 (refine DA [0,1] TK Q ?_)
        obtain⟨g14,hm⟩:=GI hm
        refine DX [0,1] Q Q (aV Q Q Q Q g14) ?_
        obtain⟨e15,he15,hm⟩:=GV hm
        refine DX [0,1] Q Q (bZ TK Q Q Q Q he15) ?_
        iterate 7 (refine DA [0,1] TK Q ?_)
        refine DT ?_ (by kernel_rfl)
        refine TN (WT ?_)
        exact⟨_,[0,1],(SJ hm),Q,k0,Q⟩
      ·replace hm:=JT hq12 hm
       iterate 14 (refine DA [0,1] TK Q ?_)
       refine DT ?_ (by kernel_rfl)
       refine TN (WT ?_)
       exact⟨_,[0,1],(SJ hm),Q,k0,Q⟩
     ·replace hm:=JT hq11 hm
      iterate 19 (refine DA [0,1] TK Q ?_)
      refine DT ?_ (by kernel_rfl)
      refine TN (WT ?_)
      exact⟨_,[0,1],(SJ hm),Q,k0,Q⟩
    ·replace hm:=JT hq10 hm
     iterate 24 (refine DA [0,1] TK Q ?_)
     refine DT ?_ (by kernel_rfl)
     refine TN (WT ?_)
     exact⟨_,[0,1],(SJ hm),Q,k0,Q⟩
   ·refine WN [1,2,7,8,9,43] Q Q ?_
    refine TC _ Q (fun h16=>?_) (fun h16=>?_)
    ·replace hm:=JA h16 hm
     refine RS (SA TK Q (TN (WN [4] Q Q (TR (WB (WR ?_))))))
     obtain⟨v17,hm,hz⟩:=II hm
     rw [hz4 _ hz] at hm
     refine WR (WB ?_)
     obtain⟨v18,hm,hz⟩:=II hm
     rw [hz1 _ hz] at hm
     refine WR ?_
     obtain rfl:=OJ hm
     exact EndsS.one _ Q (.d _) (.refl _)
    ·replace hm:=JB h16 hm
     refine TS (WK (WT (WN [1,2,7,8,9] Q Q (TG ?_))))
     obtain⟨g19,hm⟩:=GI hm
     refine SX Q Q (aV Q Q Q Q g19) (SA TK Q (TN (WT ?_)))
     exact⟨_,[0],(SJ hm),Q,k0,Q⟩
  ·replace hm:=JF h5 hm
   refine aJ (WX ?_)
   obtain⟨v20,hm,hz⟩:=II hm
   rw [hz4 _ hz] at hm
   refine WX (WH (WT ?_))
   exact⟨_,[0],(SJ hm),Q,k0,Q⟩
 ·refine WN [] Q Q (RS (SA TK Q (TN (WN [4] Q Q (TR ?_)))))
  obtain rfl:=OJ hm
  exact EndsS.one _ Q (.d _) (.refl _)

theorem rD {p0:(List Setting)} {p1:(List Setting)} {r:Bool} (hm:iR p0 p1=some r):RetN Tryz.prog 69 [.sl 2 (p0.map Setting.enc),.sl 2 (p1.map Setting.enc)] (.bool (r)):=by
 refine .unit (aQ qYU Tryz.func69 Q Tryz.ntmps69 Q Q (fun wX gX=>?_)) Q
 unfold iR at hm
 refine WN [0,1] Q Q (RS (SA TK Q (TN (WN [0,1] Q Q ?_))))
 refine dI hm (fun _=>([]:Fr)) (fun _=>([]:List (Nat×Blk))) [] [] Q (fun z1 hm hz1=>?_) (fun j hm=>?_)
 ·refine RS (SA TK Q (SX Q Q (aT TK Q Q Q) (SA TK Q (TN (WN [1, 9, 10, 11] Q Q (TB (aZ hm (fun x3 => ([(11, .d (.int .i64 x3))] : Fr)) (fun x3 => ([] : List (Nat × Blk))) [11] [1, 9, 10] [] Q k0 Q Q Q Q Q (fun x3 z4 hm hz4 => (WN [1, 9, 10, 11] Q Q ?_)))))))))
  refine RS (SA TK Q (TN (WN [1,9,10,11,12] Q Q (TQ ?_))))
  refine TC _ Q (fun h5=>?_) (fun h5=>?_)
  ·replace hm:=JT h5 hm
   refine TS (WT (WN [1,9,10,11] Q Q ?_))
   refine dI hm (fun _=>([]:Fr)) (fun _=>([]:List (Nat×Blk))) [] [1,9,10,11] Q (fun z6 hm hz6=>?_) (fun j hm=>?_)
   ·refine TB (RS ?_)
    obtain⟨e7,he7,hm⟩:=GV hm
    refine SX Q Q (bZ TK Q Q Q Q he7) (SA TK Q (dA 0 Q Q fU Q (SA TK Q (TN (WN [1,6,9,10,11] Q Q (RS (SA TK Q (SX Q Q (aT TK Q Q Q) ?_))))))))
    refine SA TK Q (TN (WN [1,6,9,10,11,15,16,17] Q Q (TB (aZ hm (fun x9=>([(17,.d (.int .i64 x9))]:Fr)) (fun x9=>([]:List (Nat×Blk))) [17] [1,6,9,10,11,15,16] [0] Q k0 Q Q Q Q Q (fun x9 z10 hm hz10=>(WN [1,6,9,10,11,15,16,17] Q Q (RS (SA TK Q (TN ?_)))))))))
    refine WN [1,6,9,10,11,15,16,17,18] Q Q (TQ ?_)
    refine TC _ Q (fun h11=>?_) (fun h11=>?_)
    ·replace hm:=JT h11 hm
     refine TS (WT (WN [1,6,9,10,11,15,16,17] Q Q (TQ (TB (RS ?_)))))
     obtain⟨e12,he12,hm⟩:=GV hm
     refine SX Q Q (bZ TK Q Q Q Q he12) (SA TK Q (dA 1 Q Q fU Q (SA TK Q (TN (WN [1,6,8,9,10,11,15,16,17] Q Q ?_)))))
     refine kQ [(32,.d (.bool (((decide (e7.el=e12.el))&&(!(decide (e7.pos=e12.pos)))))))] [32] [1,6,9,10,11,15,16,17] Q ?_ ?_
     ·refine TG ?_
      iterate 5 (refine SA TK Q ?_)
      refine SB TK Q (fun q13 hq13=>?_)
      cases q13
      ·iterate 6 (refine SA TK Q ?_)
       refine TN (WT ?_)
       exact⟨[0,1],Q,k0,dZ (bS (bT (by simp [hq13])) Q) Q⟩
      ·iterate 6 (refine SA TK Q ?_)
       refine TN (WT ?_)
       exact⟨[0,1],Q,k0,dZ (bS (bT (by simp [hq13])) Q) Q⟩
     ·refine WN [1,6,9,10,11,15,16,17,32] Q Q ?_
      refine TC _ Q (fun h14=>?_) (fun h14=>?_)
      ·replace hm:=JA h14 hm
       refine RS (SA TK Q (TN (WN [4] Q Q (TR (WB (WR ?_))))))
       obtain⟨v15,hm,hz⟩:=II hm
       rw [hz10 _ hz] at hm
       refine WR (WB (WB ?_))
       obtain⟨v16,hm,hz⟩:=II hm
       rw [hz6 _ hz] at hm
       refine WR ?_
       obtain⟨v17,hm,hz⟩:=II hm
       rw [hz4 _ hz] at hm
       refine WR (WB ?_)
       obtain⟨v18,hm,hz⟩:=II hm
       rw [hz1 _ hz] at hm
       refine WR ?_
       obtain rfl:=OJ hm
       exact EndsS.one _ Q (.d _) (.refl _)
      ·replace hm:=JB h14 hm
       refine TS (WK (WT (WN [1,6,9,10,11,15,16,17] Q Q (TG ?_))))
       obtain⟨g19,hm⟩:=GI hm
       refine SX Q Q (aV Q Q Q Q g19) (SA TK Q (TN (WT ?_)))
       exact⟨_,[0],(SJ hm),Q,k0,Q⟩
    ·replace hm:=JF h11 hm
     refine aJ (WX ?_)
     obtain⟨v20,hm,hz⟩:=II hm
     rw [hz10 _ hz] at hm
     refine WX (WH (WK (WT ?_)))
     exact⟨_,[],(SJ hm),Q,k0,Q⟩
   ·refine WN [1,9,10,11] Q Q (TG ?_)
    obtain⟨g21,hm⟩:=GI hm
    refine SX Q Q (aV Q Q Q Q g21) (SA TK Q (TN (WT ?_)))
    exact⟨_,[],(SJ hm),Q,k0,Q⟩
  ·replace hm:=JF h5 hm
   refine aJ (WX ?_)
   obtain⟨v22,hm,hz⟩:=II hm
   rw [hz4 _ hz] at hm
   refine WX (WH (WT ?_))
   exact⟨_,[],(SJ hm),Q,k0,Q⟩
 ·refine WN [] Q Q (RS (SA TK Q (TN (WN [4] Q Q (TR ?_)))))
  obtain rfl:=OJ hm
  exact EndsS.one _ Q (.d _) (.refl _)

end Go.Proofs.YtcagmechagiclaaGreatDoor

set_option maxHeartbeats 8000000
set_option linter.unusedSimpArgs false
set_option linter.unusedVariables false
set_option maxRecDepth 20000
namespace Go.Proofs.YtcagmechagiclaaGreatDoor
open Go Go.TL

theorem qGS {p0:Table} {p1:ByteArray} {r:Int} (hm:nK p0 p1=some r):RetN Tryz.prog 70 [p0.enc,.str p1] (.int .i64 r):=by
 refine .unit (aQ qYT Tryz.func70 Q Tryz.ntmps70 Q Q (fun wX gX=>?_)) Q
 unfold nK at hm
 refine WN [0,1] Q Q (RS (eR 0 Q Q Q (SA TK Q (TN (WN [1,2] Q Q ?_)))))
 refine dI hm (fun _=>([]:Fr)) (fun _=>([]:List (Nat×Blk))) [] [] Q (fun z1 hm hz1=>?_) (fun j hm=>?_)
 ·refine RS (SA TK Q (SA TK Q (SX Q Q (aT TK Q Q Q) (SA TK Q (TN (WN [1, 8, 9, 10] Q Q (TB (aZ hm (fun x3 => ([(10, .d (.int .i64 x3))] : Fr)) (fun x3 => ([] : List (Nat × Blk))) [10] [1, 8, 9] [0] Q k0 Q Q Q Q Q (fun x3 z4 hm hz4 => (WN [1, 8, 9, 10] Q Q ?_))))))))))
  refine RS (SA TK Q (TN (WN [1,8,9,10,11] Q Q (TQ ?_))))
  refine TC _ Q (fun h5=>?_) (fun h5=>?_)
  ·replace hm:=JT h5 hm
   refine TS (WT (WN [1,8,9,10] Q Q (TQ (TB (RS (SA TK Q ?_))))))
   obtain⟨e6,he6,hm⟩:=GV hm
   refine SX Q Q (bZ TK Q Q Q Q he6) (SA TK Q (dA 1 Q Q iH Q (cO 1 [none,none,none,some 3,some 2,some 1,none,none,some 3,some 2,some 1,some 2,some 1,some 2] Q Q (SA TK Q (SA TK Q (TN (WN [1,5,6,8,9,10] Q Q (RS ?_))))))))
   iterate 4 (refine SA TK Q ?_)
   refine TN (WN [1,5,8,9,10,18] Q Q ?_)
   refine TC _ Q (fun h7=>?_) (fun h7=>?_)
   ·replace hm:=JT h7 hm
    refine RS (SA TK Q (SA TK Q (TN (WN [4] Q Q (TR (WB (WR ?_)))))))
    obtain⟨v8,hm,hz⟩:=II hm
    rw [hz4 _ hz] at hm
    refine WR (WB ?_)
    obtain⟨v9,hm,hz⟩:=II hm
    rw [hz1 _ hz] at hm
    refine WR ?_
    obtain rfl:=OJ hm
    exact EndsS.one _ Q (.d _) (.refl _)
   ·replace hm:=JF h7 hm
    refine TS (WK (WT (WN [1,8,9,10] Q Q (TG ?_))))
    obtain⟨g10,hm⟩:=GI hm
    refine SX Q Q (aV Q Q Q Q g10) (SA TK Q (TN (WT ?_)))
    exact⟨_,[0],(SJ hm),Q,k0,Q⟩
  ·replace hm:=JF h5 hm
   refine aJ (WX ?_)
   obtain⟨v11,hm,hz⟩:=II hm
   rw [hz4 _ hz] at hm
   refine WX (WH (WT ?_))
   exact⟨_,[0],(SJ hm),Q,k0,Q⟩
 ·refine WN [] Q Q (RS (SA TK Q (TN (WN [4] Q Q (TR ?_)))))
  obtain rfl:=OJ hm
  exact EndsS.one _ Q (.d _) (.refl _)

theorem qET {p0:Table} {r:Int} (hm:oI p0=some r):RetN Tryz.prog 25 [p0.enc] (.int .i64 r):=by
 refine .unit (aQ zAI Tryz.func25 Q Tryz.ntmps25 Q Q (fun wX gX=>?_)) Q
 unfold oI at hm
 refine WN [0] Q Q (RS (eR 0 Q Q Q (SA TK Q (TN (WN [1] Q Q (TQ ?_))))))
 refine kQ [(40,.d (.bool (((decide ((48:Int) < (p0.routes.length:Int)))||((decide ((32:Int) < (p0.points.length:Int)))||((decide (p0.sections < (0:Int)))||((decide ((24:Int) < p0.sections))||((decide (p0.signals < (0:Int)))||(decide ((20:Int) < p0.signals))))))))))] [40] [1] Q ?_ ?_
 ·refine TG (SA TK Q (SA TK Q (SX Q Q (aT TK Q Q Q) (SA TK Q (SB TK Q (fun q1 hq1 => ?_))))))
  cases q1
  ·refine SA TK Q (SA TK Q (SX Q Q (aT TK Q Q Q) (SA TK Q (SA TK Q (SB TK Q (fun q2 hq2 => ?_))))))
   cases q2
   ·iterate 4 (refine SA TK Q ?_)
    refine SB TK Q (fun q3 hq3=>?_)
    cases q3
    ·iterate 4 (refine SA TK Q ?_)
     refine SB TK Q (fun q4 hq4=>?_)
     cases q4
     ·iterate 4 (refine SA TK Q ?_)
      refine SB TK Q (fun q5 hq5=>?_)
      cases q5
      ·iterate 4 (refine SA TK Q ?_)
       refine TN (WT ?_)
       exact⟨[0],Q,k0,dZ (bS (bT (by simp [hq1,hq2,hq3,hq4,hq5])) Q) Q⟩
      ·iterate 4 (refine SA TK Q ?_)
       refine TN (WT ?_)
       exact⟨[0],Q,k0,dZ (bS (bT (by simp [hq1,hq2,hq3,hq4,hq5])) Q) Q⟩
     ·iterate 9 (refine SA TK Q ?_)
      refine TN (WT ?_)
      exact⟨[0],Q,k0,dZ (bS (bT (by simp [hq1,hq2,hq3,hq4])) Q) Q⟩
    ·iterate 14 (refine SA TK Q ?_)
     refine TN (WT ?_)
     exact⟨[0],Q,k0,dZ (bS (bT (by simp [hq1,hq2,hq3])) Q) Q⟩
   ·iterate 19 (refine SA TK Q ?_)
    refine TN (WT ?_)
    exact⟨[0],Q,k0,dZ (bS (bT (by simp [hq1,hq2])) Q) Q⟩
  ·iterate 25 (refine SA TK Q ?_)
   refine TN (WT ?_)
   exact⟨[0],Q,k0,dZ (bS (bT (by simp [hq1])) Q) Q⟩
 ·refine WN [1,40] Q Q ?_
  refine TC _ Q (fun h6=>?_) (fun h6=>?_)
  ·replace hm:=JA h6 hm
   refine RS (SA TK Q (TN (WN [2] Q Q (TR (WR ?_)))))
   obtain rfl:=OJ hm
   exact EndsS.one _ Q (.d _) (.refl _)
  ·replace hm:=JB h6 hm
   refine TS (WT (WN [1] Q Q (TQ (RS (SA TK Q (SA TK Q (SX Q Q (aT TK Q Q Q) (SA TK Q (SA TK Q (SX Q Q (aT TK Q Q Q) ?_))))))))))
   refine SA TK Q (TN (WN [1,47] Q Q ?_))
   refine TC _ Q (fun h7=>?_) (fun h7=>?_)
   ·replace hm:=eT h7 hm
    refine RS (SA TK Q (TN (WN [2] Q Q (TR (WR ?_)))))
    obtain rfl:=OJ hm
    exact EndsS.one _ Q (.d _) (.refl _)
   ·replace hm:=eU h7 hm
    refine TS (WT (WN [1] Q Q ?_))
    refine dI hm (fun _=>([]:Fr)) (fun _=>([]:List (Nat×Blk))) [] [1] Q (fun z8 hm hz8=>?_) (fun j hm=>?_)
    ·refine RS (SA TK Q (SA TK Q (SX Q Q (aT TK Q Q Q) (SA TK Q (TN (WN [1, 49, 50, 51] Q Q (TB (aZ hm (fun x10 => ([(51, .d (.int .i64 x10))] : Fr)) (fun x10 => ([] : List (Nat × Blk))) [51] [1, 49, 50] [0] Q k0 Q Q Q Q Q (fun x10 z11 hm hz11 => (WN [1, 49, 50, 51] Q Q ?_))))))))))
     refine RS (SA TK Q (TN (WN [1,49,50,51,52] Q Q (TQ ?_))))
     refine TC _ Q (fun h12=>?_) (fun h12=>?_)
     ·replace hm:=JT h12 hm
      refine TS (WT (WN [1,49,50,51] Q Q (TQ (TB (RS (SA TK Q ?_))))))
      obtain⟨e13,he13,hm⟩:=GV hm
      refine SX Q Q (bZ TK Q Q Q Q he13) (SA TK Q (SA TK Q (SA TK Q (TN (WN [1,3,4,49,50,51] Q Q ?_)))))
      refine aK hm (fun x14=>([(89,.d (.bool (x14)))]:Fr)) (fun x14=>([]:List (Nat×Blk))) [89] [1,49,50,51] Q (fun z15 hm=>?_) (fun x14 hm=>?_)
      ·refine cN follows  ?_
       iterate 2 (refine DA [0] TK Q ?_)
       refine d_b [0] TK Q (fun q16 hq16=>?_)
       cases q16
       ·replace hm:=JF hq16 hm
        iterate 2 (refine DA [0] TK Q ?_)
        refine d_b [0] TK Q (fun q17 hq17=>?_)
        cases q17
        ·replace hm:=JF hq17 hm
         iterate 14 (refine DA [0] TK Q ?_)
         obtain⟨e18,he18,hm⟩:=GV hm
         refine DX [0] Q Q (bZ TK Q Q Q Q he18) ?_
         iterate 3 (refine DA [0] TK Q ?_)
         refine d_b [0] TK Q (fun q19 hq19=>?_)
         cases q19
         ·replace hm:=JF hq19 hm
          iterate 3 (refine DA [0] TK Q ?_)
          obtain⟨e20,he20,hm⟩:=GV hm
          refine DX [0] Q Q (bZ TK Q Q Q Q he20) ?_
          iterate 5 (refine DA [0] TK Q ?_)
          refine DT ?_ (by kernel_rfl)
          refine TN (WT ?_)
          exact⟨_,[0],(SJ hm),Q,k0,Q⟩
         ·replace hm:=JT hq19 hm
          iterate 9 (refine DA [0] TK Q ?_)
          refine DT ?_ (by kernel_rfl)
          refine TN (WT ?_)
          exact⟨_,[0],(SJ hm),Q,k0,Q⟩
        ·replace hm:=JT hq17 hm
         iterate 3 (refine DA [0] TK Q ?_)
         obtain⟨g21,hm⟩:=GI hm
         refine DX [0] Q Q (aV Q Q Q Q g21) ?_
         obtain⟨e22,he22,hm⟩:=GV hm
         refine DX [0] Q Q (bZ TK Q Q Q Q he22) ?_
         iterate 5 (refine DA [0] TK Q ?_)
         refine d_b [0] TK Q (fun q23 hq23=>?_)
         cases q23
         ·replace hm:=JF hq23 hm
          iterate 3 (refine DA [0] TK Q ?_)
          obtain⟨e24,he24,hm⟩:=GV hm
          refine DX [0] Q Q (bZ TK Q Q Q Q he24) ?_
          iterate 3 (refine DA [0] TK Q ?_)
          refine d_b [0] TK Q (fun q25 hq25=>?_)
          cases q25
          ·replace hm:=JF hq25 hm
           iterate 3 (refine DA [0] TK Q ?_)
           obtain⟨e26,he26,hm⟩:=GV hm
           refine DX [0] Q Q (bZ TK Q Q Q Q he26) ?_
           iterate 5 (refine DA [0] TK Q ?_)
           refine DT ?_ (by kernel_rfl)
           refine TN (WT ?_)
           exact⟨_,[0],(SJ hm),Q,k0,Q⟩
          ·replace hm:=JT hq25 hm
           iterate 9 (refine DA [0] TK Q ?_)
           refine DT ?_ (by kernel_rfl)
           refine TN (WT ?_)
           exact⟨_,[0],(SJ hm),Q,k0,Q⟩
         ·replace hm:=JT hq23 hm
          iterate 17 (refine DA [0] TK Q ?_)
          refine DT ?_ (by kernel_rfl)
          refine TN (WT ?_)
          exact⟨_,[0],(SJ hm),Q,k0,Q⟩
       ·replace hm:=JT hq16 hm
        iterate 31 (refine DA [0] TK Q ?_)
        refine DT ?_ (by kernel_rfl)
        refine TN (WT ?_)
        exact⟨_,[0],(SJ hm),Q,k0,Q⟩
      ·refine WN [1,49,50,51,89] Q Q ?_
       refine TC _ Q (fun h27=>?_) (fun h27=>?_)
       ·replace hm:=JA h27 hm
        refine RS (SA TK Q (TN (WN [2] Q Q (TR (WB (WR ?_))))))
        obtain⟨v28,hm,hz⟩:=II hm
        rw [hz11 _ hz] at hm
        refine WR (WB ?_)
        obtain⟨v29,hm,hz⟩:=II hm
        rw [hz8 _ hz] at hm
        refine WR ?_
        obtain rfl:=OJ hm
        exact EndsS.one _ Q (.d _) (.refl _)
       ·replace hm:=JB h27 hm
        refine TS (WK (WT (WN [1,49,50,51] Q Q (TG ?_))))
        obtain⟨g30,hm⟩:=GI hm
        refine SX Q Q (aV Q Q Q Q g30) (SA TK Q (TN (WT ?_)))
        exact⟨_,[0],(SJ hm),Q,k0,Q⟩
     ·replace hm:=JF h12 hm
      refine aJ (WX ?_)
      obtain⟨v31,hm,hz⟩:=II hm
      rw [hz11 _ hz] at hm
      refine WX (WH (WT ?_))
      exact⟨_,[0],(SJ hm),Q,k0,Q⟩
    ·refine WN [1] Q Q ?_
     refine dI hm (fun _=>([]:Fr)) (fun _=>([]:List (Nat×Blk))) [] [1] Q (fun z32 hm hz32=>?_) (fun j hm=>?_)
     ·refine RS (SA TK Q (SA TK Q (SX Q Q (aT TK Q Q Q) (SA TK Q (TN (WN [1, 92, 93, 94] Q Q (TB (aZ hm (fun x34 => ([(94, .d (.int .i64 x34))] : Fr)) (fun x34 => ([] : List (Nat × Blk))) [94] [1, 92, 93] [0] Q k0 Q Q Q Q Q (fun x34 z35 hm hz35 => (WN [1, 92, 93, 94] Q Q ?_))))))))))
      refine RS (SA TK Q (TN (WN [1,92,93,94,95] Q Q (TQ ?_))))
      refine TC _ Q (fun h36=>?_) (fun h36=>?_)
      ·replace hm:=JT h36 hm
       refine TS (WT (WN [1,92,93,94] Q Q (TQ (TB (RS ?_)))))
       obtain⟨e37,he37,hm⟩:=GV hm
       refine SX Q Q (bZ TK Q Q Q Q he37) (SA TK Q (dA 1 Q Q iH Q (cO 1 [none,none,none,some 3,some 2,some 1,none,none,some 3,some 2,some 1,some 2,some 1,some 2] Q Q (SA TK Q (TN (WN [1,6,92,93,94] Q Q ?_))))))
       refine aK hm (fun x38=>([(122,.d (.bool (x38)))]:Fr)) (fun x38=>([]:List (Nat×Blk))) [122] [1,92,93,94] Q (fun z39 hm=>?_) (fun x38 hm=>?_)
       ·refine TG (SA TK Q (SA TK Q ?_))
        obtain⟨r40,hr40,hm⟩:=BI hm
        refine SX Q Q (RN Q Q (SC (.d _) (SC (.d _) SN)) (qES hr40)) (SA TK Q (SB TK Q (fun q41 hq41=>?_)))
        cases q41
        ·replace hm:=JB hq41 hm
         refine SA TK Q (SA TK Q (SA TK Q ?_))
         obtain⟨r42,hr42,hm⟩:=BI hm
         refine SX Q Q (RN Q Q (SC (.d _) (SC (.d _) SN)) (nJ hr42)) (SA TK Q (SA TK Q (SB TK Q (fun q43 hq43=>?_))))
         cases q43
         ·replace hm:=JB hq43 hm
          refine SA TK Q (SA TK Q (SA TK Q ?_))
          obtain⟨r44,hr44,hm⟩:=BI hm
          refine SX Q Q (RN Q Q (SC (.d _) (SC (.d _) SN)) (nJ hr44)) (SA TK Q (SA TK Q (SB TK Q (fun q45 hq45=>?_))))
          cases q45
          ·replace hm:=JB hq45 hm
           refine SA TK Q (SA TK Q (SA TK Q ?_))
           obtain⟨r46,hr46,hm⟩:=BI hm
           refine SX Q Q (RN Q Q (SC (.d _) (SC (.d _) SN)) (nJ hr46)) (SA TK Q (SA TK Q (TN (WT ?_))))
           exact⟨_,[0,1],(SJ hm),Q,k0,Q⟩
          ·replace hm:=JA hq45 hm
           iterate 6 (refine SA TK Q ?_)
           refine TN (WT ?_)
           exact⟨_,[0,1],(SJ hm),Q,k0,Q⟩
         ·replace hm:=JA hq43 hm
          iterate 13 (refine SA TK Q ?_)
          refine TN (WT ?_)
          exact⟨_,[0,1],(SJ hm),Q,k0,Q⟩
        ·replace hm:=JA hq41 hm
         iterate 20 (refine SA TK Q ?_)
         refine TN (WT ?_)
         exact⟨_,[0,1],(SJ hm),Q,k0,Q⟩
       ·refine WN [1,92,93,94,122] Q Q ?_
        refine TC _ Q (fun h47=>?_) (fun h47=>?_)
        ·replace hm:=JA h47 hm
         refine RS (SA TK Q (TN (WN [2] Q Q (TR (WB (WR ?_))))))
         obtain⟨v48,hm,hz⟩:=II hm
         rw [hz35 _ hz] at hm
         refine WR (WB ?_)
         obtain⟨v49,hm,hz⟩:=II hm
         rw [hz32 _ hz] at hm
         refine WR ?_
         obtain rfl:=OJ hm
         exact EndsS.one _ Q (.d _) (.refl _)
        ·replace hm:=JB h47 hm
         refine TS (WK (WT (WN [1,92,93,94] Q Q (TG ?_))))
         obtain⟨g50,hm⟩:=GI hm
         refine SX Q Q (aV Q Q Q Q g50) (SA TK Q (TN (WT ?_)))
         exact⟨_,[0],(SJ hm),Q,k0,Q⟩
      ·replace hm:=JF h36 hm
       refine aJ (WX ?_)
       obtain⟨v51,hm,hz⟩:=II hm
       rw [hz35 _ hz] at hm
       refine WX (WH (WT ?_))
       exact⟨_,[0],(SJ hm),Q,k0,Q⟩
     ·refine WN [1] Q Q ?_
      refine dI hm (fun _=>([]:Fr)) (fun _=>([]:List (Nat×Blk))) [] [1] Q (fun z52 hm hz52=>?_) (fun j hm=>?_)
      ·refine RS (SA TK Q (SA TK Q (SX Q Q (aT TK Q Q Q) (SA TK Q (TN (WN [1, 125, 126, 127] Q Q (TB (aZ hm (fun x54 => ([(127, .d (.int .i64 x54))] : Fr)) (fun x54 => ([] : List (Nat × Blk))) [127] [1, 125, 126] [0] Q k0 Q Q Q Q Q (fun x54 z55 hm hz55 => (WN [1, 125, 126, 127] Q Q ?_))))))))))
       refine RS (SA TK Q (TN (WN [1,125,126,127,128] Q Q (TQ ?_))))
       refine TC _ Q (fun h56=>?_) (fun h56=>?_)
       ·replace hm:=JT h56 hm
        refine TS (WT (WN [1,125,126,127] Q Q (TQ (TB (RS ?_)))))
        obtain⟨e57,he57,hm⟩:=GV hm
        refine SX Q Q (bZ TK Q Q Q Q he57) (SA TK Q (dA 1 Q Q iH Q (cO 1 [none,none,none,some 3,some 2,some 1,none,none,some 3,some 2,some 1,some 2,some 1,some 2] Q Q (SA TK Q (TN (WN [1,8,125,126,127] Q Q ?_))))))
        refine aK hm (fun x58=>([(152,.d (.bool (x58)))]:Fr)) (fun x58=>([]:List (Nat×Blk))) [152] [1,125,126,127] Q (fun z59 hm=>?_) (fun x58 hm=>?_)
        ·refine TG ?_
         iterate 4 (refine SA TK Q ?_)
         obtain⟨r60,hr60,hm⟩:=BI hm
         refine SX Q Q (RN Q Q (SC (.d _) (SC (.d _) SN)) (rD hr60)) (SA TK Q (SB TK Q (fun q61 hq61=>?_)))
         cases q61
         ·replace hm:=JB hq61 hm
          iterate 4 (refine SA TK Q ?_)
          obtain⟨r62,hr62,hm⟩:=BI hm
          refine SX Q Q (RN Q Q (SC (.d _) (SC (.d _) SN)) (rD hr62)) (SA TK Q (SA TK Q (SB TK Q (fun q63 hq63=>?_))))
          cases q63
          ·replace hm:=JB hq63 hm
           iterate 4 (refine SA TK Q ?_)
           obtain⟨r64,hr64,hm⟩:=BI hm
           refine SX Q Q (RN Q Q (SC (.d _) (SC (.d _) SN)) (rD hr64)) (SA TK Q (SA TK Q (TN (WT ?_))))
           exact⟨_,[0,1],(SJ hm),Q,k0,Q⟩
          ·replace hm:=JA hq63 hm
           iterate 7 (refine SA TK Q ?_)
           refine TN (WT ?_)
           exact⟨_,[0,1],(SJ hm),Q,k0,Q⟩
         ·replace hm:=JA hq61 hm
          iterate 15 (refine SA TK Q ?_)
          refine TN (WT ?_)
          exact⟨_,[0,1],(SJ hm),Q,k0,Q⟩
        ·refine WN [1,125,126,127,152] Q Q ?_
         refine TC _ Q (fun h65=>?_) (fun h65=>?_)
         ·replace hm:=JA h65 hm
          refine RS (SA TK Q (TN (WN [2] Q Q (TR (WB (WR ?_))))))
          obtain⟨v66,hm,hz⟩:=II hm
          rw [hz55 _ hz] at hm
          refine WR (WB ?_)
          obtain⟨v67,hm,hz⟩:=II hm
          rw [hz52 _ hz] at hm
          refine WR ?_
          obtain rfl:=OJ hm
          exact EndsS.one _ Q (.d _) (.refl _)
         ·replace hm:=JB h65 hm
          refine TS (WK (WT (WN [1,125,126,127] Q Q (TG ?_))))
          obtain⟨g68,hm⟩:=GI hm
          refine SX Q Q (aV Q Q Q Q g68) (SA TK Q (TN (WT ?_)))
          exact⟨_,[0],(SJ hm),Q,k0,Q⟩
       ·replace hm:=JF h56 hm
        refine aJ (WX ?_)
        obtain⟨v69,hm,hz⟩:=II hm
        rw [hz55 _ hz] at hm
        refine WX (WH (WT ?_))
        exact⟨_,[0],(SJ hm),Q,k0,Q⟩
      ·refine WN [1] Q Q ?_
       refine dI hm (fun _=>([]:Fr)) (fun _=>([]:List (Nat×Blk))) [] [] Q (fun z70 hm hz70=>?_) (fun j hm=>?_)
       ·refine RS (SA TK Q (SA TK Q (SX Q Q (aT TK Q Q Q) (SA TK Q (TN (WN [1, 155, 156, 157] Q Q (TB (aZ hm (fun x72 => ([(157, .d (.int .i64 x72))] : Fr)) (fun x72 => ([] : List (Nat × Blk))) [157] [1, 155, 156] [0] Q k0 Q Q Q Q Q (fun x72 z73 hm hz73 => (WN [1, 155, 156, 157] Q Q ?_))))))))))
        refine RS (SA TK Q (TN (WN [1,155,156,157,158] Q Q (TQ ?_))))
        refine TC _ Q (fun h74=>?_) (fun h74=>?_)
        ·replace hm:=JT h74 hm
         refine TS (WT (WN [1,155,156,157] Q Q (TQ (TB (RS (SA TK Q ?_))))))
         obtain⟨e75,he75,hm⟩:=GV hm
         refine SX Q Q (bZ TK Q Q Q Q he75) (SA TK Q (dA 1 Q Q iH Q (cO 1 [none,none,none,some 3,some 2,some 1,none,none,some 3,some 2,some 1,some 2,some 1,some 2] Q Q (SA TK Q (SA TK Q (TN (WN [1,9,10,155,156,157] Q Q (RS (SA TK Q (SA TK Q (SA TK Q ?_)))))))))))
         obtain⟨r76,hr76,hm⟩:=BI hm
         refine SX Q Q (RN Q Q (SC (.d _) (SC (.d _) SN)) (qGS hr76)) (SA TK Q (SA TK Q (TN (WN [1,155,156,157,167] Q Q ?_))))
         refine TC _ Q (fun h77=>?_) (fun h77=>?_)
         ·replace hm:=eT h77 hm
          refine RS (SA TK Q (TN (WN [2] Q Q (TR (WB (WR ?_))))))
          obtain⟨v78,hm,hz⟩:=II hm
          rw [hz73 _ hz] at hm
          refine WR (WB ?_)
          obtain⟨v79,hm,hz⟩:=II hm
          rw [hz70 _ hz] at hm
          refine WR ?_
          obtain rfl:=OJ hm
          exact EndsS.one _ Q (.d _) (.refl _)
         ·replace hm:=eU h77 hm
          refine TS (WK (WT (WN [1,155,156,157] Q Q (TG ?_))))
          obtain⟨g80,hm⟩:=GI hm
          refine SX Q Q (aV Q Q Q Q g80) (SA TK Q (TN (WT ?_)))
          exact⟨_,[0],(SJ hm),Q,k0,Q⟩
        ·replace hm:=JF h74 hm
         refine aJ (WX ?_)
         obtain⟨v81,hm,hz⟩:=II hm
         rw [hz73 _ hz] at hm
         refine WX (WH (WT ?_))
         exact⟨_,[0],(SJ hm),Q,k0,Q⟩
       ·refine WN [] Q Q (RS (SA TK Q (TN (WN [2] Q Q (TR ?_)))))
        obtain rfl:=OJ hm
        exact EndsS.one _ Q (.d _) (.refl _)

theorem zC {p0:Table} {r:Places} (hm:kU p0=some r):RetD Tryz.prog 43 [p0.enc] (r.enc):=by
 refine .of (mv:=fun _=>false) (aQ qZT Tryz.func43 Q Tryz.ntmps43 Q Q (fun wX gX=>?_))
 unfold kU at hm
 refine WN [0] Q Q (RS (eR 0 Q Q Q (dA 1 Q Q qKR Q (jR (f:=(D.int .i64)) 1 5 2 3 1 Q Q Q (TN (WN [1,2] Q Q (RS (SA TK Q (SA TK Q ?_)))))))))
 obtain⟨g1,hm⟩:=GI hm
 refine SX Q Q (aV Q Q Q Q g1) (SX Q Q (jV Q plc91 qKR Q Q Q Q) (dA 3 Q Q qKR Q (jR (f:=(D.int .i64)) 3 5 4 3 1 Q Q Q (SA TK Q (jR (f:=(D.int .i64)) 3 5 5 3 1 Q Q Q (TN (WN [1,2,3] Q Q (RS ?_))))))))
 iterate 4 (refine SA TK Q ?_)
 refine SX Q Q (aT TK Q Q Q) ?_
 obtain⟨g2,hm⟩:=GI hm
 refine SX Q Q (aV Q Q Q Q g2) ?_
 obtain⟨g3,hm⟩:=GI hm
 refine SX Q Q (aV Q Q Q Q g3) (SA TK Q (SA TK Q (TN (WN [1,2,3] Q Q (RS ?_)))))
 iterate 4 (refine SA TK Q ?_)
 refine SX Q Q (aT TK Q Q Q) ?_
 obtain⟨g4,hm⟩:=GI hm
 refine SX Q Q (aV Q Q Q Q g4) ?_
 obtain⟨g5,hm⟩:=GI hm
 refine SX Q Q (aV Q Q Q Q g5) (SA TK Q (SA TK Q (TN (WN [1,2,3] Q Q (RS ?_)))))
 iterate 4 (refine SA TK Q ?_)
 refine SX Q Q (aT TK Q Q Q) ?_
 obtain⟨g6,hm⟩:=GI hm
 refine SX Q Q (aV Q Q Q Q g6) (SA TK Q (TN (WN [1,2,3,4] Q Q ?_)))
 refine aK hm (fun (at7,b8)=>([(4,.d (.int .i64 at7))]:Fr)) (fun (at7,b8)=>([(3,.box 91 [.d (.int .i64 ((2:Int) * p0.sections)),.d (.int .i64 (((2:Int) * p0.sections)+((2:Int) * (p0.points.length:Int)))),.d (.int .i64 ((((2:Int) * p0.sections)+((2:Int) * (p0.points.length:Int)))+((4:Int) * (p0.routes.length:Int)))),.d (.int .i64 (0:Int)),.d (.int .i64 (0:Int)),.msl 5 1 0 b8.length]),(5,.flat 3 1 (b8.map (D.int .i64)))]:List (Nat×Blk))) [4] [1,2,3] Q (fun z9 hm=>?_) (fun j hm=>?_)
 ·refine RS (SA TK Q (TN (WN [1, 2, 3, 4, 5] Q Q (TB (aZ hm (fun (at15, i16, b17) => ([(4, .d (.int .i64 at15)), (5, .d (.int .i64 i16))] : Fr)) (fun (at15, i16, b17) => ([(3, .box 91 [.d (.int .i64 ((2 : Int) * p0.sections)), .d (.int .i64 (((2 : Int) * p0.sections) + ((2 : Int) * (p0.points.length : Int)))), .d (.int .i64 ((((2 : Int) * p0.sections) + ((2 : Int) * (p0.points.length : Int))) + ((4 : Int) * (p0.routes.length : Int)))), .d (.int .i64 (0 : Int)), .d (.int .i64 (0 : Int)), .msl 5 1 0 b17.length]), (5, .flat 3 1 (b17.map (D.int .i64)))] : List (Nat × Blk))) [4, 5] [1, 2, 3] [0, 1, 2, 3, 4, 5] Q k0 Q Q Q Q Q (fun s z18 hm hz18 => ?_))))))
  obtain⟨at15,i16,b17⟩:=s
  refine WN [1,2,3,4,5] Q Q (TQ (RS (SA TK Q (SA TK Q (SA TK Q (SX Q Q (aT TK Q Q Q) (SA TK Q (TN (WN [1,2,3,4,5,36] Q Q ?_)))))))))
  refine TC _ Q (fun h19=>?_) (fun h19=>?_)
  ·replace hm:=JT h19 hm
   refine TS (WT (WN [1,2,3,4,5] Q Q (TQ (TB (RS (SA TK Q (SA TK Q (SA TK Q (SX Q Q (dW [.tmp 41] TK Q Q lI Q Q Q Q Q) ?_)))))))))
   obtain⟨g20,hm⟩:=GI hm
   refine cT (f:=(D.int .i64)) ([at15]:List Int) TK Q Q lI Q Q Q Q Q (fun h=>absurd h (Nat.not_lt_zero _)) Q cR g20 Q Q (SA TK Q (SA TK Q (TN (WN [1,2,3,4,5] Q Q (TG (SA TK Q ?_))))))
   obtain⟨g21,hm⟩:=GI hm
   refine SX Q Q (aV Q Q Q Q g21) (SA TK Q (SA TK Q (SA TK Q ?_)))
   obtain⟨e22,he22,hm⟩:=GV hm
   refine SX Q Q (bZ TK Q Q Q Q he22) (SA TK Q (SA TK Q (SX Q Q (aT TK Q Q Q) ?_)))
   obtain⟨g23,hm⟩:=GI hm
   refine SX Q Q (aV Q Q Q Q g23) (SX Q Q (qLO Q Q Q Q) ?_)
   obtain⟨g24,hm⟩:=GI hm
   refine SX Q Q (aV Q Q Q Q g24) (SA TK Q (TN (WK (WT (WN [1,2,3,4,5] Q Q (TG (SA TK Q ?_)))))))
   obtain⟨g25,hm⟩:=GI hm
   refine SX Q Q (aV Q Q Q Q g25) (SA TK Q (TN (WT ?_)))
   exact⟨_,[0,1,2,3,4,5],(SJ hm),Q,k0,Q⟩
  ·replace hm:=JF h19 hm
   refine aJ (WX ?_)
   obtain⟨v26,hm,hz⟩:=II hm
   rw [hz18 _ hz] at hm
   refine WX (WH (WT ?_))
   exact⟨_,[0,1,2,3,4,5],(SJ hm),Q,k0,Q⟩
 ·obtain⟨at7,b8⟩:=j
  refine WN [1,2,3,4] Q Q (RS (SA TK Q (SA TK Q (SA TK Q (TN (WN [1,2,3,4] Q Q (RS (SA TK Q (SA TK Q (SA TK Q (SX Q Q (aT TK Q Q Q) ?_)))))))))))
  obtain⟨g27,hm⟩:=GI hm
  refine SX Q Q (aV Q Q Q Q g27) ?_
  obtain⟨g28,hm⟩:=GI hm
  refine SX Q Q (aV Q Q Q Q g28) (SA TK Q (SA TK Q (TN (WN [2,3] Q Q (RS (SA TK Q (SA TK Q (TN (WN [2] Q Q (TR ?_))))))))))
  obtain rfl:=OJ hm
  exact EndsS.cellR _ TK Q Q Q Q Q (kS (.cons (.d _) Q (.cons (.d _) Q (.cons (.d _) Q (.cons (.d _) Q (.cons (.d _) Q (.cons (eO Q) Q .nil)))))))

theorem eD {p0:Int} {r:Expr} (hm:dY p0=some r):RetD Tryz.prog 110 [.int .i64 p0] (r.enc):=by
 refine .of (mv:=fun _=>false) (aQ qVB Tryz.func110 Q Tryz.ntmps110 Q Q (fun wX gX=>?_))
 unfold dY at hm
 refine WN [0] Q Q (RS (dA 0 Q Q aH Q (cO 0 [none,none,some 3] Q Q (TN (WN [0,2] Q Q (RS (SA TK Q (SX Q Q (dJ Q qAL aH Q Q Q Q) ?_))))))))
 refine qGP 4 [none,none,some 3] Q (SA TK Q (TN (WN [2] Q Q (TR ?_))))
 obtain rfl:=OJ hm
 exact EndsS.cellR _ TK Q Q Q Q Q (.d _)

theorem eZ {p0:(List Expr)} {r:Expr} (hm:fP p0=some r):RetD Tryz.prog 49 [.sl 3 (p0.map Expr.encR)] (r.enc):=by
 refine .of (mv:=fun _=>false) (aQ qZN Tryz.func49 Q Tryz.ntmps49 Q Q (fun wX gX=>?_))
 unfold fP at hm
 refine WN [0] Q Q (RS (dA 0 Q Q aH Q (cO 0 [none,none,some 3] Q Q (TN (WN [0,2] Q Q (RS (SA TK Q (SX Q Q (dJ Q qAL aH Q Q Q Q) ?_))))))))
 refine SA TK Q (TN (WN [2] Q Q (TR ?_)))
 obtain rfl:=OJ hm
 exact EndsS.cellR _ TK Q Q Q Q Q (.d _)

theorem dC {p0:(List Expr)} {r:Expr} (hm:dN p0=some r):RetD Tryz.prog 100 [.sl 3 (p0.map Expr.encR)] (r.enc):=by
 refine .of (mv:=fun _=>false) (aQ qVL Tryz.func100 Q Tryz.ntmps100 Q Q (fun wX gX=>?_))
 unfold dN at hm
 refine WN [0] Q Q (RS (dA 0 Q Q aH Q (cO 0 [none,none,some 3] Q Q (TN (WN [0,2] Q Q (RS (SA TK Q (SX Q Q (dJ Q qAL aH Q Q Q Q) ?_))))))))
 refine SA TK Q (TN (WN [2] Q Q (TR ?_)))
 obtain rfl:=OJ hm
 exact EndsS.cellR _ TK Q Q Q Q Q (.d _)

theorem dL {p0:Expr} {r:Expr} (hm:dR p0=some r):RetD Tryz.prog 104 [p0.enc] (r.enc):=by
 refine .of (mv:=fun _=>false) (aQ qVH Tryz.func104 Q Tryz.ntmps104 Q Q (fun wX gX=>?_))
 unfold dR at hm
 refine WN [0] Q Q (RS (eR 0 Q Q Q (dA 1 Q Q aH Q (cO 1 [none,none,some 3] Q Q (TN (WN [1,2] Q Q (RS (SA TK Q ?_))))))))
 refine SX Q Q (bF (f:=Expr.encR) (xs:=([p0]:List Expr)) [.tmp 3] TK Q Q aH Q (bB Q (aE (Expr.encR_eq _) aL)) Q (aI Expr.encR_cells) Q) (SX Q Q (dJ Q qAL aH Q Q Q Q) (SA TK Q (TN (WN [2] Q Q (TR ?_)))))
 obtain rfl:=OJ hm
 exact EndsS.cellR _ TK Q Q Q Q Q (.d _)

theorem sS {p0:Setting} {p1:Setting} {r:Bool} (hm:gU p0 p1=some r):RetN Tryz.prog 153 [p0.enc,p1.enc] (.bool (r)):=by
 refine .unit (aQ qTZ Tryz.func153 Q Tryz.ntmps153 Q Q (fun wX gX=>?_)) Q
 unfold gU at hm
 refine WN [0,1] Q Q (RS (eR 0 Q Q Q (eR 1 Q Q Q (SA TK Q (TN (WN [2,3] Q Q ?_))))))
 refine kQ [(4,.d (.bool (((decide (p0.el < p1.el))||((decide (p0.el=p1.el))&&(decide (p0.pos < p1.pos)))))))] [4] [] Q ?_ ?_
 ·refine TG ?_
  iterate 5 (refine SA TK Q ?_)
  refine SB TK Q (fun q1 hq1=>?_)
  cases q1
  ·iterate 5 (refine SA TK Q ?_)
   refine SB TK Q (fun q2 hq2=>?_)
   cases q2
   ·iterate 8 (refine SA TK Q ?_)
    refine TN (WT ?_)
    exact⟨[0,1],Q,k0,dZ (bS (bT (by simp [hq1,hq2])) Q) Q⟩
   ·iterate 8 (refine SA TK Q ?_)
    refine TN (WT ?_)
    exact⟨[0,1],Q,k0,dZ (bS (bT (by simp [hq1,hq2])) Q) Q⟩
  ·iterate 14 (refine SA TK Q ?_)
   refine TN (WT ?_)
   exact⟨[0,1],Q,k0,dZ (bS (bT (by simp [hq1])) Q) Q⟩
 ·refine WN [4] Q Q (TR ?_)
  obtain rfl:=OJ hm
  exact EndsS.one _ Q (.d _) (.refl _)

theorem jU {p0:Route} {r:(List Setting)} (hm:gF p0=some r):RetD Tryz.prog 112 [p0.enc] (.sl 2 (r.map Setting.enc)):=by
 refine .of (mv:=fun _=>false) (aQ qUZ Tryz.func112 Q Tryz.ntmps112 Q Q (fun wX gX=>?_))
 unfold gF at hm
 refine WN [0] Q Q (RS (eR 0 Q Q Q (SA TK Q (TN (WN [1] Q Q (RS (jD (f:=Setting.enc) 1 133 2 Q Q Q (jD (f:=Setting.enc) 2 133 2 Q Q Q ?_))))))))
 refine TN (WN [1,3,4] Q Q (RS (SA TK Q (SA TK Q (SA TK Q ?_)))))
 obtain⟨g1,hm⟩:=GI hm
 refine cT (f:=Setting.enc) p0.points TK Q Q fU Q Q Q Q Q (fun h=>absurd h (Nat.not_lt_zero _)) Q cR g1 Q Q (SA TK Q (TN (WN [1,3,4] Q Q (RS (SA TK Q (SA TK Q (SA TK Q ?_)))))))
 obtain⟨g2,hm⟩:=GI hm
 refine cT (f:=Setting.enc) p0.overPoints TK Q Q fU Q Q Q Q Q (fun h=>absurd h (Nat.not_lt_zero _)) Q cR g2 Q Q (SA TK Q (TN (WN [1,3,4] Q Q (RS (SA TK Q (SA TK Q (SA TK Q ?_)))))))
 obtain⟨g3,hm⟩:=GI hm
 refine cT (f:=Setting.enc) p0.flank TK Q Q fU Q Q Q Q Q (fun h=>absurd h (Nat.not_lt_zero _)) Q cR g3 Q Q (SA TK Q (TN (WN [3,4] Q Q (TB (aZ hm (fun b5=>([(3,.msl 0 2 0 (((([]:List Setting)++p0.points)++p0.overPoints)++p0.flank).length),(4,.msl 1 2 0 b5.length)]:Fr)) (fun b5=>([(1,.flat 133 2 (b5.map Setting.enc))]:List (Nat×Blk))) [3,4] [] [1,2] Q k0 Q Q Q Q Q (fun b5 z6 hm hz6=>(WN [3,4] Q Q (TB (RS ?_)))))))))
 refine SA TK Q (TN (WN [3,4,5] Q Q ?_))
 refine aK hm (fun found7=>([(5,.d (.int .i64 found7))]:Fr)) (fun found7=>([]:List (Nat×Blk))) [5] [3,4] Q (fun z8 hm=>?_) (fun found7 hm=>?_)
 ·refine RS (SA TK Q (SA TK Q (SA TK Q (TN (WN [3, 4, 5, 20, 21, 22] Q Q (TB (aZ hm (fun (found11, x12) => ([(5, .d (.int .i64 found11)), (22, .d (.int .i64 x12))] : Fr)) (fun (found11, x12) => ([] : List (Nat × Blk))) [5, 22] [3, 4, 20, 21] [0, 1] Q k0 Q Q Q Q Q (fun s z13 hm hz13 => ?_))))))))
  obtain⟨found11,x12⟩:=s
  refine WN [3,4,5,20,21,22] Q Q (RS (SA TK Q (TN (WN [3,4,5,20,21,22,23] Q Q (TQ ?_)))))
  refine TC _ Q (fun h14=>?_) (fun h14=>?_)
  ·replace hm:=JT h14 hm
   refine TS (WT (WN [3,4,5,20,21,22] Q Q (TQ (TB (RS (SA TK Q ?_))))))
   obtain⟨e15,he15,hm⟩:=GV hm
   refine SX Q Q (oG TK Q Q Q Q he15 Q) (SX Q Q (wF TK Q Q Q Q he15.2 Q) (dA 2 Q Q fU Q (SA TK Q (SA TK Q (TN (WN [3,4,5,6,7,20,21,22] Q Q ?_))))))
   refine aK hm (fun x16=>([(51,.d (.bool (x16)))]:Fr)) (fun x16=>([]:List (Nat×Blk))) [51] [3,4,5,6,20,21,22] Q (fun z17 hm=>?_) (fun x16 hm=>?_)
   ·refine cN follows  ?_
    iterate 3 (refine DA [0,1,2] TK Q ?_)
    refine d_b [0,1,2] TK Q (fun q18 hq18=>?_)
    cases q18
    ·replace hm:=JF hq18 hm
     iterate 3 (refine DA [0,1,2] TK Q ?_)
     obtain⟨g19,hm⟩:=GI hm
     refine DX [0,1,2] Q Q (aV Q Q Q Q g19) ?_
     obtain⟨e20,he20,hm⟩:=GV hm
     refine DX [0,1,2] Q Q (oG TK Q Q Q Q he20 Q) (DX [0,1,2] Q Q (wF TK Q Q Q Q he20.2 Q) (DA [0,1,2] TK Q ?_))
     obtain⟨r21,hr21,hm⟩:=BI hm
     refine DX [0,1,2] Q Q (RN Q Q (SC (.d _) (SC (.d _) SN)) (sS hr21)) (DA [0,1,2] TK Q (d_b [0,1,2] TK Q (fun q22 hq22=>?_)))
     cases q22
     ·replace hm:=JB hq22 hm
      iterate 11 (refine DA [0,1,2] TK Q ?_)
      refine DT ?_ (by kernel_rfl)
      refine TN (WT ?_)
      exact⟨_,[0,1,2],(SJ hm),Q,k0,Q⟩
     ·replace hm:=JA hq22 hm
      iterate 2 (refine DA [0,1,2] TK Q ?_)
      refine d_b [0,1,2] TK Q (fun q23 hq23=>?_)
      cases q23
      ·replace hm:=JF hq23 hm
       iterate 3 (refine DA [0,1,2] TK Q ?_)
       obtain⟨e24,he24,hm⟩:=GV hm
       refine DX [0,1,2] Q Q (oG TK Q Q Q Q he24 Q) (DX [0,1,2] Q Q (wF TK Q Q Q Q he24.2 Q) ?_)
       obtain⟨r25,hr25,hm⟩:=BI hm
       refine DX [0,1,2] Q Q (RN Q Q (SC (.d _) (SC (.d _) SN)) (sS hr25)) ?_
       iterate 2 (refine DA [0,1,2] TK Q ?_)
       refine DT ?_ (by kernel_rfl)
       refine TN (WT ?_)
       exact⟨_,[0,1,2],(SJ hm),Q,k0,Q⟩
      ·replace hm:=JT hq23 hm
       iterate 8 (refine DA [0,1,2] TK Q ?_)
       refine DT ?_ (by kernel_rfl)
       refine TN (WT ?_)
       exact⟨_,[0,1,2],(SJ hm),Q,k0,Q⟩
    ·replace hm:=JT hq18 hm
     iterate 12 (refine DA [0,1,2] TK Q ?_)
     refine d_b [0,1,2] TK Q (fun q26 hq26=>?_)
     cases q26
     ·replace hm:=JF hq26 hm
      iterate 3 (refine DA [0,1,2] TK Q ?_)
      obtain⟨e27,he27,hm⟩:=GV hm
      refine DX [0,1,2] Q Q (oG TK Q Q Q Q he27 Q) (DX [0,1,2] Q Q (wF TK Q Q Q Q he27.2 Q) ?_)
      obtain⟨r28,hr28,hm⟩:=BI hm
      refine DX [0,1,2] Q Q (RN Q Q (SC (.d _) (SC (.d _) SN)) (sS hr28)) ?_
      iterate 2 (refine DA [0,1,2] TK Q ?_)
      refine DT ?_ (by kernel_rfl)
      refine TN (WT ?_)
      exact⟨_,[0,1,2],(SJ hm),Q,k0,Q⟩
     ·replace hm:=JT hq26 hm
      iterate 8 (refine DA [0,1,2] TK Q ?_)
      refine DT ?_ (by kernel_rfl)
      refine TN (WT ?_)
      exact⟨_,[0,1,2],(SJ hm),Q,k0,Q⟩
   ·refine WN [3,4,5,6,20,21,22,51] Q Q ?_
    refine TC _ Q (fun h29=>?_) (fun h29=>?_)
    ·replace hm:=JA h29 hm
     refine TG (SA TK Q (SA TK Q (TN (WK (WT (WN [3,4,5,20,21,22] Q Q (TG ?_)))))))
     obtain⟨g30,hm⟩:=GI hm
     refine SX Q Q (aV Q Q Q Q g30) (SA TK Q (TN (WT ?_)))
     exact⟨_,[0,1],(SJ hm),Q,k0,Q⟩
    ·replace hm:=JB h29 hm
     refine TS (WK (WT (WN [3,4,5,20,21,22] Q Q (TG ?_))))
     obtain⟨g31,hm⟩:=GI hm
     refine SX Q Q (aV Q Q Q Q g31) (SA TK Q (TN (WT ?_)))
     exact⟨_,[0,1],(SJ hm),Q,k0,Q⟩
  ·replace hm:=JF h14 hm
   refine aJ (WX ?_)
   obtain⟨v32,hm,hz⟩:=II hm
   rw [hz13 _ hz] at hm
   refine WX (WH (WT ?_))
   exact⟨_,[0,1],(SJ hm),Q,k0,Q⟩
 ·refine WN [3,4,5] Q Q (TQ (RS (SA TK Q (SA TK Q (TN (WN [3,4,5,55] Q Q ?_))))))
  refine TC _ Q (fun h33=>?_) (fun h33=>?_)
  ·replace hm:=JT h33 hm
   refine RS (SA TK Q (SA TK Q (TN (WN [2] Q Q (TR (WR (WB ?_)))))))
   obtain⟨v34,hm,hz⟩:=II hm
   rw [hz6 _ hz] at hm
   refine WR (WB ?_)
   obtain rfl:=OJ hm
   exact EndsS.one _ Q (eO Q) (.refl _)
  ·replace hm:=JF h33 hm
   refine TS (WT (WN [3,4,5] Q Q (TG (SA TK Q (SA TK Q (SA TK Q ?_))))))
   obtain⟨e35,he35,hm⟩:=GV hm
   refine SX Q Q (oG TK Q Q Q Q he35 Q) (SX Q Q (wF TK Q Q Q Q he35.2 Q) (SX Q Q (dW [.tmp 61] TK Q Q fU Q Q Q Q Q) ?_))
   obtain⟨g36,hm⟩:=GI hm
   refine cT (f:=Setting.enc) ([e35]:List Setting) TK Q Q fU Q Q Q Q Q (fun h=>absurd h (Nat.not_lt_zero _)) Q cR g36 Q Q (SA TK Q (TN (WK (WT ?_))))
   exact⟨_,[0,1],(SJ hm),Q,k0,Q⟩

theorem tJ {p0:Route} {p1:Route} {r:Bool} (hm:kH p0 p1=some r):RetN Tryz.prog 151 [p0.enc,p1.enc] (.bool (r)):=by
 refine .unit (aQ qUB Tryz.func151 Q Tryz.ntmps151 Q Q (fun wX gX=>?_)) Q
 unfold kH at hm
 refine WN [0,1] Q Q (RS (eR 0 Q Q Q (eR 1 Q Q Q (SA TK Q (TN (WN [2,3] Q Q ?_))))))
 refine kQ [(4,.d (.bool (((decide ((0:Int)≤p0.exit))&&(decide (p1.entry=p0.exit))))))] [4] [] Q ?_ ?_
 ·refine TG (SA TK Q (SA TK Q (SA TK Q (SB TK Q (fun q1 hq1 => ?_)))))
  cases q1
  ·iterate 7 (refine SA TK Q ?_)
   refine TN (WT ?_)
   exact⟨[0,1],Q,k0,dZ (bS (bT (by simp [hq1])) Q) Q⟩
  ·iterate 7 (refine SA TK Q ?_)
   refine TN (WT ?_)
   exact⟨[0,1],Q,k0,dZ (bS (bT (by simp [hq1])) Q) Q⟩
 ·refine WN [4] Q Q (TR ?_)
  obtain rfl:=OJ hm
  exact EndsS.one _ Q (.d _) (.refl _)

theorem qIP {p0:(List Int)} {p1:Int} {r:Bool} (hm:rT p0 p1=some r):RetN Tryz.prog 58 [.sl 1 (p0.map (D.int .i64)),.int .i64 p1] (.bool (r)):=by
 refine .unit (aQ qZE Tryz.func58 Q Tryz.ntmps58 Q Q (fun wX gX=>?_)) Q
 unfold rT at hm
 refine WN [0,1] Q Q (RS (SA TK Q (TN (WN [0,1] Q Q ?_))))
 refine dI hm (fun _=>([]:Fr)) (fun _=>([]:List (Nat×Blk))) [] [] Q (fun z1 hm hz1=>?_) (fun j hm=>?_)
 ·refine RS (SA TK Q (TN (WN [0, 1, 5] Q Q (TB (aZ hm (fun i3 => ([(5, .d (.int .i64 i3))] : Fr)) (fun i3 => ([] : List (Nat × Blk))) [5] [0, 1] [] Q k0 Q Q Q Q Q (fun i3 z4 hm hz4 => (WN [0, 1, 5] Q Q (TQ (RS ?_)))))))))
  refine SA TK Q (SA TK Q (SX Q Q (aT TK Q Q Q) (SA TK Q (TN (WN [0,1,5,9] Q Q ?_)))))
  refine TC _ Q (fun h5=>?_) (fun h5=>?_)
  ·replace hm:=JT h5 hm
   refine TS (WT (WN [0,1,5] Q Q (TQ (TB (RS (SA TK Q (SA TK Q ?_)))))))
   obtain⟨e6,he6,hm⟩:=GV hm
   refine SX Q Q (bZ TK Q Q Q Q he6) (SA TK Q (SA TK Q (SA TK Q (TN (WN [0,1,5,17] Q Q ?_)))))
   refine TC _ Q (fun h7=>?_) (fun h7=>?_)
   ·replace hm:=JT h7 hm
    refine RS (SA TK Q (TN (WN [4] Q Q (TR (WB (WR ?_))))))
    obtain⟨v8,hm,hz⟩:=II hm
    rw [hz4 _ hz] at hm
    refine WR (WB ?_)
    obtain⟨v9,hm,hz⟩:=II hm
    rw [hz1 _ hz] at hm
    refine WR ?_
    obtain rfl:=OJ hm
    exact EndsS.one _ Q (.d _) (.refl _)
   ·replace hm:=JF h7 hm
    refine TS (WK (WT (WN [0,1,5] Q Q (TG (SA TK Q ?_)))))
    obtain⟨g10,hm⟩:=GI hm
    refine SX Q Q (aV Q Q Q Q g10) (SA TK Q (TN (WT ?_)))
    exact⟨_,[],(SJ hm),Q,k0,Q⟩
  ·replace hm:=JF h5 hm
   refine aJ (WX ?_)
   obtain⟨v11,hm,hz⟩:=II hm
   rw [hz4 _ hz] at hm
   refine WX (WH (WT ?_))
   exact⟨_,[],(SJ hm),Q,k0,Q⟩
 ·refine WN [] Q Q (RS (SA TK Q (TN (WN [4] Q Q (TR ?_)))))
  obtain rfl:=OJ hm
  exact EndsS.one _ Q (.d _) (.refl _)

theorem lH {p0:(List Int)} {p1:(List Int)} {r:Int} (hm:jN p0 p1=some r):RetN Tryz.prog 152 [.sl 1 (p0.map (D.int .i64)),.sl 1 (p1.map (D.int .i64))] (.int .i64 r):=by
 refine .unit (aQ qUA Tryz.func152 Q Tryz.ntmps152 Q Q (fun wX gX=>?_)) Q
 unfold jN at hm
 refine WN [0,1] Q Q (RS (SA TK Q (TN (WN [0,1] Q Q (RS (SA TK Q (TN (WN [0,1,5] Q Q ?_))))))))
 refine aK hm (fun out1=>([(5,.d (.int .i64 out1))]:Fr)) (fun out1=>([]:List (Nat×Blk))) [5] [] Q (fun z2 hm=>?_) (fun out1 hm=>?_)
 ·refine RS (SA TK Q (TN (WN [0, 1, 5, 6] Q Q (TB (aZ hm (fun (out5, i6) => ([(5, .d (.int .i64 out5)), (6, .d (.int .i64 i6))] : Fr)) (fun (out5, i6) => ([] : List (Nat × Blk))) [5, 6] [0, 1] [] Q k0 Q Q Q Q Q (fun s z7 hm hz7 => ?_))))))
  obtain⟨out5,i6⟩:=s
  refine WN [0,1,5,6] Q Q (TQ (RS (SA TK Q (SA TK Q (SX Q Q (aT TK Q Q Q) (SA TK Q (TN (WN [0,1,5,6,10] Q Q ?_))))))))
  refine TC _ Q (fun h8=>?_) (fun h8=>?_)
  ·replace hm:=JT h8 hm
   refine TS (WT (WN [0,1,5,6] Q Q (TQ (TB (RS (SA TK Q (SA TK Q (SA TK Q ?_))))))))
   obtain⟨e9,he9,hm⟩:=GV hm
   refine SX Q Q (bZ TK Q Q Q Q he9) (SA TK Q ?_)
   obtain⟨r10,hr10,hm⟩:=BI hm
   refine SX Q Q (RN Q Q (SC (.d _) (SC (.d _) SN)) (qIP hr10)) (TN (WN [0,1,5,6,18] Q Q ?_))
   refine TC _ Q (fun h11=>?_) (fun h11=>?_)
   ·replace hm:=JA h11 hm
    refine TG (SA TK Q (SA TK Q (TN (WK (WT (WN [0,1,5,6] Q Q (TG (SA TK Q ?_))))))))
    obtain⟨g12,hm⟩:=GI hm
    refine SX Q Q (aV Q Q Q Q g12) (SA TK Q (TN (WT ?_)))
    exact⟨_,[],(SJ hm),Q,k0,Q⟩
   ·replace hm:=JB h11 hm
    refine TS (WK (WT (WN [0,1,5,6] Q Q (TG (SA TK Q ?_)))))
    obtain⟨g13,hm⟩:=GI hm
    refine SX Q Q (aV Q Q Q Q g13) (SA TK Q (TN (WT ?_)))
    exact⟨_,[],(SJ hm),Q,k0,Q⟩
  ·replace hm:=JF h8 hm
   refine aJ (WX ?_)
   obtain⟨v14,hm,hz⟩:=II hm
   rw [hz7 _ hz] at hm
   refine WX (WH (WT ?_))
   exact⟨_,[],(SJ hm),Q,k0,Q⟩
 ·refine WN [5] Q Q (RS (SA TK Q (SA TK Q (TN (WN [4] Q Q (TR ?_))))))
  obtain rfl:=OJ hm
  exact EndsS.one _ Q (.d _) (.refl _)

end Go.Proofs.YtcagmechagiclaaGreatDoor

set_option maxHeartbeats 8000000
set_option linter.unusedSimpArgs false
set_option linter.unusedVariables false
set_option maxRecDepth 20000
namespace Go.Proofs.YtcagmechagiclaaGreatDoor
open Go Go.TL

theorem qT {p0:(List Setting)} {p1:Setting} {r:Bool} (hm:mN p0 p1=some r):RetN Tryz.prog 114 [.sl 2 (p0.map Setting.enc),p1.enc] (.bool (r)):=by
 refine .unit (aQ qUX Tryz.func114 Q Tryz.ntmps114 Q Q (fun wX gX=>?_)) Q
 unfold mN at hm
 refine WN [0,1] Q Q (RS (eR 0 Q Q Q (SA TK Q (TN (WN [0,3] Q Q ?_)))))
 refine dI hm (fun _=>([]:Fr)) (fun _=>([]:List (Nat×Blk))) [] [] Q (fun z1 hm hz1=>?_) (fun j hm=>?_)
 ·refine RS (SA TK Q (TN (WN [0, 3, 5] Q Q (TB (aZ hm (fun i3 => ([(5, .d (.int .i64 i3))] : Fr)) (fun i3 => ([] : List (Nat × Blk))) [5] [0, 3] [0] Q k0 Q Q Q Q Q (fun i3 z4 hm hz4 => (WN [0, 3, 5] Q Q (TQ (RS ?_)))))))))
  refine SA TK Q (SA TK Q (SX Q Q (aT TK Q Q Q) (SA TK Q (TN (WN [0,3,5,9] Q Q ?_)))))
  refine TC _ Q (fun h5=>?_) (fun h5=>?_)
  ·replace hm:=JT h5 hm
   refine TS (WT (WN [0,3,5] Q Q (TQ (TB (cE follows  ?_)))))
   iterate 2 (refine DA [0] TK Q ?_)
   obtain⟨e6,he6,hm⟩:=GV hm
   refine DX [0] Q Q (bZ TK Q Q Q Q he6) ?_
   iterate 2 (refine DA [0] TK Q ?_)
   obtain⟨g7,hm⟩:=GI hm
   refine DX [0] Q Q (qEL Q Q Q g7.1 g7.2) ?_
   refine DT ?_ (by kernel_rfl)
   refine TN (WN [0,3,5,17] Q Q ?_)
   refine TC _ Q (fun h9=>?_) (fun h9=>?_)
   ·replace hm:=JT h9 hm
    refine RS (SA TK Q (TN (WN [4] Q Q (TR (WB (WR ?_))))))
    obtain⟨v10,hm,hz⟩:=II hm
    rw [hz4 _ hz] at hm
    refine WR (WB ?_)
    obtain⟨v11,hm,hz⟩:=II hm
    rw [hz1 _ hz] at hm
    refine WR ?_
    obtain rfl:=OJ hm
    exact EndsS.one _ Q (.d _) (.refl _)
   ·replace hm:=JF h9 hm
    refine TS (WK (WT (WN [0,3,5] Q Q (TG (SA TK Q ?_)))))
    obtain⟨g12,hm⟩:=GI hm
    refine SX Q Q (aV Q Q Q Q g12) (SA TK Q (TN (WT ?_)))
    exact⟨_,[0],(SJ hm),Q,k0,Q⟩
  ·replace hm:=JF h5 hm
   refine aJ (WX ?_)
   obtain⟨v13,hm,hz⟩:=II hm
   rw [hz4 _ hz] at hm
   refine WX (WH (WT ?_))
   exact⟨_,[0],(SJ hm),Q,k0,Q⟩
 ·refine WN [] Q Q (RS (SA TK Q (TN (WN [4] Q Q (TR ?_)))))
  obtain rfl:=OJ hm
  exact EndsS.one _ Q (.d _) (.refl _)

theorem qCL {p0:Table} {p1:Int} {p2:Int} {r:Int} (hm:mW p0 p1 p2=some r):RetN Tryz.prog 111 [p0.enc,.int .i64 p1,.int .i64 p2] (.int .i64 r):=by
 refine .unit (aQ qVA Tryz.func111 Q Tryz.ntmps111 Q Q (fun wX gX=>?_)) Q
 unfold mW at hm
 refine WN [0,1,2] Q Q (RS (eR 0 Q Q Q (SA TK Q (TN (WN [1,2,3] Q Q (RS (SA TK Q (SA TK Q (SA TK Q ?_)))))))))
 obtain⟨e1,he1,hm⟩:=GV hm
 refine SX Q Q (bZ TK Q Q Q Q he1) (SA TK Q (dA 1 Q Q iH Q (cO 1 [none,none,none,some 3,some 2,some 1,none,none,some 3,some 2,some 1,some 2,some 1,some 2] Q Q (SA TK Q (TN (WN [2,3,7] Q Q (RS (SA TK Q (SA TK Q (SA TK Q ?_))))))))))
 obtain⟨e2,he2,hm⟩:=GV hm
 refine SX Q Q (bZ TK Q Q Q Q he2) (SA TK Q (dA 2 Q Q iH Q (cO 2 [none,none,none,some 3,some 2,some 1,none,none,some 3,some 2,some 1,some 2,some 1,some 2] Q Q (SA TK Q (TN (WN [3,7,8] Q Q (RS (SA TK Q (SA TK Q ?_)))))))))
 refine SX Q Q (aT TK Q Q Q) ?_
 obtain⟨g3,hm⟩:=GI hm
 refine SX Q Q (aV Q Q Q Q g3) (SA TK Q (TN (WN [3,7,8,9] Q Q (RS (SA TK Q (SA TK Q ?_))))))
 obtain⟨r4,hr4,hm⟩:=BI hm
 refine SX Q Q (RN Q Q (SC (.d _) (SC (.d _) SN)) (tJ hr4)) (SA TK Q (TN (WN [3,7,8,9,10] Q Q (RS (SA TK Q (SA TK Q ?_))))))
 obtain⟨r5,hr5,hm⟩:=BI hm
 refine SX Q Q (RN Q Q (SC (.d _) (SC (.d _) SN)) (tJ hr5)) (SA TK Q (TN (WN [3,7,8,9,10,11] Q Q (RS ?_))))
 iterate 4 (refine SA TK Q ?_)
 obtain⟨r6,hr6,hm⟩:=BI hm
 refine SX Q Q (RN Q Q (SC (.d _) (SC (.d _) SN)) (lH hr6)) (SA TK Q (TN (WN [3,7,8,9,10,11,12] Q Q ?_)))
 refine aK hm (fun out7=>([(12,.d (.int .i64 out7))]:Fr)) (fun out7=>([]:List (Nat×Blk))) [12] [3,7,8,9,10,11] Q (fun z8 hm=>?_) (fun out7 hm=>?_)
 ·refine RS (SA TK Q (SA TK Q (TN (WN [3,7,8,9,10,11,12,44] Q Q ?_))))
  refine TC _ Q (fun h9=>?_) (fun h9=>?_)
  ·replace hm:=JA h9 hm
   refine TG ?_
   iterate 5 (refine SA TK Q ?_)
   obtain⟨r10,hr10,hm⟩:=BI hm
   refine SX Q Q (RN Q Q (SC (.d _) (SC (.d _) SN)) (lH hr10)) (SX Q Q (qLO Q Q Q Q) (SA TK Q (TN (WT ?_))))
   exact⟨_,[0,1,2],(SJ hm),Q,k0,Q⟩
  ·replace hm:=JB h9 hm
   refine TS (WT ?_)
   exact⟨_,[0,1,2],(SJ hm),Q,k0,Q⟩
 ·refine WN [3,7,8,9,10,11,12] Q Q (TQ ?_)
  refine aK hm (fun x11=>([(77,.d (.bool (x11)))]:Fr)) (fun x11=>([]:List (Nat×Blk))) [77] [3,7,8,9,12] Q (fun z12 hm=>?_) (fun x11 hm=>?_)
  ·refine TG (SA TK Q (SA TK Q (SB TK Q (fun q13 hq13 => ?_))))
   cases q13
   ·replace hm:=JB hq13 hm
    iterate 10 (refine SA TK Q ?_)
    refine SB TK Q (fun q14 hq14=>?_)
    cases q14
    ·replace hm:=JB hq14 hm
     iterate 12 (refine SA TK Q ?_)
     refine TN (WT ?_)
     exact⟨_,[0,1,2],(SJ hm),Q,k0,Q⟩
    ·replace hm:=JA hq14 hm
     refine SA TK Q (SA TK Q (SA TK Q (SB TK Q (fun q15 hq15=>?_))))
     cases q15
     ·replace hm:=JB hq15 hm
      iterate 8 (refine SA TK Q ?_)
      refine TN (WT ?_)
      exact⟨_,[0,1,2],(SJ hm),Q,k0,Q⟩
     ·replace hm:=JA hq15 hm
      iterate 4 (refine SA TK Q ?_)
      obtain⟨r16,hr16,hm⟩:=BI hm
      refine SX Q Q (RN Q Q (SC (.d _) (SC (.d _) SN)) (lH hr16)) (SA TK Q (SA TK Q (SA TK Q (TN (WT ?_)))))
      exact⟨_,[0,1,2],(SJ hm),Q,k0,Q⟩
   ·replace hm:=JA hq13 hm
    iterate 4 (refine SA TK Q ?_)
    obtain⟨r17,hr17,hm⟩:=BI hm
    refine SX Q Q (RN Q Q (SC (.d _) (SC (.d _) SN)) (lH hr17)) (SA TK Q (SA TK Q (SB TK Q (fun q18 hq18=>?_))))
    cases q18
    ·replace hm:=JF hq18 hm
     refine SA TK Q (SA TK Q (SB TK Q (fun q19 hq19=>?_)))
     cases q19
     ·replace hm:=JB hq19 hm
      iterate 12 (refine SA TK Q ?_)
      refine TN (WT ?_)
      exact⟨_,[0,1,2],(SJ hm),Q,k0,Q⟩
     ·replace hm:=JA hq19 hm
      refine SA TK Q (SA TK Q (SA TK Q (SB TK Q (fun q20 hq20=>?_))))
      cases q20
      ·replace hm:=JB hq20 hm
       iterate 8 (refine SA TK Q ?_)
       refine TN (WT ?_)
       exact⟨_,[0,1,2],(SJ hm),Q,k0,Q⟩
      ·replace hm:=JA hq20 hm
       iterate 4 (refine SA TK Q ?_)
       obtain⟨r21,hr21,hm⟩:=BI hm
       refine SX Q Q (RN Q Q (SC (.d _) (SC (.d _) SN)) (lH hr21)) (SA TK Q (SA TK Q (SA TK Q (TN (WT ?_)))))
       exact⟨_,[0,1,2],(SJ hm),Q,k0,Q⟩
    ·replace hm:=JT hq18 hm
     iterate 15 (refine SA TK Q ?_)
     refine TN (WT ?_)
     exact⟨_,[0,1,2],(SJ hm),Q,k0,Q⟩
  ·refine WN [3,7,8,9,12,77] Q Q ?_
   refine TC _ Q (fun h22=>?_) (fun h22=>?_)
   ·replace hm:=JA h22 hm
    refine RS (SA TK Q (SA TK Q (TN (WN [6] Q Q (TR (WR ?_))))))
    obtain rfl:=OJ hm
    exact EndsS.one _ Q (.d _) (.refl _)
   ·replace hm:=JB h22 hm
    refine TS (WT (WN [3,7,8,9,12] Q Q (RS (SA TK Q ?_))))
    obtain⟨r23,hr23,hm⟩:=BI hm
    refine SX Q Q (RD Q Q Q (jU hr23)) (SA TK Q (TN (WN [3,7,8,9,12,13] Q Q (RS (SA TK Q ?_)))))
    obtain⟨r24,hr24,hm⟩:=BI hm
    refine SX Q Q (RD Q Q Q (jU hr24)) (SA TK Q (TN (WN [3,7,9,12,13,14] Q Q ?_)))
    refine dI hm (fun out25=>([(12,.d (.int .i64 out25))]:Fr)) (fun out25=>([]:List (Nat×Blk))) [12] [] Q (fun z26 hm hz26=>?_) (fun out25 hm=>?_)
    ·refine RS (SA TK Q (TN (WN [3, 7, 9, 12, 13, 14, 15] Q Q (TB (aZ hm (fun (out29, i30) => ([(12, .d (.int .i64 out29)), (15, .d (.int .i64 i30))] : Fr)) (fun (out29, i30) => ([] : List (Nat × Blk))) [12, 15] [3, 7, 9, 13, 14] [0, 1, 2] Q k0 Q Q Q Q Q (fun s z31 hm hz31 => ?_))))))
     obtain⟨out29,i30⟩:=s
     refine WN [3,7,9,12,13,14,15] Q Q (TQ (RS (SA TK Q (SA TK Q (SX Q Q (aT TK Q Q Q) (SA TK Q (TN (WN [3,7,9,12,13,14,15,86] Q Q ?_))))))))
     refine TC _ Q (fun h32=>?_) (fun h32=>?_)
     ·replace hm:=JT h32 hm
      refine TS (WT (WN [3,7,9,12,13,14,15] Q Q ?_))
      refine dI hm (fun out33=>([(12,.d (.int .i64 out33))]:Fr)) (fun out33=>([]:List (Nat×Blk))) [12] [3,7,9,13,14,15] Q (fun z34 hm hz34=>?_) (fun out33 hm=>?_)
      ·refine TB (RS (SA TK Q (TN (WN [3, 7, 9, 12, 13, 14, 15, 16] Q Q (TB (aZ hm (fun (out37, k38) => ([(12, .d (.int .i64 out37)), (16, .d (.int .i64 k38))] : Fr)) (fun (out37, k38) => ([] : List (Nat × Blk))) [12, 16] [3, 7, 9, 13, 14, 15] [0, 1, 2] Q k0 Q Q Q Q Q (fun s z39 hm hz39 => ?_)))))))
       obtain⟨out37,k38⟩:=s
       refine WN [3,7,9,12,13,14,15,16] Q Q (TQ (RS (SA TK Q (SA TK Q (SX Q Q (aT TK Q Q Q) (SA TK Q (TN (WN [3,7,9,12,13,14,15,16,92] Q Q ?_))))))))
       refine TC _ Q (fun h40=>?_) (fun h40=>?_)
       ·replace hm:=JT h40 hm
        refine TS (WT (WN [3,7,9,12,13,14,15,16] Q Q (TQ (TB (TQ ?_)))))
        refine aK hm (fun x41=>([(118,.d (.bool (x41)))]:Fr)) (fun x41=>([]:List (Nat×Blk))) [118] [3,7,9,12,13,14,15,16] Q (fun z42 hm=>?_) (fun x41 hm=>?_)
        ·refine cN follows  ?_
         iterate 2 (refine DA [0,1,2] TK Q ?_)
         obtain⟨e43,he43,hm⟩:=GV hm
         refine DX [0,1,2] Q Q (bZ TK Q Q Q Q he43) ?_
         iterate 4 (refine DA [0,1,2] TK Q ?_)
         obtain⟨e44,he44,hm⟩:=GV hm
         refine DX [0,1,2] Q Q (bZ TK Q Q Q Q he44) ?_
         iterate 3 (refine DA [0,1,2] TK Q ?_)
         refine d_b [0,1,2] TK Q (fun q45 hq45=>?_)
         cases q45
         ·replace hm:=eU hq45 hm
          iterate 2 (refine DA [0,1,2] TK Q ?_)
          obtain⟨e46,he46,hm⟩:=GV hm
          refine DX [0,1,2] Q Q (bZ TK Q Q Q Q he46) ?_
          iterate 4 (refine DA [0,1,2] TK Q ?_)
          obtain⟨e47,he47,hm⟩:=GV hm
          refine DX [0,1,2] Q Q (bZ TK Q Q Q Q he47) ?_
          iterate 4 (refine DA [0,1,2] TK Q ?_)
          refine DT ?_ (by kernel_rfl)
          refine TN (WT ?_)
          exact⟨_,[0,1,2],(SJ hm),Q,k0,Q⟩
         ·replace hm:=eT hq45 hm
          iterate 12 (refine DA [0,1,2] TK Q ?_)
          refine DT ?_ (by kernel_rfl)
          refine TN (WT ?_)
          exact⟨_,[0,1,2],(SJ hm),Q,k0,Q⟩
        ·refine WN [3,7,9,12,13,14,15,16,118] Q Q ?_
         refine TC _ Q (fun h48=>?_) (fun h48=>?_)
         ·replace hm:=JA h48 hm
          refine aJ (WX (WH (WT (WN [3,7,9,12,13,14,15,16] Q Q (TG (SA TK Q ?_))))))
          obtain⟨g49,hm⟩:=GI hm
          refine SX Q Q (aV Q Q Q Q g49) (SA TK Q (TN (WT ?_)))
          exact⟨_,[0,1,2],(SJ hm),Q,k0,Q⟩
         ·replace hm:=JB h48 hm
          refine TS (WT (WN [3,7,9,12,13,14,15,16] Q Q (cE follows  ?_)))
          iterate 7 (refine DA [0,1,2] TK Q ?_)
          obtain⟨e50,he50,hm⟩:=GV hm
          refine DX [0,1,2] Q Q (bZ TK Q Q Q Q he50) ?_
          iterate 2 (refine DA [0,1,2] TK Q ?_)
          obtain⟨r51,hr51,hm⟩:=BI hm
          refine DX [0,1,2] Q Q (RN Q Q (SC (.d _) (SC (.d _) SN)) (nY hr51)) ?_
          obtain⟨e52,he52,hm⟩:=GV hm
          refine DX [0,1,2] Q Q (bZ TK Q Q Q Q he52) (DA [0,1,2] TK Q (DX [0,1,2] Q Q (dW [.tmp 131] TK Q Q lI Q Q Q Q Q) ?_))
          obtain⟨r53,hr53,hm⟩:=BI hm
          refine DX [0,1,2] Q Q (RN Q Q (SC (.d _) (SC (.d _) SN)) (lH hr53)) ?_
          refine DT ?_ (by kernel_rfl)
          refine SA TK Q (TN (WN [3,7,9,12,13,14,15,16,17] Q Q (TQ ?_)))
          refine aK hm (fun x54=>([(153,.d (.bool (x54)))]:Fr)) (fun x54=>([]:List (Nat×Blk))) [153] [3,7,9,12,13,14,15,16,17] Q (fun z55 hm=>?_) (fun x54 hm=>?_)
          ·refine cN follows  ?_
           iterate 2 (refine DA [0,1,2] TK Q ?_)
           refine d_b [0,1,2] TK Q (fun q56 hq56=>?_)
           cases q56
           ·replace hm:=JF hq56 hm
            iterate 4 (refine DA [0,1,2] TK Q ?_)
            obtain⟨e57,he57,hm⟩:=GV hm
            refine DX [0,1,2] Q Q (bZ TK Q Q Q Q he57) (DA [0,1,2] TK Q ?_)
            obtain⟨r58,hr58,hm⟩:=BI hm
            refine DX [0,1,2] Q Q (RN Q Q (SC (.d _) (SC (.d _) SN)) (qT hr58)) (DA [0,1,2] TK Q (d_b [0,1,2] TK Q (fun q59 hq59=>?_)))
            cases q59
            ·replace hm:=JB hq59 hm
             iterate 4 (refine DA [0,1,2] TK Q ?_)
             obtain⟨e60,he60,hm⟩:=GV hm
             refine DX [0,1,2] Q Q (bZ TK Q Q Q Q he60) (DA [0,1,2] TK Q ?_)
             obtain⟨r61,hr61,hm⟩:=BI hm
             refine DX [0,1,2] Q Q (RN Q Q (SC (.d _) (SC (.d _) SN)) (qT hr61)) (DA [0,1,2] TK Q ?_)
             refine DT ?_ (by kernel_rfl)
             refine TN (WT ?_)
             exact⟨_,[0,1,2],(SJ hm),Q,k0,Q⟩
            ·replace hm:=JA hq59 hm
             iterate 8 (refine DA [0,1,2] TK Q ?_)
             refine DT ?_ (by kernel_rfl)
             refine TN (WT ?_)
             exact⟨_,[0,1,2],(SJ hm),Q,k0,Q⟩
           ·replace hm:=JT hq56 hm
            iterate 17 (refine DA [0,1,2] TK Q ?_)
            refine DT ?_ (by kernel_rfl)
            refine TN (WT ?_)
            exact⟨_,[0,1,2],(SJ hm),Q,k0,Q⟩
          ·refine WN [3,7,9,12,13,14,15,16,17,153] Q Q ?_
           refine TC _ Q (fun h62=>?_) (fun h62=>?_)
           ·replace hm:=JA h62 hm
            refine RS (SA TK Q (SA TK Q (TN (WN [6] Q Q (TR (WR (WB (WR ?_))))))))
            obtain⟨v63,hm,hz⟩:=II hm
            rw [hz39 _ hz] at hm
            refine WR (WB (WB ?_))
            obtain⟨v64,hm,hz⟩:=II hm
            rw [hz34 _ hz] at hm
            refine WR ?_
            obtain⟨v65,hm,hz⟩:=II hm
            rw [hz31 _ hz] at hm
            refine WR (WB ?_)
            obtain⟨v66,hm,hz⟩:=II hm
            rw [hz26 _ hz] at hm
            refine WR ?_
            obtain rfl:=OJ hm
            exact EndsS.one _ Q (.d _) (.refl _)
           ·replace hm:=JB h62 hm
            refine TS (WT (WN [3,7,9,12,13,14,15,16,17] Q Q (TG (SA TK Q (SA TK Q (SX Q Q (qLO Q Q Q Q) (SA TK Q (TN (WK ?_)))))))))
            refine WT (WN [3,7,9,12,13,14,15,16] Q Q (TG (SA TK Q ?_)))
            obtain⟨g67,hm⟩:=GI hm
            refine SX Q Q (aV Q Q Q Q g67) (SA TK Q (TN (WT ?_)))
            exact⟨_,[0,1,2],(SJ hm),Q,k0,Q⟩
       ·replace hm:=JF h40 hm
        refine aJ (WX ?_)
        obtain⟨v68,hm,hz⟩:=II hm
        rw [hz39 _ hz] at hm
        refine WX (WH (WK (WT ?_)))
        exact⟨_,[0,1,2],(SJ hm),Q,k0,Q⟩
      ·refine WN [3,7,9,12,13,14,15] Q Q (TG (SA TK Q ?_))
       obtain⟨g69,hm⟩:=GI hm
       refine SX Q Q (aV Q Q Q Q g69) (SA TK Q (TN (WT ?_)))
       exact⟨_,[0,1,2],(SJ hm),Q,k0,Q⟩
     ·replace hm:=JF h32 hm
      refine aJ (WX ?_)
      obtain⟨v70,hm,hz⟩:=II hm
      rw [hz31 _ hz] at hm
      refine WX (WH (WT ?_))
      exact⟨_,[0,1,2],(SJ hm),Q,k0,Q⟩
    ·refine WN [12] Q Q (RS (SA TK Q (SA TK Q (TN (WN [6] Q Q (TR ?_))))))
     obtain rfl:=OJ hm
     exact EndsS.one _ Q (.d _) (.refl _)

theorem qCM {p0:Int} {r:ByteArray} (hm:pC p0=some r):RetN Tryz.prog 154 [.int .i64 p0] (.str r):=by
 refine .unit (aQ qTY Tryz.func154 Q Tryz.ntmps154 Q Q (fun wX gX=>?_)) Q
 unfold pC at hm
 refine WN [0] Q Q (RS (SA TK Q (TN (WN [0] Q Q (RS (SA TK Q (TN (WN [0,3] Q Q ?_))))))))
 refine aK hm (fun s1=>([(3,.d (.str s1))]:Fr)) (fun s1=>([]:List (Nat×Blk))) [3] [0] Q (fun z2 hm=>?_) (fun s1 hm=>?_)
 ·refine RS (SA TK Q (SA TK Q (TN (WN [0, 3, 4] Q Q (TB (aZ hm (fun (s5, m6) => ([(3, .d (.str s5)), (4, .d (.int .i64 m6))] : Fr)) (fun (s5, m6) => ([] : List (Nat × Blk))) [3, 4] [0] [] Q k0 Q Q Q Q Q (fun s z7 hm hz7 => ?_)))))))
  obtain⟨s5,m6⟩:=s
  refine WN [0,3,4] Q Q (TQ ?_)
  refine kQ [(12,.d (.bool (((!(decide (m6=(0:Int))))||(decide (s5=(⟨#[]⟩:ByteArray)))))))] [12] [0,3,4] Q ?_ ?_
  ·refine TG (SA TK Q (SA TK Q (SB TK Q (fun q8 hq8 => ?_))))
   cases q8
   ·refine SA TK Q (SA TK Q (SA TK Q (TN (WT ?_))))
    exact⟨[],Q,k0,dZ (bS (bT (by simp [hq8])) Q) Q⟩
   ·refine SA TK Q (SA TK Q (SA TK Q (TN (WT ?_))))
    exact⟨[],Q,k0,dZ (bS (bT (by simp [hq8])) Q) Q⟩
  ·refine WN [0,3,4,12] Q Q ?_
   refine TC _ Q (fun h9=>?_) (fun h9=>?_)
   ·replace hm:=JA h9 hm
    refine TS (WT (WN [0,3,4] Q Q (TQ (TB (RS (SA TK Q ?_))))))
    obtain⟨g10,hm⟩:=GI hm
    refine SX Q Q (zBG Q Q Q (zBA g10)) (SA TK Q (TN (WN [0,3,4,5] Q Q ?_)))
    refine aK hm (fun d11=>([(5,.d (.int .i64 d11))]:Fr)) (fun d11=>([]:List (Nat×Blk))) [5] [0,3,4] Q (fun z12 hm=>?_) (fun d11 hm=>?_)
    ·refine RS (SA TK Q (SA TK Q (TN (WN [0,3,4,5,18] Q Q ?_))))
     refine TC _ Q (fun h13=>?_) (fun h13=>?_)
     ·replace hm:=JT h13 hm
      refine TG (SA TK Q (SX Q Q (x_neg Q Q) (SA TK Q (TN (WT ?_)))))
      exact⟨_,[],(SJ hm),Q,k0,Q⟩
     ·replace hm:=JF h13 hm
      refine TS (WT ?_)
      exact⟨_,[],(SJ hm),Q,k0,Q⟩
    ·refine WN [0,3,4,5] Q Q (TG (SA TK Q (SA TK Q ?_)))
     obtain⟨g14,hm⟩:=GI hm
     refine SX Q Q (aV Q Q Q Q g14) ?_
     obtain⟨g15,hm⟩:=GI hm
     refine SX Q Q (x_cutS Q Tryz.underlying9 Q Q Q g15) (SA TK Q ?_)
     obtain⟨g16,hm⟩:=GI hm
     refine SX Q Q (qBS Q Q Q g16) (SA TK Q (TN (WK (WT (WN [0,3,4] Q Q (TG (SA TK Q ?_)))))))
     obtain⟨g17,hm⟩:=GI hm
     refine SX Q Q (zBG Q Q Q (zBB g17)) (SA TK Q (TN (WT ?_)))
     exact⟨_,[],(SJ hm),Q,k0,Q⟩
   ·replace hm:=JB h9 hm
    refine aJ (WX ?_)
    obtain⟨v18,hm,hz⟩:=II hm
    rw [hz7 _ hz] at hm
    refine WX (WH (WT ?_))
    exact⟨_,[],(SJ hm),Q,k0,Q⟩
 ·refine WN [0,3] Q Q (TQ (RS (SA TK Q (SA TK Q (TN (WN [3,28] Q Q ?_))))))
  refine TC _ Q (fun h19=>?_) (fun h19=>?_)
  ·replace hm:=JT h19 hm
   refine RS (SA TK Q ?_)
   obtain⟨g20,hm⟩:=GI hm
   refine SX Q Q (qBS Q Q Q g20) (SA TK Q (TN (WN [2] Q Q (TR (WR ?_)))))
   obtain rfl:=OJ hm
   exact EndsS.one _ Q (.d _) (.refl _)
  ·replace hm:=JF h19 hm
   refine TS (WT (WN [3] Q Q (RS (SA TK Q (SA TK Q (TN (WN [2] Q Q (TR ?_))))))))
   obtain rfl:=OJ hm
   exact EndsS.one _ Q (.d _) (.refl _)

theorem cX {p0:ByteArray} {p1:Int} {r:ByteArray} (hm:dB p0 p1=some r):RetN Tryz.prog 115 [.str p0,.int .i64 p1] (.str r):=by
 refine .unit (aQ qUW Tryz.func115 Q Tryz.ntmps115 Q Q (fun wX gX=>?_)) Q
 unfold dB at hm
 refine WN [0,1] Q Q (RS (SA TK Q (TN (WN [0,1] Q Q (RS (SA TK Q ?_))))))
 obtain⟨g1,hm⟩:=GI hm
 refine SX Q Q (qBS Q Q Q g1) (SA TK Q ?_)
 obtain⟨r2,hr2,hm⟩:=BI hm
 refine SX Q Q (RN Q Q (SC (.d _) SN) (qCM hr2)) ?_
 obtain⟨g3,hm⟩:=GI hm
 refine SX Q Q (qBS Q Q Q g3) (SA TK Q (TN (WN [4] Q Q (TR ?_))))
 obtain rfl:=OJ hm
 exact EndsS.one _ Q (.d _) (.refl _)

theorem qER {p0:Table} {r0:(List ByteArray)} {r1:Int} (hm:oH p0=some (r0,r1)):RetT Tryz.prog 52 [p0.enc] [.sl 1 (r0.map D.str),.int .i64 r1]:=by
 refine .of (mv:=fun _=>false) (pH qZK Tryz.func52 Q Tryz.ntmps52 Q Q (fun wX gX=>?_))
 unfold oH at hm
 refine WN [0] Q Q (RS (eR 0 Q Q Q (SA TK Q (SA TK Q (TN (WN [1] Q Q (RS (jD (f:=D.str) 1 9 1 Q Q Q (TN ?_)))))))))
 refine WN [1,4] Q Q ?_
 refine aK hm (fun b1=>([(4,.msl 1 1 0 b1.length)]:Fr)) (fun b1=>([(1,.flat 9 1 (b1.map D.str))]:List (Nat×Blk))) [4] [1] Q (fun z2 hm=>?_) (fun b1 hm=>?_)
 ·refine RS (SA TK Q (TN (WN [1, 4, 5] Q Q (TB (aZ hm (fun (i6, b7) => ([(4, .msl 1 1 0 b7.length), (5, .d (.int .i64 i6))] : Fr)) (fun (i6, b7) => ([(1, .flat 9 1 (b7.map D.str))] : List (Nat × Blk))) [4, 5] [1] [0, 1] Q k0 Q Q Q Q Q (fun s z8 hm hz8 => ?_))))))
  obtain⟨i6,b7⟩:=s
  refine WN [1,4,5] Q Q (TQ (RS ?_))
  iterate 4 (refine SA TK Q ?_)
  refine TN (WN [1,4,5,16] Q Q ?_)
  refine TC _ Q (fun h9=>?_) (fun h9=>?_)
  ·replace hm:=JT h9 hm
   refine TS (WT (WN [1,4,5] Q Q (TQ (TB (RS (SA TK Q (SA TK Q ?_)))))))
   obtain⟨r10,hr10,hm⟩:=BI hm
   refine SX Q Q (RN Q Q (SC (.d _) (SC (.d _) SN)) (cX hr10)) (SX Q Q (dW [.tmp 21] TK Q Q eM Q Q Q Q Q) ?_)
   obtain⟨g11,hm⟩:=GI hm
   refine cT (f:=D.str) ([r10]:List ByteArray) TK Q Q eM Q Q Q Q Q (fun h=>absurd h (Nat.not_lt_zero _)) Q cR g11 Q Q (SA TK Q (TN (WN [1,4,5] Q Q (TG (SA TK Q (SA TK Q ?_))))))
   obtain⟨r12,hr12,hm⟩:=BI hm
   refine SX Q Q (RN Q Q (SC (.d _) (SC (.d _) SN)) (cX hr12)) (SX Q Q (dW [.tmp 26] TK Q Q eM Q Q Q Q Q) ?_)
   obtain⟨g13,hm⟩:=GI hm
   refine cT (f:=D.str) ([r12]:List ByteArray) TK Q Q eM Q Q Q Q Q (fun h=>absurd h (Nat.not_lt_zero _)) Q cR g13 Q Q (SA TK Q (TN (WK (WT (WN [1,4,5] Q Q (TG (SA TK Q ?_)))))))
   obtain⟨g14,hm⟩:=GI hm
   refine SX Q Q (aV Q Q Q Q g14) (SA TK Q (TN (WT ?_)))
   exact⟨_,[0,1],(SJ hm),Q,k0,Q⟩
  ·replace hm:=JF h9 hm
   refine aJ (WX ?_)
   obtain⟨v15,hm,hz⟩:=II hm
   rw [hz8 _ hz] at hm
   refine WX (WH (WT ?_))
   exact⟨_,[0,1],(SJ hm),Q,k0,Q⟩
 ·refine WN [1,4] Q Q ?_
  refine aK hm (fun b16=>([(4,.msl 1 1 0 b16.length)]:Fr)) (fun b16=>([(1,.flat 9 1 (b16.map D.str))]:List (Nat×Blk))) [4] [1] Q (fun z17 hm=>?_) (fun b16 hm=>?_)
  ·refine RS (SA TK Q (TN (WN [1, 4, 6] Q Q (TB (aZ hm (fun (i21, b22) => ([(4, .msl 1 1 0 b22.length), (6, .d (.int .i64 i21))] : Fr)) (fun (i21, b22) => ([(1, .flat 9 1 (b22.map D.str))] : List (Nat × Blk))) [4, 6] [1] [0, 1] Q k0 Q Q Q Q Q (fun s z23 hm hz23 => ?_))))))
   obtain⟨i21,b22⟩:=s
   refine WN [1,4,6] Q Q (TQ (RS (SA TK Q (SA TK Q (SA TK Q (SX Q Q (aT TK Q Q Q) (SA TK Q (TN (WN [1,4,6,33] Q Q ?_)))))))))
   refine TC _ Q (fun h24=>?_) (fun h24=>?_)
   ·replace hm:=JT h24 hm
    refine TS (WT (WN [1,4,6] Q Q (TQ (TB (RS (SA TK Q (SA TK Q ?_)))))))
    obtain⟨r25,hr25,hm⟩:=BI hm
    refine SX Q Q (RN Q Q (SC (.d _) (SC (.d _) SN)) (cX hr25)) (SX Q Q (dW [.tmp 38] TK Q Q eM Q Q Q Q Q) ?_)
    obtain⟨g26,hm⟩:=GI hm
    refine cT (f:=D.str) ([r25]:List ByteArray) TK Q Q eM Q Q Q Q Q (fun h=>absurd h (Nat.not_lt_zero _)) Q cR g26 Q Q (SA TK Q (TN (WN [1,4,6] Q Q (TG (SA TK Q (SA TK Q ?_))))))
    obtain⟨r27,hr27,hm⟩:=BI hm
    refine SX Q Q (RN Q Q (SC (.d _) (SC (.d _) SN)) (cX hr27)) (SX Q Q (dW [.tmp 43] TK Q Q eM Q Q Q Q Q) ?_)
    obtain⟨g28,hm⟩:=GI hm
    refine cT (f:=D.str) ([r27]:List ByteArray) TK Q Q eM Q Q Q Q Q (fun h=>absurd h (Nat.not_lt_zero _)) Q cR g28 Q Q (SA TK Q (TN (WK (WT (WN [1,4,6] Q Q (TG (SA TK Q ?_)))))))
    obtain⟨g29,hm⟩:=GI hm
    refine SX Q Q (aV Q Q Q Q g29) (SA TK Q (TN (WT ?_)))
    exact⟨_,[0,1],(SJ hm),Q,k0,Q⟩
   ·replace hm:=JF h24 hm
    refine aJ (WX ?_)
    obtain⟨v30,hm,hz⟩:=II hm
    rw [hz23 _ hz] at hm
    refine WX (WH (WT ?_))
    exact⟨_,[0,1],(SJ hm),Q,k0,Q⟩
  ·refine WN [1,4] Q Q ?_
   refine aK hm (fun b31=>([(4,.msl 1 1 0 b31.length)]:Fr)) (fun b31=>([(1,.flat 9 1 (b31.map D.str))]:List (Nat×Blk))) [4] [1] Q (fun z32 hm=>?_) (fun b31 hm=>?_)
   ·refine RS (SA TK Q (TN (WN [1, 4, 7] Q Q (TB (aZ hm (fun (i36, b37) => ([(4, .msl 1 1 0 b37.length), (7, .d (.int .i64 i36))] : Fr)) (fun (i36, b37) => ([(1, .flat 9 1 (b37.map D.str))] : List (Nat × Blk))) [4, 7] [1] [0, 1] Q k0 Q Q Q Q Q (fun s z38 hm hz38 => ?_))))))
    obtain⟨i36,b37⟩:=s
    refine WN [1,4,7] Q Q (TQ (RS (SA TK Q (SA TK Q (SA TK Q (SX Q Q (aT TK Q Q Q) (SA TK Q (TN (WN [1,4,7,50] Q Q ?_)))))))))
    refine TC _ Q (fun h39=>?_) (fun h39=>?_)
    ·replace hm:=JT h39 hm
     refine TS (WT (WN [1,4,7] Q Q (TQ (TB (RS (SA TK Q (SA TK Q ?_)))))))
     obtain⟨r40,hr40,hm⟩:=BI hm
     refine SX Q Q (RN Q Q (SC (.d _) (SC (.d _) SN)) (cX hr40)) (SX Q Q (dW [.tmp 55] TK Q Q eM Q Q Q Q Q) ?_)
     obtain⟨g41,hm⟩:=GI hm
     refine cT (f:=D.str) ([r40]:List ByteArray) TK Q Q eM Q Q Q Q Q (fun h=>absurd h (Nat.not_lt_zero _)) Q cR g41 Q Q (SA TK Q (TN (WN [1,4,7] Q Q (RS (SA TK Q (SA TK Q ?_))))))
     obtain⟨r42,hr42,hm⟩:=BI hm
     refine SX Q Q (RN Q Q (SC (.d _) (SC (.d _) SN)) (cX hr42)) (SX Q Q (dW [.tmp 60] TK Q Q eM Q Q Q Q Q) ?_)
     obtain⟨g43,hm⟩:=GI hm
     refine cT (f:=D.str) ([r42]:List ByteArray) TK Q Q eM Q Q Q Q Q (fun h=>absurd h (Nat.not_lt_zero _)) Q cR g43 Q Q (SA TK Q (TN (WN [1,4,7] Q Q (RS (SA TK Q (SA TK Q ?_))))))
     obtain⟨r44,hr44,hm⟩:=BI hm
     refine SX Q Q (RN Q Q (SC (.d _) (SC (.d _) SN)) (cX hr44)) (SX Q Q (dW [.tmp 65] TK Q Q eM Q Q Q Q Q) ?_)
     obtain⟨g45,hm⟩:=GI hm
     refine cT (f:=D.str) ([r44]:List ByteArray) TK Q Q eM Q Q Q Q Q (fun h=>absurd h (Nat.not_lt_zero _)) Q cR g45 Q Q (SA TK Q (TN (WN [1,4,7] Q Q (TG (SA TK Q (SA TK Q ?_))))))
     obtain⟨r46,hr46,hm⟩:=BI hm
     refine SX Q Q (RN Q Q (SC (.d _) (SC (.d _) SN)) (cX hr46)) (SX Q Q (dW [.tmp 70] TK Q Q eM Q Q Q Q Q) ?_)
     obtain⟨g47,hm⟩:=GI hm
     refine cT (f:=D.str) ([r46]:List ByteArray) TK Q Q eM Q Q Q Q Q (fun h=>absurd h (Nat.not_lt_zero _)) Q cR g47 Q Q (SA TK Q (TN (WK (WT (WN [1,4,7] Q Q (TG (SA TK Q ?_)))))))
     obtain⟨g48,hm⟩:=GI hm
     refine SX Q Q (aV Q Q Q Q g48) (SA TK Q (TN (WT ?_)))
     exact⟨_,[0,1],(SJ hm),Q,k0,Q⟩
    ·replace hm:=JF h39 hm
     refine aJ (WX ?_)
     obtain⟨v49,hm,hz⟩:=II hm
     rw [hz38 _ hz] at hm
     refine WX (WH (WT ?_))
     exact⟨_,[0,1],(SJ hm),Q,k0,Q⟩
   ·refine WN [1,4] Q Q (RS (SA TK Q (SA TK Q (SA TK Q (TN (WN [1,4,8] Q Q ?_))))))
    refine aK hm (fun b50=>([(4,.msl 1 1 0 b50.length)]:Fr)) (fun b50=>([(1,.flat 9 1 (b50.map D.str))]:List (Nat×Blk))) [4] [1,8] Q (fun z51 hm=>?_) (fun b50 hm=>?_)
    ·refine RS (SA TK Q (TN (WN [1, 4, 8, 9] Q Q (TB (aZ hm (fun (i55, b56) => ([(4, .msl 1 1 0 b56.length), (9, .d (.int .i64 i55))] : Fr)) (fun (i55, b56) => ([(1, .flat 9 1 (b56.map D.str))] : List (Nat × Blk))) [4, 9] [1, 8] [0, 1] Q k0 Q Q Q Q Q (fun s z57 hm hz57 => ?_))))))
     obtain⟨i55,b56⟩:=s
     refine WN [1,4,8,9] Q Q (TQ (RS (SA TK Q (SA TK Q (SA TK Q (SX Q Q (aT TK Q Q Q) (SA TK Q (TN (WN [1,4,8,9,79] Q Q ?_)))))))))
     refine TC _ Q (fun h58=>?_) (fun h58=>?_)
     ·replace hm:=JT h58 hm
      refine TS (WT (WN [1,4,8,9] Q Q (TQ (TB (TG (SA TK Q (SA TK Q ?_)))))))
      obtain⟨r59,hr59,hm⟩:=BI hm
      refine SX Q Q (RN Q Q (SC (.d _) (SC (.d _) SN)) (cX hr59)) (SX Q Q (dW [.tmp 84] TK Q Q eM Q Q Q Q Q) ?_)
      obtain⟨g60,hm⟩:=GI hm
      refine cT (f:=D.str) ([r59]:List ByteArray) TK Q Q eM Q Q Q Q Q (fun h=>absurd h (Nat.not_lt_zero _)) Q cR g60 Q Q (SA TK Q (TN (WK (WT (WN [1,4,8,9] Q Q (TG (SA TK Q ?_)))))))
      obtain⟨g61,hm⟩:=GI hm
      refine SX Q Q (aV Q Q Q Q g61) (SA TK Q (TN (WT ?_)))
      exact⟨_,[0,1],(SJ hm),Q,k0,Q⟩
     ·replace hm:=JF h58 hm
      refine aJ (WX ?_)
      obtain⟨v62,hm,hz⟩:=II hm
      rw [hz57 _ hz] at hm
      refine WX (WH (WT ?_))
      exact⟨_,[0,1],(SJ hm),Q,k0,Q⟩
    ·refine WN [1,4,8] Q Q ?_
     refine aK hm (fun b63=>([(4,.msl 1 1 0 b63.length)]:Fr)) (fun b63=>([(1,.flat 9 1 (b63.map D.str))]:List (Nat×Blk))) [4] [1,8] Q (fun z64 hm=>?_) (fun b63 hm=>?_)
     ·refine RS (SA TK Q (TN (WN [1, 4, 8, 10] Q Q (TB (aZ hm (fun (i68, b69) => ([(4, .msl 1 1 0 b69.length), (10, .d (.int .i64 i68))] : Fr)) (fun (i68, b69) => ([(1, .flat 9 1 (b69.map D.str))] : List (Nat × Blk))) [4, 10] [1, 8] [0, 1] Q k0 Q Q Q Q Q (fun s z70 hm hz70 => ?_))))))
      obtain⟨i68,b69⟩:=s
      refine WN [1,4,8,10] Q Q (TQ (RS (SA TK Q (SA TK Q (SA TK Q (SX Q Q (aT TK Q Q Q) (SA TK Q (TN (WN [1,4,8,10,91] Q Q ?_)))))))))
      refine TC _ Q (fun h71=>?_) (fun h71=>?_)
      ·replace hm:=JT h71 hm
       refine TS (WT (WN [1,4,8,10] Q Q ?_))
       refine aK hm (fun b72=>([(4,.msl 1 1 0 b72.length)]:Fr)) (fun b72=>([(1,.flat 9 1 (b72.map D.str))]:List (Nat×Blk))) [4] [1,8,10] Q (fun z73 hm=>?_) (fun b72 hm=>?_)
       ·refine TB (RS (SA TK Q (SA TK Q ?_)))
        obtain⟨r74,hr74,hm⟩:=BI hm
        refine SX Q Q (RN Q Q (SC (.d _) (SC (.d _) SN)) (cX hr74)) (SX Q Q (dW [.tmp 96] TK Q Q eM Q Q Q Q Q) ?_)
        obtain⟨g75,hm⟩:=GI hm
        refine cT (f:=D.str) ([r74]:List ByteArray) TK Q Q eM Q Q Q Q Q (fun h=>absurd h (Nat.not_lt_zero _)) Q cR g75 Q Q (SA TK Q (TN (WN [1,4,8,10] Q Q (RS (SA TK Q (SA TK Q ?_))))))
        obtain⟨r76,hr76,hm⟩:=BI hm
        refine SX Q Q (RN Q Q (SC (.d _) (SC (.d _) SN)) (cX hr76)) (SX Q Q (dW [.tmp 101] TK Q Q eM Q Q Q Q Q) ?_)
        obtain⟨g77,hm⟩:=GI hm
        refine cT (f:=D.str) ([r76]:List ByteArray) TK Q Q eM Q Q Q Q Q (fun h=>absurd h (Nat.not_lt_zero _)) Q cR g77 Q Q (SA TK Q (TN (WN [1,4,8,10] Q Q (RS (SA TK Q (SA TK Q ?_))))))
        obtain⟨r78,hr78,hm⟩:=BI hm
        refine SX Q Q (RN Q Q (SC (.d _) (SC (.d _) SN)) (cX hr78)) (SX Q Q (dW [.tmp 106] TK Q Q eM Q Q Q Q Q) ?_)
        obtain⟨g79,hm⟩:=GI hm
        refine cT (f:=D.str) ([r78]:List ByteArray) TK Q Q eM Q Q Q Q Q (fun h=>absurd h (Nat.not_lt_zero _)) Q cR g79 Q Q (SA TK Q (TN (WN [1,4,8,10] Q Q (RS (SA TK Q (SA TK Q ?_))))))
        obtain⟨r80,hr80,hm⟩:=BI hm
        refine SX Q Q (RN Q Q (SC (.d _) (SC (.d _) SN)) (cX hr80)) (SX Q Q (dW [.tmp 111] TK Q Q eM Q Q Q Q Q) ?_)
        obtain⟨g81,hm⟩:=GI hm
        refine cT (f:=D.str) ([r80]:List ByteArray) TK Q Q eM Q Q Q Q Q (fun h=>absurd h (Nat.not_lt_zero _)) Q cR g81 Q Q (SA TK Q (TN (WN [1,4,8,10] Q Q ?_)))
        refine aK hm (fun b82=>([(4,.msl 1 1 0 b82.length)]:Fr)) (fun b82=>([(1,.flat 9 1 (b82.map D.str))]:List (Nat×Blk))) [4] [1,8,10] Q (fun z83 hm=>?_) (fun b82 hm=>?_)
        ·refine RS (SA TK Q (TN (WN [1, 4, 8, 10, 11] Q Q (TB (aZ hm (fun (k87, b88) => ([(4, .msl 1 1 0 b88.length), (11, .d (.int .i64 k87))] : Fr)) (fun (k87, b88) => ([(1, .flat 9 1 (b88.map D.str))] : List (Nat × Blk))) [4, 11] [1, 8, 10] [0, 1] Q k0 Q Q Q Q Q (fun s z89 hm hz89 => ?_))))))
         obtain⟨k87,b88⟩:=s
         refine WN [1,4,8,10,11] Q Q (TQ (RS ?_))
         iterate 4 (refine SA TK Q ?_)
         obtain⟨e90,he90,hm⟩:=GV hm
         refine SX Q Q (bZ TK Q Q Q Q he90) (SA TK Q (SA TK Q (SX Q Q (aT TK Q Q Q) ?_)))
         obtain⟨g91,hm⟩:=GI hm
         refine SX Q Q (aV Q Q Q Q g91) (SA TK Q (TN (WN [1,4,8,10,11,123] Q Q ?_)))
         refine TC _ Q (fun h92=>?_) (fun h92=>?_)
         ·replace hm:=JT h92 hm
          refine TS (WT (WN [1,4,8,10,11] Q Q (TQ (TB (TG (SA TK Q (SA TK Q ?_)))))))
          obtain⟨r93,hr93,hm⟩:=BI hm
          refine SX Q Q (RN Q Q (SC (.d _) (SC (.d _) SN)) (cX hr93)) (SA TK Q ?_)
          obtain⟨r94,hr94,hm⟩:=BI hm
          refine SX Q Q (RN Q Q (SC (.d _) (SC (.d _) SN)) (cX hr94)) (SX Q Q (dW [.tmp 130] TK Q Q eM Q Q Q Q Q) ?_)
          obtain⟨g95,hm⟩:=GI hm
          refine cT (f:=D.str) ([r94]:List ByteArray) TK Q Q eM Q Q Q Q Q (fun h=>absurd h (Nat.not_lt_zero _)) Q cR g95 Q Q (SA TK Q (TN (WK (WT (WN [1,4,8,10,11] Q Q (TG (SA TK Q ?_)))))))
          obtain⟨g96,hm⟩:=GI hm
          refine SX Q Q (aV Q Q Q Q g96) (SA TK Q (TN (WT ?_)))
          exact⟨_,[0,1],(SJ hm),Q,k0,Q⟩
         ·replace hm:=JF h92 hm
          refine aJ (WX ?_)
          obtain⟨v97,hm,hz⟩:=II hm
          rw [hz89 _ hz] at hm
          refine WX (WH (WT ?_))
          exact⟨_,[0,1],(SJ hm),Q,k0,Q⟩
        ·refine WN [1,4,8,10] Q Q (RS (SA TK Q (SA TK Q ?_)))
         obtain⟨r98,hr98,hm⟩:=BI hm
         refine SX Q Q (RN Q Q (SC (.d _) (SC (.d _) SN)) (cX hr98)) (SX Q Q (dW [.tmp 135] TK Q Q eM Q Q Q Q Q) ?_)
         obtain⟨g99,hm⟩:=GI hm
         refine cT (f:=D.str) ([r98]:List ByteArray) TK Q Q eM Q Q Q Q Q (fun h=>absurd h (Nat.not_lt_zero _)) Q cR g99 Q Q (SA TK Q (TN (WN [1,4,8,10] Q Q (TG (SA TK Q (SA TK Q ?_))))))
         obtain⟨r100,hr100,hm⟩:=BI hm
         refine SX Q Q (RN Q Q (SC (.d _) (SC (.d _) SN)) (cX hr100)) (SX Q Q (dW [.tmp 140] TK Q Q eM Q Q Q Q Q) ?_)
         obtain⟨g101,hm⟩:=GI hm
         refine cT (f:=D.str) ([r100]:List ByteArray) TK Q Q eM Q Q Q Q Q (fun h=>absurd h (Nat.not_lt_zero _)) Q cR g101 Q Q (SA TK Q (TN (WK (WT ?_))))
         exact⟨_,[0,1],(SJ hm),Q,k0,Q⟩
       ·refine WN [1,4,8,10] Q Q (TG (SA TK Q ?_))
        obtain⟨g102,hm⟩:=GI hm
        refine SX Q Q (aV Q Q Q Q g102) (SA TK Q (TN (WT ?_)))
        exact⟨_,[0,1],(SJ hm),Q,k0,Q⟩
      ·replace hm:=JF h71 hm
       refine aJ (WX ?_)
       obtain⟨v103,hm,hz⟩:=II hm
       rw [hz70 _ hz] at hm
       refine WX (WH (WT ?_))
       exact⟨_,[0,1],(SJ hm),Q,k0,Q⟩
     ·refine WN [1,4,8] Q Q ?_
      refine aK hm (fun b104=>([(4,.msl 1 1 0 b104.length)]:Fr)) (fun b104=>([(1,.flat 9 1 (b104.map D.str))]:List (Nat×Blk))) [4] [8] Q (fun z105 hm=>?_) (fun b104 hm=>?_)
      ·refine RS (SA TK Q (TN (WN [1, 4, 8, 12] Q Q (TB (aZ hm (fun (i109, b110) => ([(4, .msl 1 1 0 b110.length), (12, .d (.int .i64 i109))] : Fr)) (fun (i109, b110) => ([(1, .flat 9 1 (b110.map D.str))] : List (Nat × Blk))) [4, 12] [1, 8] [0, 1] Q k0 Q Q Q Q Q (fun s z111 hm hz111 => ?_))))))
       obtain⟨i109,b110⟩:=s
       refine WN [1,4,8,12] Q Q (TQ (RS (SA TK Q (SA TK Q (SA TK Q (SX Q Q (aT TK Q Q Q) (SA TK Q (TN (WN [1,4,8,12,147] Q Q ?_)))))))))
       refine TC _ Q (fun h112=>?_) (fun h112=>?_)
       ·replace hm:=JT h112 hm
        refine TS (WT (WN [1,4,8,12] Q Q (TQ (TB (RS (SA TK Q (SA TK Q ?_)))))))
        obtain⟨r113,hr113,hm⟩:=BI hm
        refine SX Q Q (RN Q Q (SC (.d _) (SC (.d _) SN)) (cX hr113)) (SX Q Q (dW [.tmp 152] TK Q Q eM Q Q Q Q Q) ?_)
        obtain⟨g114,hm⟩:=GI hm
        refine cT (f:=D.str) ([r113]:List ByteArray) TK Q Q eM Q Q Q Q Q (fun h=>absurd h (Nat.not_lt_zero _)) Q cR g114 Q Q (SA TK Q (TN (WN [1,4,8,12] Q Q (RS (SA TK Q (SA TK Q ?_))))))
        obtain⟨r115,hr115,hm⟩:=BI hm
        refine SX Q Q (RN Q Q (SC (.d _) (SC (.d _) SN)) (cX hr115)) (SX Q Q (dW [.tmp 157] TK Q Q eM Q Q Q Q Q) ?_)
        obtain⟨g116,hm⟩:=GI hm
        refine cT (f:=D.str) ([r115]:List ByteArray) TK Q Q eM Q Q Q Q Q (fun h=>absurd h (Nat.not_lt_zero _)) Q cR g116 Q Q (SA TK Q (TN (WN [1,4,8,12] Q Q (RS (SA TK Q (SA TK Q ?_))))))
        obtain⟨r117,hr117,hm⟩:=BI hm
        refine SX Q Q (RN Q Q (SC (.d _) (SC (.d _) SN)) (cX hr117)) (SX Q Q (dW [.tmp 162] TK Q Q eM Q Q Q Q Q) ?_)
        obtain⟨g118,hm⟩:=GI hm
        refine cT (f:=D.str) ([r117]:List ByteArray) TK Q Q eM Q Q Q Q Q (fun h=>absurd h (Nat.not_lt_zero _)) Q cR g118 Q Q (SA TK Q (TN (WN [1,4,8,12] Q Q (RS (SA TK Q (SA TK Q ?_))))))
        obtain⟨r119,hr119,hm⟩:=BI hm
        refine SX Q Q (RN Q Q (SC (.d _) (SC (.d _) SN)) (cX hr119)) (SX Q Q (dW [.tmp 167] TK Q Q eM Q Q Q Q Q) ?_)
        obtain⟨g120,hm⟩:=GI hm
        refine cT (f:=D.str) ([r119]:List ByteArray) TK Q Q eM Q Q Q Q Q (fun h=>absurd h (Nat.not_lt_zero _)) Q cR g120 Q Q (SA TK Q (TN (WN [1,4,8,12] Q Q (TG (SA TK Q (SA TK Q ?_))))))
        obtain⟨r121,hr121,hm⟩:=BI hm
        refine SX Q Q (RN Q Q (SC (.d _) (SC (.d _) SN)) (cX hr121)) (SX Q Q (dW [.tmp 172] TK Q Q eM Q Q Q Q Q) ?_)
        obtain⟨g122,hm⟩:=GI hm
        refine cT (f:=D.str) ([r121]:List ByteArray) TK Q Q eM Q Q Q Q Q (fun h=>absurd h (Nat.not_lt_zero _)) Q cR g122 Q Q (SA TK Q (TN (WK (WT (WN [1,4,8,12] Q Q (TG (SA TK Q ?_)))))))
        obtain⟨g123,hm⟩:=GI hm
        refine SX Q Q (aV Q Q Q Q g123) (SA TK Q (TN (WT ?_)))
        exact⟨_,[0,1],(SJ hm),Q,k0,Q⟩
       ·replace hm:=JF h112 hm
        refine aJ (WX ?_)
        obtain⟨v124,hm,hz⟩:=II hm
        rw [hz111 _ hz] at hm
        refine WX (WH (WT ?_))
        exact⟨_,[0,1],(SJ hm),Q,k0,Q⟩
      ·refine WN [4,8] Q Q (RS ?_)
       iterate 4 (refine SA TK Q ?_)
       refine TN (WN [2,3] Q Q (TR ?_))
       obtain⟨rfl,rfl⟩:=Prod.mk.inj (Option.some.inj hm)
       exact EndsT.two Q (eO Q) (.refl _) (.d _) (.refl _)

end Go.Proofs.YtcagmechagiclaaGreatDoor

set_option maxHeartbeats 8000000
set_option linter.unusedSimpArgs false
set_option linter.unusedVariables false
set_option maxRecDepth 20000
namespace Go.Proofs.YtcagmechagiclaaGreatDoor
open Go Go.TL

theorem fN {p0:Compiler} {p1:Int} {r:Int} (hm:dU p0 p1=some r):Ret Tryz.prog 98 [.box 94 [.d (.sl 14 (p0.t.routes.map Route.enc)),.d (.sl 1 (p0.t.points.map (D.int .i64))),.d (.sl 1 (p0.t.homes.map (D.int .i64))),.d (.int .i64 p0.t.sections),.d (.int .i64 p0.t.signals),.d (.int .i64 p0.p.points),.d (.int .i64 p0.p.routes),.d (.int .i64 p0.p.lies),.d (.int .i64 p0.p.aux),.d (.int .i64 p0.p.all),.d (.sl 1 (p0.p.states.map (D.int .i64))),.msl 1 6 0 p0.rungs.length],.flat 40 6 (p0.rungs.map Rung.enc)] (fun _=>false) [.mptr 0 0 0 0,.d (.int .i64 p1)] (.d (.int .i64 r)) [.box 94 [.d (.sl 14 (p0.t.routes.map Route.enc)),.d (.sl 1 (p0.t.points.map (D.int .i64))),.d (.sl 1 (p0.t.homes.map (D.int .i64))),.d (.int .i64 p0.t.sections),.d (.int .i64 p0.t.signals),.d (.int .i64 p0.p.points),.d (.int .i64 p0.p.routes),.d (.int .i64 p0.p.lies),.d (.int .i64 p0.p.aux),.d (.int .i64 p0.p.all),.d (.sl 1 (p0.p.states.map (D.int .i64))),.msl 1 6 0 p0.rungs.length],.flat 40 6 (p0.rungs.map Rung.enc)]:=by
 refine cC qXX Tryz.func98 Q Tryz.ntmps98 Q Q (fun wX gX=>?_)
 unfold dU at hm
 refine WN [0,1] Q Q (RS (SA TK Q (TN (WN [0,1] Q Q (RS ?_)))))
 iterate 6 (refine SA TK Q ?_)
 obtain⟨e1,he1,hm⟩:=GV hm
 refine SX Q Q (bZ TK Q Q Q Q he1) (SA TK Q (SA TK Q (SX Q Q (aT TK Q Q Q) ?_)))
 obtain⟨g2,hm⟩:=GI hm
 refine SX Q Q (aV Q Q Q Q g2) (SA TK Q (TN (WN [4] Q Q (TR ?_))))
 obtain rfl:=OJ hm
 exact⟨_,[0,1],res Q,by decide,(kB Q),Q,Q⟩

theorem cP {p0:Compiler} {p1:Int} {r:Expr} (hm:bU p0 p1=some r):Ret Tryz.prog 99 [.box 94 [.d (.sl 14 (p0.t.routes.map Route.enc)),.d (.sl 1 (p0.t.points.map (D.int .i64))),.d (.sl 1 (p0.t.homes.map (D.int .i64))),.d (.int .i64 p0.t.sections),.d (.int .i64 p0.t.signals),.d (.int .i64 p0.p.points),.d (.int .i64 p0.p.routes),.d (.int .i64 p0.p.lies),.d (.int .i64 p0.p.aux),.d (.int .i64 p0.p.all),.d (.sl 1 (p0.p.states.map (D.int .i64))),.msl 1 6 0 p0.rungs.length],.flat 40 6 (p0.rungs.map Rung.enc)] (fun _=>false) [.mptr 0 0 0 0,.d (.int .i64 p1)] (.d (r.enc)) [.box 94 [.d (.sl 14 (p0.t.routes.map Route.enc)),.d (.sl 1 (p0.t.points.map (D.int .i64))),.d (.sl 1 (p0.t.homes.map (D.int .i64))),.d (.int .i64 p0.t.sections),.d (.int .i64 p0.t.signals),.d (.int .i64 p0.p.points),.d (.int .i64 p0.p.routes),.d (.int .i64 p0.p.lies),.d (.int .i64 p0.p.aux),.d (.int .i64 p0.p.all),.d (.sl 1 (p0.p.states.map (D.int .i64))),.msl 1 6 0 p0.rungs.length],.flat 40 6 (p0.rungs.map Rung.enc)]:=by
 refine cC qXW Tryz.func99 Q Tryz.ntmps99 Q Q (fun wX gX=>?_)
 unfold bU at hm
 refine WN [1] Q Q (RS (dA 2 Q Q aH Q (cO 2 [none,none,some 3] Q Q (TN (WN [1,4] Q Q (RS (SA TK Q ?_)))))))
 obtain⟨g1,hm⟩:=GI hm
 refine SX Q Q (aV Q Q Q Q g1) ?_
 obtain⟨r2,hr2,hm⟩:=BI hm
 refine SX Q Q (RD Q Q Q (eD hr2)) (SA TK Q (TN (WN [4] Q Q (TR ?_))))
 obtain rfl:=OJ hm
 exact⟨_,[0,1],.mk _ (.cons (.agg (TK.lay Q) Q Q Q Q) .nil) Q,by decide,(kB Q),Q,Q⟩

theorem bD {p0:Compiler} {p1:Int} {p2:Int} {r:Expr} (hm:aR p0 p1 p2=some r):Ret Tryz.prog 48 [.box 94 [.d (.sl 14 (p0.t.routes.map Route.enc)),.d (.sl 1 (p0.t.points.map (D.int .i64))),.d (.sl 1 (p0.t.homes.map (D.int .i64))),.d (.int .i64 p0.t.sections),.d (.int .i64 p0.t.signals),.d (.int .i64 p0.p.points),.d (.int .i64 p0.p.routes),.d (.int .i64 p0.p.lies),.d (.int .i64 p0.p.aux),.d (.int .i64 p0.p.all),.d (.sl 1 (p0.p.states.map (D.int .i64))),.msl 1 6 0 p0.rungs.length],.flat 40 6 (p0.rungs.map Rung.enc)] (fun _=>false) [.mptr 0 0 0 0,.d (.int .i64 p1),.d (.int .i64 p2)] (.d (r.enc)) [.box 94 [.d (.sl 14 (p0.t.routes.map Route.enc)),.d (.sl 1 (p0.t.points.map (D.int .i64))),.d (.sl 1 (p0.t.homes.map (D.int .i64))),.d (.int .i64 p0.t.sections),.d (.int .i64 p0.t.signals),.d (.int .i64 p0.p.points),.d (.int .i64 p0.p.routes),.d (.int .i64 p0.p.lies),.d (.int .i64 p0.p.aux),.d (.int .i64 p0.p.all),.d (.sl 1 (p0.p.states.map (D.int .i64))),.msl 1 6 0 p0.rungs.length],.flat 40 6 (p0.rungs.map Rung.enc)]:=by
 refine cC qZO Tryz.func48 Q Tryz.ntmps48 Q Q (fun wX gX=>?_)
 unfold aR at hm
 refine WN [0,1,2] Q Q (RS (dA 2 Q Q aH Q (cO 2 [none,none,some 3] Q Q (TN (WN [0,1,2,6] Q Q (RS ?_))))))
 iterate 6 (refine SA TK Q ?_)
 obtain⟨e1,he1,hm⟩:=GV hm
 refine SX Q Q (bZ TK Q Q Q Q he1) (SA TK Q (SA TK Q ?_))
 obtain⟨g2,hm⟩:=GI hm
 refine SX Q Q (aV Q Q Q Q g2) ?_
 obtain⟨r3,hr3,hm⟩:=BI hm
 refine SX Q Q (RD Q Q Q (eD hr3)) (SA TK Q (TN (WN [6] Q Q (TR ?_))))
 obtain rfl:=OJ hm
 exact⟨_,[0,1],.mk _ (.cons (.agg (TK.lay Q) Q Q Q Q) .nil) Q,by decide,(kB Q),Q,Q⟩

theorem eI {p0:Compiler} {p1:Int} {p2:Int} {r:Expr} (hm:cF p0 p1 p2=some r):Ret Tryz.prog 101 [.box 94 [.d (.sl 14 (p0.t.routes.map Route.enc)),.d (.sl 1 (p0.t.points.map (D.int .i64))),.d (.sl 1 (p0.t.homes.map (D.int .i64))),.d (.int .i64 p0.t.sections),.d (.int .i64 p0.t.signals),.d (.int .i64 p0.p.points),.d (.int .i64 p0.p.routes),.d (.int .i64 p0.p.lies),.d (.int .i64 p0.p.aux),.d (.int .i64 p0.p.all),.d (.sl 1 (p0.p.states.map (D.int .i64))),.msl 1 6 0 p0.rungs.length],.flat 40 6 (p0.rungs.map Rung.enc)] (fun _=>false) [.mptr 0 0 0 0,.d (.int .i64 p1),.d (.int .i64 p2)] (.d (r.enc)) [.box 94 [.d (.sl 14 (p0.t.routes.map Route.enc)),.d (.sl 1 (p0.t.points.map (D.int .i64))),.d (.sl 1 (p0.t.homes.map (D.int .i64))),.d (.int .i64 p0.t.sections),.d (.int .i64 p0.t.signals),.d (.int .i64 p0.p.points),.d (.int .i64 p0.p.routes),.d (.int .i64 p0.p.lies),.d (.int .i64 p0.p.aux),.d (.int .i64 p0.p.all),.d (.sl 1 (p0.p.states.map (D.int .i64))),.msl 1 6 0 p0.rungs.length],.flat 40 6 (p0.rungs.map Rung.enc)]:=by
 refine cC qVK Tryz.func101 Q Tryz.ntmps101 Q Q (fun wX gX=>?_)
 unfold cF at hm
 refine WN [0,1,2] Q Q (RS (dA 2 Q Q aH Q (cO 2 [none,none,some 3] Q Q (TN (WN [0,1,2,6] Q Q (RS ?_))))))
 iterate 6 (refine SA TK Q ?_)
 obtain⟨g1,hm⟩:=GI hm
 refine SX Q Q (aV Q Q Q Q g1) ?_
 obtain⟨g2,hm⟩:=GI hm
 refine SX Q Q (aV Q Q Q Q g2) (SA TK Q ?_)
 obtain⟨g3,hm⟩:=GI hm
 refine SX Q Q (aV Q Q Q Q g3) ?_
 obtain⟨r4,hr4,hm⟩:=BI hm
 refine SX Q Q (RD Q Q Q (eD hr4)) (SA TK Q (TN (WN [6] Q Q (TR ?_))))
 obtain rfl:=OJ hm
 exact⟨_,[0,1],.mk _ (.cons (.agg (TK.lay Q) Q Q Q Q) .nil) Q,by decide,(kB Q),Q,Q⟩

theorem fW {p0:Compiler} {p1:Int} {p2:Int} {r:Expr} (hm:dG p0 p1 p2=some r):Ret Tryz.prog 109 [.box 94 [.d (.sl 14 (p0.t.routes.map Route.enc)),.d (.sl 1 (p0.t.points.map (D.int .i64))),.d (.sl 1 (p0.t.homes.map (D.int .i64))),.d (.int .i64 p0.t.sections),.d (.int .i64 p0.t.signals),.d (.int .i64 p0.p.points),.d (.int .i64 p0.p.routes),.d (.int .i64 p0.p.lies),.d (.int .i64 p0.p.aux),.d (.int .i64 p0.p.all),.d (.sl 1 (p0.p.states.map (D.int .i64))),.msl 1 6 0 p0.rungs.length],.flat 40 6 (p0.rungs.map Rung.enc)] (fun _=>false) [.mptr 0 0 0 0,.d (.int .i64 p1),.d (.int .i64 p2)] (.d (r.enc)) [.box 94 [.d (.sl 14 (p0.t.routes.map Route.enc)),.d (.sl 1 (p0.t.points.map (D.int .i64))),.d (.sl 1 (p0.t.homes.map (D.int .i64))),.d (.int .i64 p0.t.sections),.d (.int .i64 p0.t.signals),.d (.int .i64 p0.p.points),.d (.int .i64 p0.p.routes),.d (.int .i64 p0.p.lies),.d (.int .i64 p0.p.aux),.d (.int .i64 p0.p.all),.d (.sl 1 (p0.p.states.map (D.int .i64))),.msl 1 6 0 p0.rungs.length],.flat 40 6 (p0.rungs.map Rung.enc)]:=by
 refine cC qVC Tryz.func109 Q Tryz.ntmps109 Q Q (fun wX gX=>?_)
 unfold dG at hm
 refine WN [0,1,2] Q Q (RS (dA 2 Q Q aH Q (cO 2 [none,none,some 3] Q Q (TN (WN [0,1,2,6] Q Q (RS ?_))))))
 iterate 6 (refine SA TK Q ?_)
 obtain⟨e1,he1,hm⟩:=GV hm
 refine SX Q Q (bZ TK Q Q Q Q he1) (SA TK Q ?_)
 obtain⟨g2,hm⟩:=GI hm
 refine SX Q Q (aV Q Q Q Q g2) (SA TK Q ?_)
 obtain⟨g3,hm⟩:=GI hm
 refine SX Q Q (aV Q Q Q Q g3) ?_
 obtain⟨r4,hr4,hm⟩:=BI hm
 refine SX Q Q (RD Q Q Q (eD hr4)) (SA TK Q (TN (WN [6] Q Q (TR ?_))))
 obtain rfl:=OJ hm
 exact⟨_,[0,1],.mk _ (.cons (.agg (TK.lay Q) Q Q Q Q) .nil) Q,by decide,(kB Q),Q,Q⟩

theorem lR {p0:Compiler} {p1:Int} {r:Expr} (hm:fE p0 p1=some r):Ret Tryz.prog 102 [.box 94 [.d (.sl 14 (p0.t.routes.map Route.enc)),.d (.sl 1 (p0.t.points.map (D.int .i64))),.d (.sl 1 (p0.t.homes.map (D.int .i64))),.d (.int .i64 p0.t.sections),.d (.int .i64 p0.t.signals),.d (.int .i64 p0.p.points),.d (.int .i64 p0.p.routes),.d (.int .i64 p0.p.lies),.d (.int .i64 p0.p.aux),.d (.int .i64 p0.p.all),.d (.sl 1 (p0.p.states.map (D.int .i64))),.msl 1 6 0 p0.rungs.length],.flat 40 6 (p0.rungs.map Rung.enc)] (fun _=>false) [.mptr 0 0 0 0,.d (.int .i64 p1)] (.d (r.enc)) [.box 94 [.d (.sl 14 (p0.t.routes.map Route.enc)),.d (.sl 1 (p0.t.points.map (D.int .i64))),.d (.sl 1 (p0.t.homes.map (D.int .i64))),.d (.int .i64 p0.t.sections),.d (.int .i64 p0.t.signals),.d (.int .i64 p0.p.points),.d (.int .i64 p0.p.routes),.d (.int .i64 p0.p.lies),.d (.int .i64 p0.p.aux),.d (.int .i64 p0.p.all),.d (.sl 1 (p0.p.states.map (D.int .i64))),.msl 1 6 0 p0.rungs.length],.flat 40 6 (p0.rungs.map Rung.enc)]:=by
 refine cC qVJ Tryz.func102 Q Tryz.ntmps102 Q Q (fun wX gX=>?_)
 unfold fE at hm
 refine WN [0,1] Q Q (RS (dA 2 Q Q aH Q (cO 2 [none,none,some 3] Q Q (TN (WN [0,1,4] Q Q (RS ?_))))))
 iterate 6 (refine SA TK Q ?_)
 obtain⟨e1,he1,hm⟩:=GV hm
 refine SX Q Q (bZ TK Q Q Q Q he1) (SA TK Q (SA TK Q (SA TK Q (TN (WN [0,1,4,5] Q Q (RS (jD (f:=Expr.encR) 3 38 3 Q Q Q (TN (WN [0,1,4,5,6] Q Q ?_)))))))))
 refine aK hm (fun b2=>([(6,.msl 3 3 0 b2.length)]:Fr)) (fun b2=>([(3,.flat 38 3 (b2.map Expr.encR))]:List (Nat×Blk))) [6] [0,4,5] Q (fun z3 hm=>?_) (fun b2 hm=>?_)
 ·refine RS (SA TK Q (TN (WN [0, 1, 4, 5, 6, 7] Q Q (TB (aZ hm (fun (k7, b8) => ([(6, .msl 3 3 0 b8.length), (7, .d (.int .i64 k7))] : Fr)) (fun (k7, b8) => ([(3, .flat 38 3 (b8.map Expr.encR))] : List (Nat × Blk))) [6, 7] [0, 1, 4, 5] [0, 1, 2, 3] Q (kB Q) Q Q Q Q Q (fun s z9 hm hz9 => ?_))))))
  obtain⟨k7,b8⟩:=s
  refine WN [0,1,4,5,6,7] Q Q (TQ (RS (SA TK Q (SA TK Q (SX Q Q (aT TK Q Q Q) ?_)))))
  obtain⟨g10,hm⟩:=GI hm
  refine SX Q Q (aV Q Q Q Q g10) (SA TK Q (TN (WN [0,1,4,5,6,7,21] Q Q ?_)))
  refine TC _ Q (fun h11=>?_) (fun h11=>?_)
  ·replace hm:=JT h11 hm
   refine TS (WT (WN [0,1,4,5,6,7] Q Q (TQ (TB (cN follows  ?_)))))
   iterate 4 (refine DA [0,1,2,3] TK Q ?_)
   obtain⟨r12,hr12,hm⟩:=BI hm
   refine DX [0,1,2,3] Q Q (aG [0,1] ⟨Q,Q,fun _=>Q⟩ Q Q Q (by decide) Q (aF Q) Q Q (fW hr12)) ?_
   iterate 3 (refine DA [0,1,2,3] TK Q ?_)
   obtain⟨e13,he13,hm⟩:=GV hm
   refine DX [0,1,2,3] Q Q (bZ TK Q Q Q Q he13) (DA [0,1,2,3] TK Q ?_)
   obtain⟨r14,hr14,hm⟩:=BI hm
   refine DX [0,1,2,3] Q Q (aG [0,1] ⟨Q,Q,fun _=>Q⟩ Q Q Q (by decide) Q (aF Q) Q Q (cP hr14)) ?_
   refine DX [0,1,2,3] Q Q (bF (f:=Expr.encR) (xs:=([r12,r14]:List Expr)) [.tmp 28,.tmp 34] TK Q Q aH Q (bB Q (aE (Expr.encR_eq _) (aE (Expr.encR_eq _) aL))) Q (aI Expr.encR_cells) Q) ?_
   obtain⟨r15,hr15,hm⟩:=BI hm
   refine DX [0,1,2,3] Q Q (RD Q Q Q (eZ hr15)) (DX [0,1,2,3] Q Q (bF (f:=Expr.encR) (xs:=([r15]:List Expr)) [.tmp 36] TK Q Q aH Q (bB Q (aE (Expr.encR_eq _) aL)) Q (aI Expr.encR_cells) Q) ?_)
   refine DT ?_ (by kernel_rfl)
   obtain⟨g16,hm⟩:=GI hm
   refine cT (f:=Expr.encR) ([r15]:List Expr) TK Q Q aH Q Q Q Q Q (fun h=>absurd (show 3 < 2 from h) (by decide)) Q cR g16 Q Q ?_
   refine SA TK Q (TN (WK (WT (WN [0,1,4,5,6,7] Q Q (TG (SA TK Q ?_))))))
   obtain⟨g17,hm⟩:=GI hm
   refine SX Q Q (aV Q Q Q Q g17) (SA TK Q (TN (WT ?_)))
   exact⟨_,[0,1,2,3],(SJ hm),Q,(kB Q),Q⟩
  ·replace hm:=JF h11 hm
   refine aJ (WX ?_)
   obtain⟨v18,hm,hz⟩:=II hm
   rw [hz9 _ hz] at hm
   refine WX (WH (WT ?_))
   exact⟨_,[0,1,2,3],(SJ hm),Q,(kB Q),Q⟩
 ·refine WN [0,4,5,6] Q Q (RS ?_)
  iterate 4 (refine SA TK Q ?_)
  refine SX Q Q (aT TK Q Q Q) ?_
  obtain⟨g19,hm⟩:=GI hm
  refine SX Q Q (aV Q Q Q Q g19) ?_
  obtain⟨e20,he20,hm⟩:=GV hm
  refine SX Q Q (bZ TK Q Q Q Q he20) (SA TK Q ?_)
  obtain⟨r21,hr21,hm⟩:=BI hm
  refine SX Q Q (aG [0,1] ⟨Q,Q,fun _=>Q⟩ Q Q Q (by decide) Q (aF Q) Q Q (cP hr21)) ?_
  refine SX Q Q (bF (f:=Expr.encR) (xs:=([r21]:List Expr)) [.tmp 47] TK Q Q aH Q (bB Q (aE (Expr.encR_eq _) aL)) Q (aI Expr.encR_cells) Q) ?_
  obtain⟨g22,hm⟩:=GI hm
  refine cT (f:=Expr.encR) ([r21]:List Expr) TK Q Q aH Q Q Q Q Q (fun h=>absurd (show 3 < 2 from h) (by decide)) Q cR g22 Q Q ?_
  refine SA TK Q (TN (WN [4,6] Q Q ?_))
  refine lC 6 3 [4] Q Q Q Q Q (by simp) Q Q ?_
  refine RS (SA TK Q ?_)
  obtain⟨r23,hr23,hm⟩:=BI hm
  refine SX Q Q (RD Q Q Q (dC hr23)) (SA TK Q (TN (WN [4] Q Q (TR ?_))))
  obtain rfl:=OJ hm
  exact⟨_,[0,1],.mk _ (.cons (.agg (TK.lay Q) Q Q Q Q) .nil) Q,by decide,(kB Q),Q,Q⟩

theorem jS {p0:Compiler} {p1:Int} {p2:Int} {r:Expr} (hm:fJ p0 p1 p2=some r):Ret Tryz.prog 103 [.box 94 [.d (.sl 14 (p0.t.routes.map Route.enc)),.d (.sl 1 (p0.t.points.map (D.int .i64))),.d (.sl 1 (p0.t.homes.map (D.int .i64))),.d (.int .i64 p0.t.sections),.d (.int .i64 p0.t.signals),.d (.int .i64 p0.p.points),.d (.int .i64 p0.p.routes),.d (.int .i64 p0.p.lies),.d (.int .i64 p0.p.aux),.d (.int .i64 p0.p.all),.d (.sl 1 (p0.p.states.map (D.int .i64))),.msl 1 6 0 p0.rungs.length],.flat 40 6 (p0.rungs.map Rung.enc)] (fun _=>false) [.mptr 0 0 0 0,.d (.int .i64 p1),.d (.int .i64 p2)] (.d (r.enc)) [.box 94 [.d (.sl 14 (p0.t.routes.map Route.enc)),.d (.sl 1 (p0.t.points.map (D.int .i64))),.d (.sl 1 (p0.t.homes.map (D.int .i64))),.d (.int .i64 p0.t.sections),.d (.int .i64 p0.t.signals),.d (.int .i64 p0.p.points),.d (.int .i64 p0.p.routes),.d (.int .i64 p0.p.lies),.d (.int .i64 p0.p.aux),.d (.int .i64 p0.p.all),.d (.sl 1 (p0.p.states.map (D.int .i64))),.msl 1 6 0 p0.rungs.length],.flat 40 6 (p0.rungs.map Rung.enc)]:=by
 refine cC qVI Tryz.func103 Q Tryz.ntmps103 Q Q (fun wX gX=>?_)
 unfold fJ at hm
 refine WN [0,1,2] Q Q (RS (dA 2 Q Q aH Q (cO 2 [none,none,some 3] Q Q (TN (WN [0,1,2,6] Q Q (RS (jD (f:=Expr.encR) 3 38 3 Q Q Q (TN ?_))))))))
 refine WN [0,1,2,6,7] Q Q ?_
 refine aK hm (fun b1=>([(7,.msl 3 3 0 b1.length)]:Fr)) (fun b1=>([(3,.flat 38 3 (b1.map Expr.encR))]:List (Nat×Blk))) [7] [0,1,2,6] Q (fun z2 hm=>?_) (fun b1 hm=>?_)
 ·refine RS (SA TK Q (SA TK Q (TN (WN [0,1,2,6,7,9] Q Q ?_))))
  refine TC _ Q (fun h3=>?_) (fun h3=>?_)
  ·replace hm:=JT h3 hm
   refine TG ?_
   iterate 4 (refine SA TK Q ?_)
   obtain⟨g4,hm⟩:=GI hm
   refine SX Q Q (aV Q Q Q Q g4) ?_
   obtain⟨r5,hr5,hm⟩:=BI hm
   refine SX Q Q (aG [0,1] ⟨Q,Q,fun _=>Q⟩ Q Q Q (by decide) Q (aF Q) Q Q (fW hr5)) ?_
   refine SX Q Q (bF (f:=Expr.encR) (xs:=([r5]:List Expr)) [.tmp 15] TK Q Q aH Q (bB Q (aE (Expr.encR_eq _) aL)) Q (aI Expr.encR_cells) Q) ?_
   obtain⟨g6,hm⟩:=GI hm
   refine cT (f:=Expr.encR) ([r5]:List Expr) TK Q Q aH Q Q Q Q Q (fun h=>absurd (show 3 < 2 from h) (by decide)) Q cR g6 Q Q ?_
   refine SA TK Q (TN (WT ?_))
   exact⟨_,[0,1,2,3],(SJ hm),Q,(kB Q),Q⟩
  ·replace hm:=JF h3 hm
   refine TS (WT ?_)
   exact⟨_,[0,1,2,3],(SJ hm),Q,(kB Q),Q⟩
 ·refine WN [0,1,2,6,7] Q Q ?_
  refine aK hm (fun b7=>([(7,.msl 3 3 0 b7.length)]:Fr)) (fun b7=>([(3,.flat 38 3 (b7.map Expr.encR))]:List (Nat×Blk))) [7] [6] Q (fun z8 hm=>?_) (fun b7 hm=>?_)
  ·refine RS (SA TK Q (SA TK Q (SA TK Q ?_)))
   obtain⟨r9,hr9,hm⟩:=BI hm
   refine SX Q Q (aG [0,1] ⟨Q,Q,fun _=>Q⟩ Q Q Q (by decide) Q (aF Q) Q Q (fN hr9)) ?_
   refine SA TK Q (TN (WN [0,1,2,6,7,22] Q Q ?_))
   refine TC _ Q (fun h10=>?_) (fun h10=>?_)
   ·replace hm:=JT h10 hm
    refine TG ?_
    iterate 4 (refine SA TK Q ?_)
    obtain⟨r11,hr11,hm⟩:=BI hm
    refine SX Q Q (aG [0,1] ⟨Q,Q,fun _=>Q⟩ Q Q Q (by decide) Q (aF Q) Q Q (fW hr11)) ?_
    obtain⟨r12,hr12,hm⟩:=BI hm
    refine SX Q Q (RD Q Q Q (dL hr12)) (SX Q Q (bF (f:=Expr.encR) (xs:=([r12]:List Expr)) [.tmp 28] TK Q Q aH Q (bB Q (aE (Expr.encR_eq _) aL)) Q (aI Expr.encR_cells) Q) ?_)
    obtain⟨g13,hm⟩:=GI hm
    refine cT (f:=Expr.encR) ([r12]:List Expr) TK Q Q aH Q Q Q Q Q (fun h=>absurd (show 3 < 2 from h) (by decide)) Q cR g13 Q Q ?_
    refine SA TK Q (TN (WT ?_))
    exact⟨_,[0,1,2,3],(SJ hm),Q,(kB Q),Q⟩
   ·replace hm:=JF h10 hm
    refine TS (WT ?_)
    exact⟨_,[0,1,2,3],(SJ hm),Q,(kB Q),Q⟩
  ·refine WN [6,7] Q Q ?_
   refine lC 7 3 [6] Q Q Q Q Q (by simp) Q Q ?_
   refine RS (SA TK Q ?_)
   obtain⟨r14,hr14,hm⟩:=BI hm
   refine SX Q Q (RD Q Q Q (dC hr14)) (SA TK Q (TN (WN [6] Q Q (TR ?_))))
   obtain rfl:=OJ hm
   exact⟨_,[0,1],.mk _ (.cons (.agg (TK.lay Q) Q Q Q Q) .nil) Q,by decide,(kB Q),Q,Q⟩

theorem gE {p0:Compiler} {p1:Int} {p2:Int} {r:Expr} (hm:dM p0 p1 p2=some r):Ret Tryz.prog 105 [.box 94 [.d (.sl 14 (p0.t.routes.map Route.enc)),.d (.sl 1 (p0.t.points.map (D.int .i64))),.d (.sl 1 (p0.t.homes.map (D.int .i64))),.d (.int .i64 p0.t.sections),.d (.int .i64 p0.t.signals),.d (.int .i64 p0.p.points),.d (.int .i64 p0.p.routes),.d (.int .i64 p0.p.lies),.d (.int .i64 p0.p.aux),.d (.int .i64 p0.p.all),.d (.sl 1 (p0.p.states.map (D.int .i64))),.msl 1 6 0 p0.rungs.length],.flat 40 6 (p0.rungs.map Rung.enc)] (fun _=>false) [.mptr 0 0 0 0,.d (.int .i64 p1),.d (.int .i64 p2)] (.d (r.enc)) [.box 94 [.d (.sl 14 (p0.t.routes.map Route.enc)),.d (.sl 1 (p0.t.points.map (D.int .i64))),.d (.sl 1 (p0.t.homes.map (D.int .i64))),.d (.int .i64 p0.t.sections),.d (.int .i64 p0.t.signals),.d (.int .i64 p0.p.points),.d (.int .i64 p0.p.routes),.d (.int .i64 p0.p.lies),.d (.int .i64 p0.p.aux),.d (.int .i64 p0.p.all),.d (.sl 1 (p0.p.states.map (D.int .i64))),.msl 1 6 0 p0.rungs.length],.flat 40 6 (p0.rungs.map Rung.enc)]:=by
 refine cC qVG Tryz.func105 Q Tryz.ntmps105 Q Q (fun wX gX=>?_)
 unfold dM at hm
 refine WN [0,1,2] Q Q (RS (dA 2 Q Q aH Q (cO 2 [none,none,some 3] Q Q (TN (WN [0,1,2,6] Q Q (cE follows  ?_))))))
 iterate 6 (refine DA [0,1,2] TK Q ?_)
 obtain⟨e1,he1,hm⟩:=GV hm
 refine DX [0,1,2] Q Q (bZ TK Q Q Q Q he1) (DA [0,1,2] TK Q ?_)
 obtain⟨g2,hm⟩:=GI hm
 refine DX [0,1,2] Q Q (aV Q Q Q Q g2) ?_
 iterate 2 (refine DA [0,1,2] TK Q ?_)
 obtain⟨r3,hr3,hm⟩:=BI hm
 refine DX [0,1,2] Q Q (aG [0,1] ⟨Q,Q,fun _=>Q⟩ Q Q Q (by decide) Q (aF Q) Q Q (fN hr3)) ?_
 obtain⟨g4,hm⟩:=GI hm
 refine DX [0,1,2] Q Q (aV Q Q Q Q g4) (DA [0,1,2] TK Q ?_)
 obtain⟨g5,hm⟩:=GI hm
 refine DX [0,1,2] Q Q (aV Q Q Q Q g5) ?_
 obtain⟨r6,hr6,hm⟩:=BI hm
 refine DX [0,1,2] Q Q (RD Q Q Q (eD hr6)) ?_
 refine DT ?_ (by kernel_rfl)
 refine SA TK Q (TN (WN [6] Q Q (TR ?_)))
 obtain rfl:=OJ hm
 exact⟨_,[0,1],.mk _ (.cons (.agg (TK.lay Q) Q Q Q Q) .nil) Q,by decide,(kB Q),Q,Q⟩

theorem rR {p0:Compiler} {p1:Int} {r:Compiler} (hm:gP p0 p1=some r):Ret Tryz.prog 44 [.box 94 [.d (.sl 14 (p0.t.routes.map Route.enc)),.d (.sl 1 (p0.t.points.map (D.int .i64))),.d (.sl 1 (p0.t.homes.map (D.int .i64))),.d (.int .i64 p0.t.sections),.d (.int .i64 p0.t.signals),.d (.int .i64 p0.p.points),.d (.int .i64 p0.p.routes),.d (.int .i64 p0.p.lies),.d (.int .i64 p0.p.aux),.d (.int .i64 p0.p.all),.d (.sl 1 (p0.p.states.map (D.int .i64))),.msl 1 6 0 p0.rungs.length],.flat 40 6 (p0.rungs.map Rung.enc)] (fun j=>Nat.beq j 1) [.mptr 0 0 0 0,.d (.int .i64 p1)] (.tup []) [.box 94 [.d (.sl 14 (p0.t.routes.map Route.enc)),.d (.sl 1 (p0.t.points.map (D.int .i64))),.d (.sl 1 (p0.t.homes.map (D.int .i64))),.d (.int .i64 p0.t.sections),.d (.int .i64 p0.t.signals),.d (.int .i64 p0.p.points),.d (.int .i64 p0.p.routes),.d (.int .i64 p0.p.lies),.d (.int .i64 p0.p.aux),.d (.int .i64 p0.p.all),.d (.sl 1 (p0.p.states.map (D.int .i64))),.msl 1 6 0 r.rungs.length],.flat 40 6 (r.rungs.map Rung.enc)]:=by
 refine cC qZS Tryz.func44 Q Tryz.ntmps44 Q Q (fun wX gX=>?_)
 unfold gP at hm
 refine WN [0,1] Q Q (RS (SA TK Q (SA TK Q ?_)))
 obtain⟨r1,hr1,hm⟩:=BI hm
 refine SX Q Q (aG [0,1] ⟨Q,Q,fun _=>Q⟩ Q Q Q (by decide) Q (aF Q) Q Q (fN hr1)) ?_
 refine SA TK Q (TN (WN [0,1,4] Q Q (RS ?_)))
 iterate 7 (refine SA TK Q ?_)
 obtain⟨e2,he2,hm⟩:=GV hm
 refine SX Q Q (bZ TK Q Q Q Q he2) (SA TK Q (SA TK Q (SA TK Q ?_)))
 obtain⟨e3,he3,hm⟩:=GV hm
 refine SX Q Q (bZ TK Q Q Q Q he3) (SA TK Q ?_)
 obtain⟨r4,hr4,hm⟩:=BI hm
 refine SX Q Q (aG [0,1] ⟨Q,Q,fun _=>Q⟩ Q Q Q (by decide) Q (aF Q) Q Q (cP hr4)) ?_
 refine dA 2 Q Q aH Q (cO 2 [none,none,some 3] Q Q (SA TK Q (TN (WN [0,1,4,5] Q Q (RS (SA TK Q (SA TK Q ?_)))))))
 obtain⟨r5,hr5,hm⟩:=BI hm
 refine SX Q Q (aG [0,1] ⟨Q,Q,fun _=>Q⟩ Q Q Q (by decide) Q (aF Q) Q Q (bD hr5)) ?_
 refine SA TK Q (SA TK Q ?_)
 obtain⟨r6,hr6,hm⟩:=BI hm
 refine SX Q Q (aG [0,1] ⟨Q,Q,fun _=>Q⟩ Q Q Q (by decide) Q (aF Q) Q Q (eI hr6)) ?_
 refine SA TK Q (SA TK Q ?_)
 obtain⟨r7,hr7,hm⟩:=BI hm
 refine SX Q Q (aG [0,1] ⟨Q,Q,fun _=>Q⟩ Q Q Q (by decide) Q (aF Q) Q Q (lR hr7)) ?_
 refine SX Q Q (bF (f:=Expr.encR) (xs:=([r5,r6,r7]:List Expr)) [.tmp 27,.tmp 30,.tmp 33] TK Q Q aH Q (bB Q (aE (Expr.encR_eq _) (aE (Expr.encR_eq _) (aE (Expr.encR_eq _) aL)))) Q (aI Expr.encR_cells) Q) ?_
 obtain⟨r8,hr8,hm⟩:=BI hm
 refine SX Q Q (RD Q Q Q (dC hr8)) (dA 3 Q Q aH Q (cO 3 [none,none,some 3] Q Q (SA TK Q (TN (WN [0,1,4,5,6] Q Q (gC (cE follows  ?_)))))))
 iterate 2 (refine DA [] TK Q ?_)
 obtain⟨r9,hr9,hm⟩:=BI hm
 refine DX [0,1] Q Q (aG [0,1] ⟨Q,Q,fun _=>Q⟩ Q Q Q (by decide) Q (aF Q) Q Q (bD hr9)) ?_
 iterate 3 (refine DA [] TK Q ?_)
 obtain⟨r10,hr10,hm⟩:=BI hm
 refine DX [0,1] Q Q (aG [0,1] ⟨Q,Q,fun _=>Q⟩ Q Q Q (by decide) Q (aF Q) Q Q (jS hr10)) ?_
 iterate 2 (refine DA [] TK Q ?_)
 obtain⟨r11,hr11,hm⟩:=BI hm
 refine DX [0,1] Q Q (aG [0,1] ⟨Q,Q,fun _=>Q⟩ Q Q Q (by decide) Q (aF Q) Q Q (eI hr11)) ?_
 refine DA [2] TK Q ?_
 obtain⟨r12,hr12,hm⟩:=BI hm
 refine DX [] Q Q (RD Q Q Q (dL hr12)) (DX [] Q Q (bF (f:=Expr.encR) (xs:=([r9,r10,r11,r12]:List Expr)) [.tmp 38,.tmp 42,.tmp 45,.tmp 47] TK Q Q aH Q (bB Q (aE (Expr.encR_eq _) (aE (Expr.encR_eq _) (aE (Expr.encR_eq _) (aE (Expr.encR_eq _) aL))))) Q (aI Expr.encR_cells) Q) ?_)
 obtain⟨r13,hr13,hm⟩:=BI hm
 refine DX [] Q Q (RD Q Q Q (dC hr13)) (tB [4] _ (.mptr 4 0 0 0) Q (jZ Q) Q (kM Q Q aH Q Q) ?_)
 refine DT ?_ (by kernel_rfl)
 refine SA TK Q (TN (WN [0,1,6,7] Q Q (cE follows  ?_)))
 iterate 7 (refine DA [0,1,2,3,4] TK Q ?_)
 obtain⟨r14,hr14,hm⟩:=BI hm
 refine DX [0,1,2,3,4] Q Q (aG [0,1] ⟨Q,Q,fun _=>Q⟩ Q Q Q (by decide) Q (aF Q) Q Q (gE hr14)) ?_
 iterate 2 (refine DA [0,1,2,3,4] TK Q ?_)
 refine DX [0,1,2,3,4] Q Q (dJ Q qCW fV Q Q Q Q) (DX [0,1,2,3,4] Q Q (dW [.tmp 60] TK Q Q fV Q Q Q Q Q) ?_)
 refine vQ 0 50 ?_ ?_ Q (by kernel_rfl) (by kernel_rfl) (by kernel_rfl)
 ·obtain⟨g15,hm⟩:=GI hm
  refine cT (f:=Rung.enc) ([(⟨(2:Int),r14.var,(12:Int),r8⟩:Rung)]:List Rung) TK Q Q fV Q Q Q Q Q (fun _=>Q) Q cR g15 Q Q (SA TK Q (SA TK Q (SA TK Q (TN (WN [0,1,7] Q Q (cN follows  ?_))))))
  iterate 7 (refine DA [0,1,2,3,4] TK Q ?_)
  obtain⟨r16,hr16,hm⟩:=BI hm
  refine DX [0,1,2,3,4] Q Q (aG [0,1] ⟨Q,Q,fun _=>Q⟩ Q Q Q (by decide) Q (aF Q) Q Q (gE hr16)) ?_
  iterate 2 (refine DA [0,1,2,3,4] TK Q ?_)
  refine DX [0,1,2,3,4] Q Q (dJ Q qCW fV Q Q Q Q) (DX [0,1,2,3,4] Q Q (dW [.tmp 75] TK Q Q fV Q Q Q Q Q) ?_)
  refine vQ 0 65 ?_ ?_ Q (by kernel_rfl) (by kernel_rfl) (by kernel_rfl)
  ·obtain⟨g17,hm⟩:=GI hm
   refine cT (f:=Rung.enc) ([(⟨(2:Int),r16.var,(4:Int),r13⟩:Rung)]:List Rung) TK Q Q fV Q Q Q Q Q (fun _=>Q) Q cR g17 Q Q (SA TK Q (SA TK Q (SA TK Q (TN ?_))))
   obtain rfl:=OJ hm
   exact⟨_,[0,1],res Q,by decide,(kB Q),Q,Q⟩
  ·obtain⟨g18,hm⟩:=GI hm
   refine cT (f:=Rung.enc) ([(⟨(2:Int),r16.var,(4:Int),r13⟩:Rung)]:List Rung) TK Q Q fV Q Q Q Q Q (fun _=>Q) Q cR g18 Q Q ?_
   iterate 4 (refine SA TK Q ?_)
   refine TN ?_
   obtain rfl:=OJ hm
   exact⟨_,[0,1],res Q,by decide,(kB Q),Q,Q⟩
 ·obtain⟨g19,hm⟩:=GI hm
  refine cT (f:=Rung.enc) ([(⟨(2:Int),r14.var,(12:Int),r8⟩:Rung)]:List Rung) TK Q Q fV Q Q Q Q Q (fun _=>Q) Q cR g19 Q Q ?_
  iterate 4 (refine SA TK Q ?_)
  refine TN (WN [0,1,7] Q Q (cN follows  ?_))
  iterate 7 (refine DA [0,1,2,3,4] TK Q ?_)
  obtain⟨r20,hr20,hm⟩:=BI hm
  refine DX [0,1,2,3,4] Q Q (aG [0,1] ⟨Q,Q,fun _=>Q⟩ Q Q Q (by decide) Q (aF Q) Q Q (gE hr20)) ?_
  iterate 2 (refine DA [0,1,2,3,4] TK Q ?_)
  refine DX [0,1,2,3,4] Q Q (dJ Q qCW fV Q Q Q Q) (DX [0,1,2,3,4] Q Q (dW [.tmp 75] TK Q Q fV Q Q Q Q Q) ?_)
  refine vQ 0 65 ?_ ?_ Q (by kernel_rfl) (by kernel_rfl) (by kernel_rfl)
  ·obtain⟨g21,hm⟩:=GI hm
   refine cT (f:=Rung.enc) ([(⟨(2:Int),r20.var,(4:Int),r13⟩:Rung)]:List Rung) TK Q Q fV Q Q Q Q Q (fun _=>Q) Q cR g21 Q Q (SA TK Q (SA TK Q (SA TK Q (TN ?_))))
   obtain rfl:=OJ hm
   exact⟨_,[0,1],res Q,by decide,(kB Q),Q,Q⟩
  ·obtain⟨g22,hm⟩:=GI hm
   refine cT (f:=Rung.enc) ([(⟨(2:Int),r20.var,(4:Int),r13⟩:Rung)]:List Rung) TK Q Q fV Q Q Q Q Q (fun _=>Q) Q cR g22 Q Q ?_
   iterate 4 (refine SA TK Q ?_)
   refine TN ?_
   obtain rfl:=OJ hm
   exact⟨_,[0,1],res Q,by decide,(kB Q),Q,Q⟩

theorem bM {p0:Compiler} {p1:Int} {p2:Int} {r:Expr} (hm:aX p0 p1 p2=some r):Ret Tryz.prog 50 [.box 94 [.d (.sl 14 (p0.t.routes.map Route.enc)),.d (.sl 1 (p0.t.points.map (D.int .i64))),.d (.sl 1 (p0.t.homes.map (D.int .i64))),.d (.int .i64 p0.t.sections),.d (.int .i64 p0.t.signals),.d (.int .i64 p0.p.points),.d (.int .i64 p0.p.routes),.d (.int .i64 p0.p.lies),.d (.int .i64 p0.p.aux),.d (.int .i64 p0.p.all),.d (.sl 1 (p0.p.states.map (D.int .i64))),.msl 1 6 0 p0.rungs.length],.flat 40 6 (p0.rungs.map Rung.enc)] (fun _=>false) [.mptr 0 0 0 0,.d (.int .i64 p1),.d (.int .i64 p2)] (.d (r.enc)) [.box 94 [.d (.sl 14 (p0.t.routes.map Route.enc)),.d (.sl 1 (p0.t.points.map (D.int .i64))),.d (.sl 1 (p0.t.homes.map (D.int .i64))),.d (.int .i64 p0.t.sections),.d (.int .i64 p0.t.signals),.d (.int .i64 p0.p.points),.d (.int .i64 p0.p.routes),.d (.int .i64 p0.p.lies),.d (.int .i64 p0.p.aux),.d (.int .i64 p0.p.all),.d (.sl 1 (p0.p.states.map (D.int .i64))),.msl 1 6 0 p0.rungs.length],.flat 40 6 (p0.rungs.map Rung.enc)]:=by
 refine cC qZM Tryz.func50 Q Tryz.ntmps50 Q Q (fun wX gX=>?_)
 unfold aX at hm
 refine WN [0,1,2] Q Q (RS (dA 2 Q Q aH Q (cO 2 [none,none,some 3] Q Q (TN (WN [0,1,2,6] Q Q (RS ?_))))))
 iterate 6 (refine SA TK Q ?_)
 obtain⟨g1,hm⟩:=GI hm
 refine SX Q Q (aV Q Q Q Q g1) ?_
 obtain⟨g2,hm⟩:=GI hm
 refine SX Q Q (aV Q Q Q Q g2) (SA TK Q ?_)
 obtain⟨g3,hm⟩:=GI hm
 refine SX Q Q (aV Q Q Q Q g3) ?_
 obtain⟨r4,hr4,hm⟩:=BI hm
 refine SX Q Q (RD Q Q Q (eD hr4)) (SA TK Q (TN (WN [6] Q Q (TR ?_))))
 obtain rfl:=OJ hm
 exact⟨_,[0,1],.mk _ (.cons (.agg (TK.lay Q) Q Q Q Q) .nil) Q,by decide,(kB Q),Q,Q⟩

theorem jT {p0:Compiler} {p1:Int} {r:Expr} (hm:eS p0 p1=some r):Ret Tryz.prog 106 [.box 94 [.d (.sl 14 (p0.t.routes.map Route.enc)),.d (.sl 1 (p0.t.points.map (D.int .i64))),.d (.sl 1 (p0.t.homes.map (D.int .i64))),.d (.int .i64 p0.t.sections),.d (.int .i64 p0.t.signals),.d (.int .i64 p0.p.points),.d (.int .i64 p0.p.routes),.d (.int .i64 p0.p.lies),.d (.int .i64 p0.p.aux),.d (.int .i64 p0.p.all),.d (.sl 1 (p0.p.states.map (D.int .i64))),.msl 1 6 0 p0.rungs.length],.flat 40 6 (p0.rungs.map Rung.enc)] (fun _=>false) [.mptr 0 0 0 0,.d (.int .i64 p1)] (.d (r.enc)) [.box 94 [.d (.sl 14 (p0.t.routes.map Route.enc)),.d (.sl 1 (p0.t.points.map (D.int .i64))),.d (.sl 1 (p0.t.homes.map (D.int .i64))),.d (.int .i64 p0.t.sections),.d (.int .i64 p0.t.signals),.d (.int .i64 p0.p.points),.d (.int .i64 p0.p.routes),.d (.int .i64 p0.p.lies),.d (.int .i64 p0.p.aux),.d (.int .i64 p0.p.all),.d (.sl 1 (p0.p.states.map (D.int .i64))),.msl 1 6 0 p0.rungs.length],.flat 40 6 (p0.rungs.map Rung.enc)]:=by
 refine cC qVF Tryz.func106 Q Tryz.ntmps106 Q Q (fun wX gX=>?_)
 unfold eS at hm
 refine WN [0,1] Q Q (RS (dA 2 Q Q aH Q (cO 2 [none,none,some 3] Q Q (TN (WN [0,1,4] Q Q (RS ?_))))))
 iterate 6 (refine SA TK Q ?_)
 obtain⟨e1,he1,hm⟩:=GV hm
 refine SX Q Q (bZ TK Q Q Q Q he1) (SA TK Q (dA 3 Q Q iH Q (cO 3 [none,none,none,some 3,some 2,some 1,none,none,some 3,some 2,some 1,some 2,some 1,some 2] Q Q (SA TK Q (TN (WN [0,4,5] Q Q (RS (jD (f:=Expr.encR) 4 38 3 Q Q Q ?_))))))))
 refine TN (WN [0,4,5,6] Q Q ?_)
 refine aK hm (fun b2=>([(6,.msl 4 3 0 b2.length)]:Fr)) (fun b2=>([(4,.flat 38 3 (b2.map Expr.encR))]:List (Nat×Blk))) [6] [0,4,5] Q (fun z3 hm=>?_) (fun b2 hm=>?_)
 ·refine RS (SA TK Q (TN (WN [0, 4, 5, 6, 7] Q Q (TB (aZ hm (fun (i7, b8) => ([(6, .msl 4 3 0 b8.length), (7, .d (.int .i64 i7))] : Fr)) (fun (i7, b8) => ([(4, .flat 38 3 (b8.map Expr.encR))] : List (Nat × Blk))) [6, 7] [0, 4, 5] [0, 1, 2, 3, 4] Q (kB Q) Q Q Q Q Q (fun s z9 hm hz9 => ?_))))))
  obtain⟨i7,b8⟩:=s
  refine WN [0,4,5,6,7] Q Q (TQ (RS (SA TK Q (SA TK Q (SA TK Q (SX Q Q (aT TK Q Q Q) (SA TK Q (TN (WN [0,4,5,6,7,23] Q Q ?_)))))))))
  refine TC _ Q (fun h10=>?_) (fun h10=>?_)
  ·replace hm:=JT h10 hm
   refine TS (WT (WN [0,4,5,6,7] Q Q (TQ (TB (TG ?_)))))
   iterate 5 (refine SA TK Q ?_)
   obtain⟨e11,he11,hm⟩:=GV hm
   refine SX Q Q (bZ TK Q Q Q Q he11) (SA TK Q ?_)
   obtain⟨r12,hr12,hm⟩:=BI hm
   refine SX Q Q (aG [0,1] ⟨Q,Q,fun _=>Q⟩ Q Q Q (by decide) Q (aF Q) Q Q (cP hr12)) ?_
   refine SX Q Q (bF (f:=Expr.encR) (xs:=([r12]:List Expr)) [.tmp 33] TK Q Q aH Q (bB Q (aE (Expr.encR_eq _) aL)) Q (aI Expr.encR_cells) Q) ?_
   obtain⟨g13,hm⟩:=GI hm
   refine cT (f:=Expr.encR) ([r12]:List Expr) TK Q Q aH Q Q Q Q Q (fun h=>absurd (show 4 < 2 from h) (by decide)) Q cR g13 Q Q ?_
   refine SA TK Q (TN (WK (WT (WN [0,4,5,6,7] Q Q (TG (SA TK Q ?_))))))
   obtain⟨g14,hm⟩:=GI hm
   refine SX Q Q (aV Q Q Q Q g14) (SA TK Q (TN (WT ?_)))
   exact⟨_,[0,1,2,3,4],(SJ hm),Q,(kB Q),Q⟩
  ·replace hm:=JF h10 hm
   refine aJ (WX ?_)
   obtain⟨v15,hm,hz⟩:=II hm
   rw [hz9 _ hz] at hm
   refine WX (WH (WT ?_))
   exact⟨_,[0,1,2,3,4],(SJ hm),Q,(kB Q),Q⟩
 ·refine WN [0,4,5,6] Q Q ?_
  refine aK hm (fun b16=>([(6,.msl 4 3 0 b16.length)]:Fr)) (fun b16=>([(4,.flat 38 3 (b16.map Expr.encR))]:List (Nat×Blk))) [6] [0,4,5] Q (fun z17 hm=>?_) (fun b16 hm=>?_)
  ·refine RS (SA TK Q (TN (WN [0, 4, 5, 6, 8] Q Q (TB (aZ hm (fun (i21, b22) => ([(6, .msl 4 3 0 b22.length), (8, .d (.int .i64 i21))] : Fr)) (fun (i21, b22) => ([(4, .flat 38 3 (b22.map Expr.encR))] : List (Nat × Blk))) [6, 8] [0, 4, 5] [0, 1, 2, 3, 4] Q (kB Q) Q Q Q Q Q (fun s z23 hm hz23 => ?_))))))
   obtain⟨i21,b22⟩:=s
   refine WN [0,4,5,6,8] Q Q (TQ (RS (SA TK Q (SA TK Q (SA TK Q (SX Q Q (aT TK Q Q Q) (SA TK Q (TN (WN [0,4,5,6,8,40] Q Q ?_)))))))))
   refine TC _ Q (fun h24=>?_) (fun h24=>?_)
   ·replace hm:=JT h24 hm
    refine TS (WT (WN [0,4,5,6,8] Q Q (TQ (TB (TG ?_)))))
    iterate 5 (refine SA TK Q ?_)
    obtain⟨e25,he25,hm⟩:=GV hm
    refine SX Q Q (bZ TK Q Q Q Q he25) (SA TK Q ?_)
    obtain⟨r26,hr26,hm⟩:=BI hm
    refine SX Q Q (aG [0,1] ⟨Q,Q,fun _=>Q⟩ Q Q Q (by decide) Q (aF Q) Q Q (cP hr26)) ?_
    refine SX Q Q (bF (f:=Expr.encR) (xs:=([r26]:List Expr)) [.tmp 50] TK Q Q aH Q (bB Q (aE (Expr.encR_eq _) aL)) Q (aI Expr.encR_cells) Q) ?_
    obtain⟨g27,hm⟩:=GI hm
    refine cT (f:=Expr.encR) ([r26]:List Expr) TK Q Q aH Q Q Q Q Q (fun h=>absurd (show 4 < 2 from h) (by decide)) Q cR g27 Q Q ?_
    refine SA TK Q (TN (WK (WT (WN [0,4,5,6,8] Q Q (TG (SA TK Q ?_))))))
    obtain⟨g28,hm⟩:=GI hm
    refine SX Q Q (aV Q Q Q Q g28) (SA TK Q (TN (WT ?_)))
    exact⟨_,[0,1,2,3,4],(SJ hm),Q,(kB Q),Q⟩
   ·replace hm:=JF h24 hm
    refine aJ (WX ?_)
    obtain⟨v29,hm,hz⟩:=II hm
    rw [hz23 _ hz] at hm
    refine WX (WH (WT ?_))
    exact⟨_,[0,1,2,3,4],(SJ hm),Q,(kB Q),Q⟩
  ·refine WN [0,4,5,6] Q Q (RS (SA TK Q ?_))
   obtain⟨r30,hr30,hm⟩:=BI hm
   refine SX Q Q (RD Q Q Q (jU hr30)) (SA TK Q (TN (WN [0,4,6,9] Q Q ?_)))
   refine aK hm (fun b31=>([(6,.msl 4 3 0 b31.length)]:Fr)) (fun b31=>([(4,.flat 38 3 (b31.map Expr.encR))]:List (Nat×Blk))) [6] [4] Q (fun z32 hm=>?_) (fun b31 hm=>?_)
   ·refine RS (SA TK Q (TN (WN [0, 4, 6, 9, 10] Q Q (TB (aZ hm (fun (i36, b37) => ([(6, .msl 4 3 0 b37.length), (10, .d (.int .i64 i36))] : Fr)) (fun (i36, b37) => ([(4, .flat 38 3 (b37.map Expr.encR))] : List (Nat × Blk))) [6, 10] [0, 4, 9] [0, 1, 2, 3, 4] Q (kB Q) Q Q Q Q Q (fun s z38 hm hz38 => ?_))))))
    obtain⟨i36,b37⟩:=s
    refine WN [0,4,6,9,10] Q Q (TQ (RS (SA TK Q (SA TK Q (SX Q Q (aT TK Q Q Q) (SA TK Q (TN (WN [0,4,6,9,10,58] Q Q ?_))))))))
    refine TC _ Q (fun h39=>?_) (fun h39=>?_)
    ·replace hm:=JT h39 hm
     refine TS (WT (WN [0,4,6,9,10] Q Q (TQ (TB (cN follows  ?_)))))
     iterate 12 (refine DA [0,1,2,3,4] TK Q ?_)
     obtain⟨e40,he40,hm⟩:=GV hm
     refine DX [0,1,2,3,4] Q Q (bZ TK Q Q Q Q he40) ?_
     iterate 2 (refine DA [0,1,2,3,4] TK Q ?_)
     obtain⟨r41,hr41,hm⟩:=BI hm
     refine DX [0,1,2,3,4] Q Q (RN Q Q (SC (.d _) (SC (.d _) SN)) (nY hr41)) ?_
     obtain⟨g42,hm⟩:=GI hm
     refine DX [0,1,2,3,4] Q Q (aV Q Q Q Q g42) ?_
     obtain⟨g43,hm⟩:=GI hm
     refine DX [0,1,2,3,4] Q Q (aV Q Q Q Q g43) ?_
     iterate 2 (refine DA [0,1,2,3,4] TK Q ?_)
     obtain⟨e44,he44,hm⟩:=GV hm
     refine DX [0,1,2,3,4] Q Q (bZ TK Q Q Q Q he44) ?_
     iterate 2 (refine DA [0,1,2,3,4] TK Q ?_)
     obtain⟨g45,hm⟩:=GI hm
     refine DX [0,1,2,3,4] Q Q (aV Q Q Q Q g45) ?_
     obtain⟨g46,hm⟩:=GI hm
     refine DX [0,1,2,3,4] Q Q (aV Q Q Q Q g46) ?_
     obtain⟨r47,hr47,hm⟩:=BI hm
     refine DX [0,1,2,3,4] Q Q (RD Q Q Q (eD hr47)) (DX [0,1,2,3,4] Q Q (bF (f:=Expr.encR) (xs:=([r47]:List Expr)) [.tmp 86] TK Q Q aH Q (bB Q (aE (Expr.encR_eq _) aL)) Q (aI Expr.encR_cells) Q) ?_)
     refine DT ?_ (by kernel_rfl)
     obtain⟨g48,hm⟩:=GI hm
     refine cT (f:=Expr.encR) ([r47]:List Expr) TK Q Q aH Q Q Q Q Q (fun h=>absurd (show 4 < 2 from h) (by decide)) Q cR g48 Q Q ?_
     refine SA TK Q (TN (WK (WT (WN [0,4,6,9,10] Q Q (TG (SA TK Q ?_))))))
     obtain⟨g49,hm⟩:=GI hm
     refine SX Q Q (aV Q Q Q Q g49) (SA TK Q (TN (WT ?_)))
     exact⟨_,[0,1,2,3,4],(SJ hm),Q,(kB Q),Q⟩
    ·replace hm:=JF h39 hm
     refine aJ (WX ?_)
     obtain⟨v50,hm,hz⟩:=II hm
     rw [hz38 _ hz] at hm
     refine WX (WH (WT ?_))
     exact⟨_,[0,1,2,3,4],(SJ hm),Q,(kB Q),Q⟩
   ·refine WN [4,6] Q Q ?_
    refine lC 6 4 [4] Q Q Q Q Q (by simp) Q Q ?_
    refine RS (SA TK Q ?_)
    obtain⟨r51,hr51,hm⟩:=BI hm
    refine SX Q Q (RD Q Q Q (dC hr51)) (SA TK Q (TN (WN [4] Q Q (TR ?_))))
    obtain rfl:=OJ hm
    exact⟨_,[0,1],.mk _ (.cons (.agg (TK.lay Q) Q Q Q Q) .nil) Q,by decide,(kB Q),Q,Q⟩

theorem dD {p0:Compiler} {p1:Expr} {p2:Expr} {r:Compiler} (hm:cL p0 p1 p2=some r):Ret Tryz.prog 47 [.box 94 [.d (.sl 14 (p0.t.routes.map Route.enc)),.d (.sl 1 (p0.t.points.map (D.int .i64))),.d (.sl 1 (p0.t.homes.map (D.int .i64))),.d (.int .i64 p0.t.sections),.d (.int .i64 p0.t.signals),.d (.int .i64 p0.p.points),.d (.int .i64 p0.p.routes),.d (.int .i64 p0.p.lies),.d (.int .i64 p0.p.aux),.d (.int .i64 p0.p.all),.d (.sl 1 (p0.p.states.map (D.int .i64))),.msl 1 6 0 p0.rungs.length],.flat 40 6 (p0.rungs.map Rung.enc)] (fun j=>Nat.beq j 1) [.mptr 0 0 0 0,.d (p1.enc),.d (p2.enc)] (.tup []) [.box 94 [.d (.sl 14 (p0.t.routes.map Route.enc)),.d (.sl 1 (p0.t.points.map (D.int .i64))),.d (.sl 1 (p0.t.homes.map (D.int .i64))),.d (.int .i64 p0.t.sections),.d (.int .i64 p0.t.signals),.d (.int .i64 p0.p.points),.d (.int .i64 p0.p.routes),.d (.int .i64 p0.p.lies),.d (.int .i64 p0.p.aux),.d (.int .i64 p0.p.all),.d (.sl 1 (p0.p.states.map (D.int .i64))),.msl 1 6 0 r.rungs.length],.flat 40 6 (r.rungs.map Rung.enc)]:=by
 refine cC qZP Tryz.func47 Q Tryz.ntmps47 Q Q (fun wX gX=>?_)
 unfold cL at hm
 refine WN [0,1,2] Q Q (RS (eR 2 Q Q Q (eR 3 Q Q Q (TN (WN [0,4,5] Q Q (cN follows  ?_))))))
 iterate 8 (refine DA [0,1,2,3] TK Q ?_)
 refine DX [0,1,2,3] Q Q (dJ Q qCW fV Q Q Q Q) (DX [0,1,2,3] Q Q (dW [.tmp 14] TK Q Q fV Q Q Q Q Q) ?_)
 refine vQ 0 6 ?_ ?_ Q (by kernel_rfl) (by kernel_rfl) (by kernel_rfl)
 ·obtain⟨g1,hm⟩:=GI hm
  refine cT (f:=Rung.enc) ([(⟨(1:Int),p1.var,(0:Int),p2⟩:Rung)]:List Rung) TK Q Q fV Q Q Q Q Q (fun _=>Q) Q cR g1 Q Q (SA TK Q (SA TK Q (SA TK Q (TN ?_))))
  obtain rfl:=OJ hm
  exact⟨_,[0,1],res Q,by decide,(kB Q),Q,Q⟩
 ·obtain⟨g2,hm⟩:=GI hm
  refine cT (f:=Rung.enc) ([(⟨(1:Int),p1.var,(0:Int),p2⟩:Rung)]:List Rung) TK Q Q fV Q Q Q Q Q (fun _=>Q) Q cR g2 Q Q ?_
  iterate 4 (refine SA TK Q ?_)
  refine TN ?_
  obtain rfl:=OJ hm
  exact⟨_,[0,1],res Q,by decide,(kB Q),Q,Q⟩

theorem kD {p0:Compiler} {p1:Int} {r:Expr} (hm:fA p0 p1=some r):Ret Tryz.prog 107 [.box 94 [.d (.sl 14 (p0.t.routes.map Route.enc)),.d (.sl 1 (p0.t.points.map (D.int .i64))),.d (.sl 1 (p0.t.homes.map (D.int .i64))),.d (.int .i64 p0.t.sections),.d (.int .i64 p0.t.signals),.d (.int .i64 p0.p.points),.d (.int .i64 p0.p.routes),.d (.int .i64 p0.p.lies),.d (.int .i64 p0.p.aux),.d (.int .i64 p0.p.all),.d (.sl 1 (p0.p.states.map (D.int .i64))),.msl 1 6 0 p0.rungs.length],.flat 40 6 (p0.rungs.map Rung.enc)] (fun _=>false) [.mptr 0 0 0 0,.d (.int .i64 p1)] (.d (r.enc)) [.box 94 [.d (.sl 14 (p0.t.routes.map Route.enc)),.d (.sl 1 (p0.t.points.map (D.int .i64))),.d (.sl 1 (p0.t.homes.map (D.int .i64))),.d (.int .i64 p0.t.sections),.d (.int .i64 p0.t.signals),.d (.int .i64 p0.p.points),.d (.int .i64 p0.p.routes),.d (.int .i64 p0.p.lies),.d (.int .i64 p0.p.aux),.d (.int .i64 p0.p.all),.d (.sl 1 (p0.p.states.map (D.int .i64))),.msl 1 6 0 p0.rungs.length],.flat 40 6 (p0.rungs.map Rung.enc)]:=by
 refine cC qVE Tryz.func107 Q Tryz.ntmps107 Q Q (fun wX gX=>?_)
 unfold fA at hm
 refine WN [0,1] Q Q (RS (dA 2 Q Q aH Q (cO 2 [none,none,some 3] Q Q (TN (WN [0,1,4] Q Q (RS (SA TK Q (SA TK Q ?_))))))))
 obtain⟨r1,hr1,hm⟩:=BI hm
 refine SX Q Q (aG [0,1] ⟨Q,Q,fun _=>Q⟩ Q Q Q (by decide) Q (aF Q) Q Q (eI hr1)) ?_
 refine SA TK Q (SA TK Q ?_)
 obtain⟨r2,hr2,hm⟩:=BI hm
 refine SX Q Q (aG [0,1] ⟨Q,Q,fun _=>Q⟩ Q Q Q (by decide) Q (aF Q) Q Q (lR hr2)) ?_
 refine SX Q Q (bF (f:=Expr.encR) (xs:=([r1,r2]:List Expr)) [.tmp 7,.tmp 10] TK Q Q aH Q (bB Q (aE (Expr.encR_eq _) (aE (Expr.encR_eq _) aL))) Q (aI Expr.encR_cells) Q) ?_
 obtain⟨r3,hr3,hm⟩:=BI hm
 refine SX Q Q (RD Q Q Q (dC hr3)) (SA TK Q (TN (WN [4] Q Q (TR ?_))))
 obtain rfl:=OJ hm
 exact⟨_,[0,1],.mk _ (.cons (.agg (TK.lay Q) Q Q Q Q) .nil) Q,by decide,(kB Q),Q,Q⟩

theorem nD {p0:Compiler} {p1:Int} {r:Expr} (hm:gK p0 p1=some r):Ret Tryz.prog 108 [.box 94 [.d (.sl 14 (p0.t.routes.map Route.enc)),.d (.sl 1 (p0.t.points.map (D.int .i64))),.d (.sl 1 (p0.t.homes.map (D.int .i64))),.d (.int .i64 p0.t.sections),.d (.int .i64 p0.t.signals),.d (.int .i64 p0.p.points),.d (.int .i64 p0.p.routes),.d (.int .i64 p0.p.lies),.d (.int .i64 p0.p.aux),.d (.int .i64 p0.p.all),.d (.sl 1 (p0.p.states.map (D.int .i64))),.msl 1 6 0 p0.rungs.length],.flat 40 6 (p0.rungs.map Rung.enc)] (fun _=>false) [.mptr 0 0 0 0,.d (.int .i64 p1)] (.d (r.enc)) [.box 94 [.d (.sl 14 (p0.t.routes.map Route.enc)),.d (.sl 1 (p0.t.points.map (D.int .i64))),.d (.sl 1 (p0.t.homes.map (D.int .i64))),.d (.int .i64 p0.t.sections),.d (.int .i64 p0.t.signals),.d (.int .i64 p0.p.points),.d (.int .i64 p0.p.routes),.d (.int .i64 p0.p.lies),.d (.int .i64 p0.p.aux),.d (.int .i64 p0.p.all),.d (.sl 1 (p0.p.states.map (D.int .i64))),.msl 1 6 0 p0.rungs.length],.flat 40 6 (p0.rungs.map Rung.enc)]:=by
 refine cC qVD Tryz.func108 Q Tryz.ntmps108 Q Q (fun wX gX=>?_)
 unfold gK at hm
 refine WN [0,1] Q Q (RS (dA 2 Q Q aH Q (cO 2 [none,none,some 3] Q Q (TN (WN [0,1,4] Q Q (RS (jD (f:=Expr.encR) 3 38 3 Q Q Q (TN ?_))))))))
 refine WN [0,1,4,5] Q Q ?_
 refine aK hm (fun b1=>([(5,.msl 3 3 0 b1.length)]:Fr)) (fun b1=>([(3,.flat 38 3 (b1.map Expr.encR))]:List (Nat×Blk))) [5] [4] Q (fun z2 hm=>?_) (fun b1 hm=>?_)
 ·refine RS (SA TK Q (TN (WN [0, 1, 4, 5, 6] Q Q (TB (aZ hm (fun (k6, b7) => ([(5, .msl 3 3 0 b7.length), (6, .d (.int .i64 k6))] : Fr)) (fun (k6, b7) => ([(3, .flat 38 3 (b7.map Expr.encR))] : List (Nat × Blk))) [5, 6] [0, 1, 4] [0, 1, 2, 3] Q (kB Q) Q Q Q Q Q (fun s z8 hm hz8 => ?_))))))
  obtain⟨k6,b7⟩:=s
  refine WN [0,1,4,5,6] Q Q (TQ (RS (SA TK Q (SA TK Q (SA TK Q ?_)))))
  obtain⟨r9,hr9,hm⟩:=BI hm
  refine SX Q Q (aG [0,1] ⟨Q,Q,fun _=>Q⟩ Q Q Q (by decide) Q (aF Q) Q Q (fN hr9)) ?_
  refine SA TK Q (TN (WN [0,1,4,5,6,11] Q Q ?_))
  refine TC _ Q (fun h10=>?_) (fun h10=>?_)
  ·replace hm:=JT h10 hm
   refine TS (WT (WN [0,1,4,5,6] Q Q (TQ (TB (cN follows  ?_)))))
   iterate 4 (refine DA [0,1,2,3] TK Q ?_)
   obtain⟨r11,hr11,hm⟩:=BI hm
   refine DX [0,1,2,3] Q Q (aG [0,1] ⟨Q,Q,fun _=>Q⟩ Q Q Q (by decide) Q (aF Q) Q Q (jS hr11)) ?_
   iterate 7 (refine DA [0,1,2,3] TK Q ?_)
   obtain⟨e12,he12,hm⟩:=GV hm
   refine DX [0,1,2,3] Q Q (bZ TK Q Q Q Q he12) ?_
   iterate 3 (refine DA [0,1,2,3] TK Q ?_)
   obtain⟨e13,he13,hm⟩:=GV hm
   refine DX [0,1,2,3] Q Q (bZ TK Q Q Q Q he13) (DA [0,1,2,3] TK Q ?_)
   obtain⟨r14,hr14,hm⟩:=BI hm
   refine DX [0,1,2,3] Q Q (aG [0,1] ⟨Q,Q,fun _=>Q⟩ Q Q Q (by decide) Q (aF Q) Q Q (cP hr14)) ?_
   refine DX [0,1,2,3] Q Q (bF (f:=Expr.encR) (xs:=([r11,r14]:List Expr)) [.tmp 18,.tmp 32] TK Q Q aH Q (bB Q (aE (Expr.encR_eq _) (aE (Expr.encR_eq _) aL))) Q (aI Expr.encR_cells) Q) ?_
   obtain⟨r15,hr15,hm⟩:=BI hm
   refine DX [0,1,2,3] Q Q (RD Q Q Q (dC hr15)) (DX [0,1,2,3] Q Q (bF (f:=Expr.encR) (xs:=([r15]:List Expr)) [.tmp 34] TK Q Q aH Q (bB Q (aE (Expr.encR_eq _) aL)) Q (aI Expr.encR_cells) Q) ?_)
   refine DT ?_ (by kernel_rfl)
   obtain⟨g16,hm⟩:=GI hm
   refine cT (f:=Expr.encR) ([r15]:List Expr) TK Q Q aH Q Q Q Q Q (fun h=>absurd (show 3 < 2 from h) (by decide)) Q cR g16 Q Q ?_
   refine SA TK Q (TN (WK (WT (WN [0,1,4,5,6] Q Q (TG (SA TK Q ?_))))))
   obtain⟨g17,hm⟩:=GI hm
   refine SX Q Q (aV Q Q Q Q g17) (SA TK Q (TN (WT ?_)))
   exact⟨_,[0,1,2,3],(SJ hm),Q,(kB Q),Q⟩
  ·replace hm:=JF h10 hm
   refine aJ (WX ?_)
   obtain⟨v18,hm,hz⟩:=II hm
   rw [hz8 _ hz] at hm
   refine WX (WH (WT ?_))
   exact⟨_,[0,1,2,3],(SJ hm),Q,(kB Q),Q⟩
 ·refine WN [4,5] Q Q ?_
  refine lC 5 3 [4] Q Q Q Q Q (by simp) Q Q ?_
  refine RS (SA TK Q ?_)
  obtain⟨r19,hr19,hm⟩:=BI hm
  refine SX Q Q (RD Q Q Q (eZ hr19)) (SA TK Q (TN (WN [4] Q Q (TR ?_))))
  obtain rfl:=OJ hm
  exact⟨_,[0,1],.mk _ (.cons (.agg (TK.lay Q) Q Q Q Q) .nil) Q,by decide,(kB Q),Q,Q⟩

end Go.Proofs.YtcagmechagiclaaGreatDoor
