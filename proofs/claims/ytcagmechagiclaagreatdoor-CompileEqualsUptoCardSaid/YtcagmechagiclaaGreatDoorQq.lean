/- Texts of this proof, joined, without what it does not use. No condition. -/
import Derived.Ground.NamesProg
import Derived.Shelf.SlSortCmp.NoneTotal
import Derived.Shelf.Slices.CompactI
import Derived.Shelf.Slices.In.SortNone
import Derived.Shelf.Sort.Plain
import Derived.Shelf.Strconv.Itoa3
import Derived.Test.YtcagmechagiclaaGreatDoorQp

set_option maxHeartbeats 8000000
set_option linter.unusedSimpArgs false
set_option linter.unusedVariables false
set_option maxRecDepth 20000
namespace Go.Proofs.YtcagmechagiclaaGreatDoor
open Go Go.TL Go.Sort Go.Shelf Go.RowKit Go.Lib
def qQE:Go.Shelf.Ren:=⟨fun|6=>146|15=>158|14=>173|28=>185|29=>186|20=>189|21=>190|22=>191|23=>192|24=>193|25=>194|26=>195|27=>196|46=>206|47=>202|48=>203|49=>207|50=>208|57=>214|n=>n,fun|22=>71|24=>133|25=>169|3=>3|39=>186|0=>0|53=>208|55=>210|4=>4|46=>203|45=>202|50=>109|5=>5|9=>9|66=>223|70=>174|76=>233|77=>234|n=>n,fun|n=>n⟩
theorem qWX:Go.Proofs.SlLaysF0.n6 Tryz.prog qQE where
 mixed:=by kernel_rfl
 f6:=⟨Tryz.f146.name,by kernel_rfl,Tryz.func146.trans (congrArg some (by kernel_rfl))⟩
 f14:=⟨Tryz.f173.name,by kernel_rfl,Tryz.func173.trans (congrArg some (by kernel_rfl))⟩
 f15:=Tryz.func158.trans (congrArg some (by kernel_rfl))
 f20:=⟨Tryz.f189.name,by kernel_rfl,Tryz.func189.trans (congrArg some (by kernel_rfl))⟩
 f21:=⟨Tryz.f190.name,by kernel_rfl,Tryz.func190.trans (congrArg some (by kernel_rfl))⟩
 f22:=⟨Tryz.f191.name,by kernel_rfl,Tryz.func191.trans (congrArg some (by kernel_rfl))⟩
 f23:=⟨Tryz.f192.name,by kernel_rfl,Tryz.func192.trans (congrArg some (by kernel_rfl))⟩
 f24:=⟨Tryz.f193.name,by kernel_rfl,Tryz.func193.trans (congrArg some (by kernel_rfl))⟩
 f25:=⟨Tryz.f194.name,by kernel_rfl,Tryz.func194.trans (congrArg some (by kernel_rfl))⟩
 f26:=⟨Tryz.f195.name,by kernel_rfl,Tryz.func195.trans (congrArg some (by kernel_rfl))⟩
 f27:=⟨Tryz.f196.name,by kernel_rfl,Tryz.func196.trans (congrArg some (by kernel_rfl))⟩
 f28:=Tryz.func185.trans (congrArg some (by kernel_rfl))
 f29:=Tryz.func186.trans (congrArg some (by kernel_rfl))
 f46:=⟨Tryz.f206.name,by kernel_rfl,Tryz.func206.trans (congrArg some (by kernel_rfl))⟩
 f47:=Tryz.func202.trans (congrArg some (by kernel_rfl))
 f48:=Tryz.func203.trans (congrArg some (by kernel_rfl))
 f49:=⟨Tryz.f207.name,by kernel_rfl,Tryz.func207.trans (congrArg some (by kernel_rfl))⟩
 f50:=⟨Tryz.f208.name,by kernel_rfl,Tryz.func208.trans (congrArg some (by kernel_rfl))⟩
 f57:=⟨Tryz.f214.name,by kernel_rfl,Tryz.func214.trans (congrArg some (by kernel_rfl))⟩
 t0:=Tryz.underlying0
 a0:=Tryz.isAgg0
 z0:=Tryz.sizeOf0
 v0:=Tryz.zeroValue0
 t3:=Tryz.underlying3
 a3:=Tryz.isAgg3
 z3:=Tryz.sizeOf3
 v3:=Tryz.zeroValue3
 t4:=Tryz.underlying4
 a4:=Tryz.isAgg4
 z4:=Tryz.sizeOf4
 v4:=Tryz.zeroValue4
 t5:=Tryz.underlying5
 a5:=Tryz.isAgg5
 z5:=Tryz.sizeOf5
 v5:=Tryz.zeroValue5
 t9:=Tryz.underlying9
 a9:=Tryz.isAgg9
 z9:=Tryz.sizeOf9
 v9:=Tryz.zeroValue9
 t22:=Tryz.underlying71
 a22:=Tryz.isAgg71
 z22:=Tryz.sizeOf71
 v22:=Tryz.zeroValue71
 t25:=Tryz.underlying169
 a25:=Tryz.isAgg169
 z25:=Tryz.sizeOf169
 v25:=Tryz.zeroValue169
 t39:=Tryz.underlying186
 a39:=Tryz.isAgg186
 z39:=Tryz.sizeOf186
 v39:=Tryz.zeroValue186
 t45:=Tryz.underlying202
 a45:=Tryz.isAgg202
 z45:=Tryz.sizeOf202
 v45:=Tryz.zeroValue202
 t46:=Tryz.underlying203
 a46:=Tryz.isAgg203
 z46:=Tryz.sizeOf203
 v46:=Tryz.zeroValue203
 t50:=Tryz.underlying109
 a50:=Tryz.isAgg109
 z50:=Tryz.sizeOf109
 v50:=Tryz.zeroValue109
 t53:=Tryz.underlying208
 a53:=Tryz.isAgg208
 z53:=Tryz.sizeOf208
 v53:=Tryz.zeroValue208
 t55:=Tryz.underlying210
 a55:=Tryz.isAgg210
 z55:=Tryz.sizeOf210
 v55:=Tryz.zeroValue210
 t66:=Tryz.underlying223
 a66:=Tryz.isAgg223
 z66:=Tryz.sizeOf223
 v66:=Tryz.zeroValue223
 t70:=Tryz.underlying174
 a70:=Tryz.isAgg174
 z70:=Tryz.sizeOf174
 v70:=Tryz.zeroValue174
 t76:=Tryz.underlying233
 a76:=Tryz.isAgg233
 z76:=Tryz.sizeOf233
 v76:=Tryz.zeroValue233
 t77:=Tryz.underlying234
 a77:=Tryz.isAgg234
 z77:=Tryz.sizeOf234
 v77:=Tryz.zeroValue234
theorem tG {G:FuncId} {c:D} {cs:List D} {m:Setting→Setting→Option Int} (hs:SortOk m) (hfn:qOS c=some (G,cs)) (hclo:∀ a b r,m a b=some r→RetD Tryz.prog G ([a.enc,b.enc]++cs) (.int .i64 r)) (xs:List Setting) (hlen:xs.length≤1000000000):Ret Tryz.prog 146 [.flat 133 2 (xs.map Setting.enc)] (λ_=>false) [.msl 0 2 0 xs.length,.d c] (.tup []) [.flat 133 2 ((sC m xs).map Setting.enc)]:=by
 have hcb:aV Tryz.prog G=true:=by
  obtain⟨r,hr⟩:=hs.tot default default;obtain⟨_,_,_,h,_⟩:=hclo _ _ _ hr;exact h.1
 have hlt:ltOf (λx y=>(m x y).getD 0)=ltM m:=rfl
 have hS := qZP (P := Tryz.prog) (F := 146) (G := G) (sz := 2) (f := Setting.enc) (c := c) (cs := cs) (cf := fun x y => (m x y).getD 0) (S := fun d => d.toList.mergeSort fun x y => !(ltM m) y x) 133 (fun _ => false) xs zGK (fun _ => rfl) (fun _ => rfl) (fun _ => rfl) hfn
  (λx y=>by obtain⟨r,hr⟩:=hs.tot x y;rw [hr];exact hclo x y r hr) (by omega) (by rw [List.length_mergeSort])
  (λp cap fv w=>AnyF.slices_SortFunc_none { qWX with } p cap fv w)
  (fun blk off cap cb d w hcl hH hb hl => AnyQ.slices_SortFunc_total qWX 2 Tryz.isAgg133 Tryz.sizeOf133 (fun x => (Setting.enc x).cells.map D.val) (fun _ => rfl) (fun x v hv => by obtain ⟨c, hc, rfl⟩ := List.mem_map.1 hv; simp only [Setting.enc, D.cells, zQB, List.not_mem_nil, or_false] at hc; rcases hc with rfl | rfl <;> rfl) (fun x y => (m x y).getD 0)
   ⟨hs.irrefl, hs.trans, hs.ntrans⟩ G cb blk off cap d w (qPJ hcb) hcl hH hb hl hs.anti)
 rwa [show (xs.toArray.toList.mergeSort λx y=>!(ltM m) y x)=sC m xs from qEN hs xs] at hS
def qVM:Go.Shelf.Ren:=⟨fun|171=>97|243=>150|246=>175|283=>197|284=>198|285=>199|286=>200|129=>186|317=>209|318=>210|319=>211|320=>212|337=>215|338=>216|n=>n,fun|3=>3|9=>9|2=>2|4=>4|171=>218|0=>0|53=>210|37=>220|5=>5|173=>221|212=>231|51=>208|20=>20|213=>232|46=>186|232=>237|233=>238|n=>n,fun|17=>0|18=>1|19=>2|n=>n⟩
theorem itoa97:Go.Proofs.Lays.n171 Tryz.prog qVM where
 mixed:=by kernel_rfl
 f129:=Tryz.func186.trans (congrArg some (by kernel_rfl))
 f171:=Tryz.func97.trans (congrArg some (by kernel_rfl))
 f243:=Tryz.func150.trans (congrArg some (by kernel_rfl))
 f246:=Tryz.func175.trans (congrArg some (by kernel_rfl))
 f283:=Tryz.func197.trans (congrArg some (by kernel_rfl))
 f284:=Tryz.func198.trans (congrArg some (by kernel_rfl))
 f285:=Tryz.func199.trans (congrArg some (by kernel_rfl))
 f286:=Tryz.func200.trans (congrArg some (by kernel_rfl))
 f317:=Tryz.func209.trans (congrArg some (by kernel_rfl))
 f318:=Tryz.func210.trans (congrArg some (by kernel_rfl))
 f319:=Tryz.func211.trans (congrArg some (by kernel_rfl))
 f320:=Tryz.func212.trans (congrArg some (by kernel_rfl))
 f337:=Tryz.func215.trans (congrArg some (by kernel_rfl))
 f338:=Tryz.func216.trans (congrArg some (by kernel_rfl))
 t0:=Tryz.underlying0
 a0:=Tryz.isAgg0
 z0:=Tryz.sizeOf0
 v0:=Tryz.zeroValue0
 t2:=Tryz.underlying2
 a2:=Tryz.isAgg2
 z2:=Tryz.sizeOf2
 v2:=Tryz.zeroValue2
 t3:=Tryz.underlying3
 a3:=Tryz.isAgg3
 z3:=Tryz.sizeOf3
 v3:=Tryz.zeroValue3
 t4:=Tryz.underlying4
 a4:=Tryz.isAgg4
 z4:=Tryz.sizeOf4
 v4:=Tryz.zeroValue4
 t5:=Tryz.underlying5
 a5:=Tryz.isAgg5
 z5:=Tryz.sizeOf5
 v5:=Tryz.zeroValue5
 t9:=Tryz.underlying9
 a9:=Tryz.isAgg9
 z9:=Tryz.sizeOf9
 v9:=Tryz.zeroValue9
 t20:=Tryz.underlying20
 a20:=Tryz.isAgg20
 z20:=Tryz.sizeOf20
 v20:=Tryz.zeroValue20
 t37:=Tryz.underlying220
 a37:=Tryz.isAgg220
 z37:=Tryz.sizeOf220
 v37:=Tryz.zeroValue220
 t46:=Tryz.underlying186
 a46:=Tryz.isAgg186
 z46:=Tryz.sizeOf186
 v46:=Tryz.zeroValue186
 t51:=Tryz.underlying208
 a51:=Tryz.isAgg208
 z51:=Tryz.sizeOf208
 v51:=Tryz.zeroValue208
 t53:=Tryz.underlying210
 a53:=Tryz.isAgg210
 z53:=Tryz.sizeOf210
 v53:=Tryz.zeroValue210
 t171:=Tryz.underlying218
 a171:=Tryz.isAgg218
 z171:=Tryz.sizeOf218
 v171:=Tryz.zeroValue218
 t173:=Tryz.underlying221
 a173:=Tryz.isAgg221
 z173:=Tryz.sizeOf221
 v173:=Tryz.zeroValue221
 t212:=Tryz.underlying231
 a212:=Tryz.isAgg231
 z212:=Tryz.sizeOf231
 v212:=Tryz.zeroValue231
 t213:=Tryz.underlying232
 a213:=Tryz.isAgg232
 z213:=Tryz.sizeOf232
 t232:=Tryz.underlying237
 a232:=Tryz.isAgg237
 z232:=Tryz.sizeOf237
 v232:=Tryz.zeroValue237
 t233:=Tryz.underlying238
 a233:=Tryz.isAgg238
 z233:=Tryz.sizeOf238
 v233:=Tryz.zeroValue238
 g17:=by kernel_rfl
 g18:=by kernel_rfl
 g19:=by kernel_rfl
theorem qOM (i:Nat) (hi:i < 100):RetN Tryz.prog 97 [.int .i64 i] (.str ⟨(Go.Lib.decDigits i).toArray⟩):=qZR zKQ λw=>Any.strconv_Itoa_small itoa97 i hi w
def qMX:Go.Shelf.Ren:=⟨fun|189=>127|125=>158|257=>157|128=>185|129=>186|294=>176|295=>177|296=>178|297=>179|298=>180|299=>181|216=>182|300=>183|301=>184|328=>201|329=>202|330=>203|331=>204|332=>205|215=>174|343=>213|n=>n,fun|28=>23|3=>3|46=>186|0=>0|51=>208|53=>210|4=>4|183=>203|182=>202|131=>109|5=>5|9=>9|218=>223|222=>174|228=>233|229=>234|n=>n,fun|n=>n⟩
theorem qQD:Go.Proofs.Lays.n189 Tryz.prog qMX where
 mixed:=by kernel_rfl
 f125:=Tryz.func158.trans (congrArg some (by kernel_rfl))
 f128:=Tryz.func185.trans (congrArg some (by kernel_rfl))
 f129:=Tryz.func186.trans (congrArg some (by kernel_rfl))
 f189:=Tryz.func127.trans (congrArg some (by kernel_rfl))
 f215:=Tryz.func174.trans (congrArg some (by kernel_rfl))
 f216:=Tryz.func182.trans (congrArg some (by kernel_rfl))
 f257:=Tryz.func157.trans (congrArg some (by kernel_rfl))
 f294:=Tryz.func176.trans (congrArg some (by kernel_rfl))
 f295:=Tryz.func177.trans (congrArg some (by kernel_rfl))
 f296:=Tryz.func178.trans (congrArg some (by kernel_rfl))
 f297:=Tryz.func179.trans (congrArg some (by kernel_rfl))
 f298:=Tryz.func180.trans (congrArg some (by kernel_rfl))
 f299:=Tryz.func181.trans (congrArg some (by kernel_rfl))
 f300:=Tryz.func183.trans (congrArg some (by kernel_rfl))
 f301:=Tryz.func184.trans (congrArg some (by kernel_rfl))
 f328:=Tryz.func201.trans (congrArg some (by kernel_rfl))
 f329:=Tryz.func202.trans (congrArg some (by kernel_rfl))
 f330:=Tryz.func203.trans (congrArg some (by kernel_rfl))
 f331:=Tryz.func204.trans (congrArg some (by kernel_rfl))
 f332:=Tryz.func205.trans (congrArg some (by kernel_rfl))
 f343:=Tryz.func213.trans (congrArg some (by kernel_rfl))
 t0:=Tryz.underlying0
 a0:=Tryz.isAgg0
 z0:=Tryz.sizeOf0
 v0:=Tryz.zeroValue0
 t3:=Tryz.underlying3
 a3:=Tryz.isAgg3
 z3:=Tryz.sizeOf3
 v3:=Tryz.zeroValue3
 t4:=Tryz.underlying4
 a4:=Tryz.isAgg4
 z4:=Tryz.sizeOf4
 v4:=Tryz.zeroValue4
 t5:=Tryz.underlying5
 a5:=Tryz.isAgg5
 z5:=Tryz.sizeOf5
 v5:=Tryz.zeroValue5
 t9:=Tryz.underlying9
 a9:=Tryz.isAgg9
 z9:=Tryz.sizeOf9
 v9:=Tryz.zeroValue9
 t28:=Tryz.underlying23
 a28:=Tryz.isAgg23
 z28:=Tryz.sizeOf23
 v28:=Tryz.zeroValue23
 t46:=Tryz.underlying186
 a46:=Tryz.isAgg186
 z46:=Tryz.sizeOf186
 v46:=Tryz.zeroValue186
 t51:=Tryz.underlying208
 a51:=Tryz.isAgg208
 z51:=Tryz.sizeOf208
 v51:=Tryz.zeroValue208
 t53:=Tryz.underlying210
 a53:=Tryz.isAgg210
 z53:=Tryz.sizeOf210
 v53:=Tryz.zeroValue210
 t131:=Tryz.underlying109
 a131:=Tryz.isAgg109
 z131:=Tryz.sizeOf109
 v131:=Tryz.zeroValue109
 t182:=Tryz.underlying202
 a182:=Tryz.isAgg202
 z182:=Tryz.sizeOf202
 v182:=Tryz.zeroValue202
 t183:=Tryz.underlying203
 a183:=Tryz.isAgg203
 z183:=Tryz.sizeOf203
 v183:=Tryz.zeroValue203
 t218:=Tryz.underlying223
 a218:=Tryz.isAgg223
 z218:=Tryz.sizeOf223
 v218:=Tryz.zeroValue223
 t222:=Tryz.underlying174
 a222:=Tryz.isAgg174
 z222:=Tryz.sizeOf174
 v222:=Tryz.zeroValue174
 t228:=Tryz.underlying233
 a228:=Tryz.isAgg233
 z228:=Tryz.sizeOf233
 v228:=Tryz.zeroValue233
 t229:=Tryz.underlying234
 a229:=Tryz.isAgg234
 z229:=Tryz.sizeOf234
 v229:=Tryz.zeroValue234
theorem qAW (xs:List Int) (hlen:xs.length≤1000000000):Ret Tryz.prog 127 [.flat 3 1 (xs.map (D.int .i64))] (λ_=>false) [.msl 0 1 0 xs.length] (.tup []) [.flat 3 1 ((qF xs).map (D.int .i64))]:=
 qZQ 3 (λ_=>false) xs zHD (by omega) (λp cap w=>Any.slices_Sort_int_none qQD p cap w) (λblk off cap zs w hH hb hl=>Any.slices_Sort_int qQD blk off cap zs w hH hb hl)
def qOX:Go.Shelf.Ren:=⟨fun|20=>128|n=>n,fun|22=>23|3=>3|4=>4|0=>0|n=>n,fun|n=>n⟩
theorem qSY:Go.Proofs.Lays2.n20 Tryz.prog qOX where
 mixed:=by kernel_rfl
 f20:=Tryz.func128.trans (congrArg some (by kernel_rfl))
 t0:=Tryz.underlying0
 a0:=Tryz.isAgg0
 z0:=Tryz.sizeOf0
 v0:=Tryz.zeroValue0
 t3:=Tryz.underlying3
 a3:=Tryz.isAgg3
 z3:=Tryz.sizeOf3
 v3:=Tryz.zeroValue3
 t4:=Tryz.underlying4
 a4:=Tryz.isAgg4
 z4:=Tryz.sizeOf4
 v4:=Tryz.zeroValue4
 t22:=Tryz.underlying23
 a22:=Tryz.isAgg23
 z22:=Tryz.sizeOf23
 v22:=Tryz.zeroValue23
 i3:=by kernel_rfl
theorem wV (xs:List Int) (hlen:xs.length≤1000000000):Ret Tryz.prog 128 [.flat 3 1 (xs.map (D.int .i64))] (λ_=>false) [.msl 0 1 0 xs.length] (.msl 0 1 0 (Go.Lib.compact xs).length) [.flat 3 1 ((Go.Lib.compact xs).map (D.int .i64))]:=
 qNH 3 (λ_=>false) xs zHC (by omega) (λp cap w=>Any.slices_Compact_int_empty qSY p cap w) (λblk off cap zs w hH h1 h2=>Any.slices_Compact_int qSY blk off cap zs w hH h1 h2)
end Go.Proofs.YtcagmechagiclaaGreatDoor
set_option maxHeartbeats 8000000
set_option linter.unusedSimpArgs false
set_option linter.unusedVariables false
set_option maxRecDepth 20000
namespace Go.Proofs.YtcagmechagiclaaGreatDoor
open Go Go.TL
theorem qKR {p0:Table} {r:Bool} (hm:qL p0=some r):RetN Tryz.prog 9 [p0.enc] (.bool (r)):=by
 refine .unit (aJ callB9 Tryz.func9 Q Tryz.ntmps9 Q Q (λwX gX=>?_)) Q;unfold qL at hm;refine WN [0] Q Q (RS (cZ 0 Q Q Q (SA TK Q (TN (WN [1] Q Q ?_)))));refine cM hm (λ_=>([]:Fr)) (λ_=>([]:List (Nat×Blk))) [] [1] Q (λz1 hm hz1=>?_) (λj hm=>?_)
 ·refine RS (SA TK Q (SA TK Q (SX Q Q (aP TK Q Q Q) (SA TK Q (TN (WN [1,6,7,8] Q Q (TB (aZ hm (λx3=>([(8,.d (.int .i64 x3))]:Fr)) (λx3=>([]:List (Nat×Blk))) [8] [1,6,7] [0] Q k0 Q Q Q Q Q (λx3 z4 hm hz4=>WN [1,6,7,8] Q Q ?_)))))))));refine RS (SA TK Q (TN (WN [1,6,7,8,9] Q Q (TQ ?_))));refine TC _ Q (λh5=>?_) (λh5=>?_)
  ·replace hm:=JT h5 hm;refine TS (WT (WN [1,6,7,8] Q Q (TQ (TB (RS (VE hm λe6 he6 hm=>SX Q Q (bZ TK Q Q Q Q he6) (SA TK Q ?_)))))));refine cW 1 Q Q jK Q (dK 1 [none,none,none,some 3,some 2,some 1,none,none,some 3,some 2,some 1,some 2,some 1,some 2] Q Q (SA TK Q (TN (WN [1,4,6,7,8] Q Q (RS (SA TK Q (SA TK Q (SX Q Q (aP TK Q Q Q) (SA TK Q (SA TK Q ?_))))))))));refine SX Q Q (aP TK Q Q Q) (GE hm λg7 hm=>SX Q Q (aY Q Q Q Q g7) (SA TK Q (SA TK Q (SX Q Q (aP TK Q Q Q) (GE hm λg8 hm=>SX Q Q (aY Q Q Q Q g8) (SA TK Q (SA TK Q (SX Q Q (aP TK Q Q Q) ?_))))))));refine GE hm λg9 hm=>SX Q Q (aY Q Q Q Q g9) (SA TK Q (SA TK Q (SX Q Q (aP TK Q Q Q) (GE hm λg10 hm=>SX Q Q (aY Q Q Q Q g10) (SA TK Q (SA TK Q (SX Q Q (aP TK Q Q Q) (GE hm λg11 hm=>?_))))))));refine SX Q Q (aY Q Q Q Q g11) (SA TK Q (TN (WN [1,6,7,8,35] Q Q ?_)));refine TC _ Q (λh12=>?_) (λh12=>?_)
   ·replace hm:=JT h12 hm;refine RS (SA TK Q (TN (WN [2] Q Q (TR (WB (WR (IE hm λv13 hm hz=>?_)))))));rw [hz4 _ hz] at hm;refine WR (WB (IE hm λv14 hm hz=>?_));rw [hz1 _ hz] at hm;refine WR ?_;obtain rfl:=OJ hm;exact EndsS.one _ Q (.d _) (.refl _)
   replace hm:=JF h12 hm;refine TS (WK (WT (WN [1,6,7,8] Q Q (TG (GE hm λg15 hm=>SX Q Q (aY Q Q Q Q g15) (SA TK Q (TN ?_)))))));refine WT ?_;exact⟨_,[0],(SJ hm),Q,k0,Q⟩
  replace hm:=JF h5 hm;refine aI (WX (IE hm λv16 hm hz=>?_));rw [hz4 _ hz] at hm;refine WX (WH (WT ?_));exact⟨_,[0],(SJ hm),Q,k0,Q⟩
 refine WN [1] Q Q ?_;refine kJ [(2,.d (.bool (((decide ((p0.routes.length:Int)≤(100:Int)))&&(decide ((p0.points.length:Int)≤(100:Int)))))))] [2] [] Q ?_ ?_
 ·refine TG (SA TK Q (SA TK Q (SX Q Q (aP TK Q Q Q) (SA TK Q (SB TK Q (λq17 hq17=>?_))))));cases q17
  ·iterate 6 (refine SA TK Q ?_)
   refine TN (WT ?_);exact⟨[0],Q,k0,dJ (bK (bL (by simp [hq17])) Q) Q⟩
  refine SA TK Q (SA TK Q (SX Q Q (aP TK Q Q Q) (SA TK Q (SA TK Q (SA TK Q (TN (WT ?_)))))));exact⟨[0],Q,k0,dJ (bK (bL (by simp [hq17])) Q) Q⟩
 refine WN [2] Q Q (TR ?_);obtain rfl:=OJ hm;exact EndsS.one _ Q (.d _) (.refl _)
theorem qOK  {r:Table} (hm:qAQ=some r):RetD Tryz.prog 29 [] (r.enc):=by
 refine .of (mv:=λ_=>false) (aJ zMQ Tryz.func29 Q Tryz.ntmps29 Q Q (λwX gX=>?_));unfold qAQ at hm;refine WN [] Q Q (RS (cW 0 Q Q qTV Q (dK 0 [some 14,some 1,some 1,none,none] Q Q (TN (WN [0] Q Q (RS (SX Q Q (cI Q zDH qFY Q Q Q Q) (SX Q Q (fX [.tmp 1] TK Q Q qFY Q Q Q Q Q) ?_))))))));refine SX Q Q (fX [.const (Value.int IntKind.i64 1)] TK Q Q lD Q Q Q Q Q) (SX Q Q (cI Q zDE jK Q Q Q Q) (qQK 4 [none,none,none,none,some 2,none,none,none,some 3,some 2,some 1,some 2,some 1,some 2] Q (SX Q Q (cI Q zDH qFY Q Q Q Q) (SX Q Q (fX [.tmp 5] TK Q Q qFY Q Q Q Q Q) (SX Q Q (fX [.const (Value.int IntKind.i64 2)] TK Q Q lD Q Q Q Q Q) (SX Q Q (cI Q zDE jK Q Q Q Q) (qQK 8 [none,none,none,none,some 2,none,none,none,some 3,some 2,some 1,some 2,some 1,some 2] Q (SX Q Q (fX [.tmp 4,.tmp 8] TK Q Q jK Q Q Q Q Q) ?_))))))));refine SX Q Q (cI Q plc25 qTV Q Q Q Q) (qQK 10 [none,some 1,some 1,none,none] Q (SA TK Q (TN (WN [0] Q Q (TR ?_)))));obtain rfl:=OJ hm;exact EndsS.cellR _ TK Q Q Q Q Q (.d _)
theorem gU {p0:Int} {p1:Int} {r:Bool} (hm:dV p0 p1=some r):RetN Tryz.prog 117 [.int .i64 p0,.int .i64 p1] (.bool (r)):=by
 refine .unit (aJ zHM Tryz.func117 Q Tryz.ntmps117 Q Q (λwX gX=>?_)) Q;unfold dV at hm;refine WN [0,1] Q Q (RS (SA TK Q (TN (WN [0,1] Q Q ?_))));refine kJ [(4,.d (.bool (((decide ((0:Int)≤p0))&&(decide (p0 < p1))))))] [4] [] Q ?_ ?_
 ·refine TG (SA TK Q (SA TK Q (SB TK Q (λq1 hq1=>?_))));cases q1
  ·iterate 5 (refine SA TK Q ?_)
   refine TN (WT ?_);exact⟨[],Q,k0,dJ (bK (bL (by simp [hq1])) Q) Q⟩
  iterate 5 (refine SA TK Q ?_)
  refine TN (WT ?_);exact⟨[],Q,k0,dJ (bK (bL (by simp [hq1])) Q) Q⟩
 refine WN [4] Q Q (TR ?_);obtain rfl:=OJ hm;exact EndsS.one _ Q (.d _) (.refl _)
theorem zG {p0:Table} {r:Bool} (hm:jW p0=some r):RetN Tryz.prog 118 [p0.enc] (.bool (r)):=by
 refine .unit (aJ zHL Tryz.func118 Q Tryz.ntmps118 Q Q (λwX gX=>?_)) Q;unfold jW at hm;refine WN [0] Q Q (RS (cZ 0 Q Q Q (SA TK Q (TN (WN [1] Q Q (TQ (RS (SA TK Q (SA TK Q ?_)))))))));refine SX Q Q (aP TK Q Q Q) (SA TK Q (SA TK Q (SX Q Q (aP TK Q Q Q) (SA TK Q (TN (WN [1,11] Q Q ?_))))));refine TC _ Q (λh1=>?_) (λh1=>?_)
 ·replace hm:=dS h1 hm;refine RS (SA TK Q (TN (WN [2] Q Q (TR (WR ?_)))));obtain rfl:=OJ hm;exact EndsS.one _ Q (.d _) (.refl _)
 replace hm:=dT h1 hm;refine TS (WT (WN [1] Q Q ?_));refine cM hm (λ_=>([]:Fr)) (λ_=>([]:List (Nat×Blk))) [] [] Q (λz2 hm hz2=>?_) (λj hm=>?_)
 ·refine RS (SA TK Q (SA TK Q (SX Q Q (aP TK Q Q Q) (SA TK Q (TN (WN [1,13,14,15] Q Q (TB (aZ hm (λx4=>([(15,.d (.int .i64 x4))]:Fr)) (λx4=>([]:List (Nat×Blk))) [15] [1,13,14] [0] Q k0 Q Q Q Q Q (λx4 z5 hm hz5=>WN [1,13,14,15] Q Q ?_)))))))));refine RS (SA TK Q (TN (WN [1,13,14,15,16] Q Q (TQ ?_))));refine TC _ Q (λh6=>?_) (λh6=>?_)
  ·replace hm:=JT h6 hm;refine TS (WT (WN [1,13,14,15] Q Q (TQ (TB (RS (SA TK Q (VE hm λe7 he7 hm=>SX Q Q (bZ TK Q Q Q Q he7) ?_)))))));refine SA TK Q (SA TK Q (SA TK Q (TN (WN [1,3,4,13,14,15] Q Q ?_))));refine aL hm (λx8=>([(46,.d (.bool (x8)))]:Fr)) (λx8=>([]:List (Nat×Blk))) [46] [1,13,14,15] Q (λz9 hm=>?_) (λx8 hm=>?_)
   ·refine cU follows  ?_;iterate 2 (refine DA [0] TK Q ?_)
    refine d_b [0] TK Q (λq10 hq10=>?_);cases q10
    ·replace hm:=JF hq10 hm;iterate 2 (refine DA [0] TK Q ?_)
     refine d_b [0] TK Q (λq11 hq11=>?_);cases q11
     ·replace hm:=JF hq11 hm;iterate 14 (refine DA [0] TK Q ?_)
      refine VE hm λe12 he12 hm=>DX [0] Q Q (bZ TK Q Q Q Q he12) ?_;iterate 3 (refine DA [0] TK Q ?_)
      refine BE hm λr13 hr13 hm=>DX [0] Q Q (RN Q Q (SC (.d _) (SC (.d _) SN)) (gU hr13)) ?_;iterate 2 (refine DA [0] TK Q ?_)
      refine DT ?_ (by kernel_rfl);refine TN (WT ?_);exact⟨_,[0],(SJ hm),Q,k0,Q⟩
     replace hm:=JT hq11 hm;iterate 4 (refine DA [0] TK Q ?_)
     refine GE hm λg14 hm=>DX [0] Q Q (aY Q Q Q Q g14) (VE hm λe15 he15 hm=>DX [0] Q Q (bZ TK Q Q Q Q he15) ?_);iterate 4 (refine DA [0] TK Q ?_)
     refine d_b [0] TK Q (λq16 hq16=>?_);cases q16
     ·replace hm:=JF hq16 hm;iterate 3 (refine DA [0] TK Q ?_)
      refine VE hm λe17 he17 hm=>DX [0] Q Q (bZ TK Q Q Q Q he17) ?_;iterate 3 (refine DA [0] TK Q ?_)
      refine BE hm λr18 hr18 hm=>DX [0] Q Q (RN Q Q (SC (.d _) (SC (.d _) SN)) (gU hr18)) ?_;iterate 2 (refine DA [0] TK Q ?_)
      refine DT ?_ (by kernel_rfl);refine TN (WT ?_);exact⟨_,[0],(SJ hm),Q,k0,Q⟩
     replace hm:=JT hq16 hm;iterate 10 (refine DA [0] TK Q ?_)
     refine DT ?_ (by kernel_rfl);refine TN (WT ?_);exact⟨_,[0],(SJ hm),Q,k0,Q⟩
    replace hm:=JT hq10 hm;iterate 24 (refine DA [0] TK Q ?_)
    refine DT ?_ (by kernel_rfl);refine TN (WT ?_);exact⟨_,[0],(SJ hm),Q,k0,Q⟩
   refine WN [1,13,14,15,46] Q Q ?_;refine TC _ Q (λh19=>?_) (λh19=>?_)
   ·replace hm:=JA h19 hm;refine RS (SA TK Q (TN (WN [2] Q Q (TR (WB (WR (IE hm λv20 hm hz=>?_)))))));rw [hz5 _ hz] at hm;refine WR (WB (IE hm λv21 hm hz=>?_));rw [hz2 _ hz] at hm;refine WR ?_;obtain rfl:=OJ hm;exact EndsS.one _ Q (.d _) (.refl _)
   replace hm:=JB h19 hm;refine TS (WK (WT (WN [1,13,14,15] Q Q (TG (GE hm λg22 hm=>SX Q Q (aY Q Q Q Q g22) (SA TK Q (TN ?_)))))));refine WT ?_;exact⟨_,[0],(SJ hm),Q,k0,Q⟩
  replace hm:=JF h6 hm;refine aI (WX (IE hm λv23 hm hz=>?_));rw [hz5 _ hz] at hm;refine WX (WH (WT ?_));exact⟨_,[0],(SJ hm),Q,k0,Q⟩
 refine WN [] Q Q (RS (SA TK Q (TN (WN [2] Q Q (TR ?_)))));obtain rfl:=OJ hm;exact EndsS.one _ Q (.d _) (.refl _)
theorem wK (n:Nat) (hn:n≤1000000000) (mv:Nat→Bool):Ret Tryz.prog 143 [] mv ([.nilsl,.int .i64 n].map .d) (.msl 0 1 0 0) [.flat 3 1 []]:=by
 refine dE zGN Tryz.func143 Q Tryz.ntmps143 Q Q (λwX gX=>aX [0,1] (aM Q (aM Q .nil)) (bH Q) (RS (cK _ Q (gS (.inr Q) Q) (TN (aX [0,1] (aM Q (aM Q .nil)) (bH Q) (TQ (RS (cK _ Q (gS (.inl Q) Q) ?_))))))));refine cK _ Q (qC Q Q Q Q) (TN (aX [0,1,6] (aM Q (aM Q (aM Q .nil))) (bH Q) ?_));refine TC _ Q (λhneg=>?_) (λhneg=>?_)
 ·exact absurd (of_decide_eq_true hneg) (by omega)
 refine TS (WT (aX [0,1] (aM Q (aM Q .nil)) (bH Q) (TQ (RS (cK _ Q (gS (.inl Q) Q) (cK _ Q (gS (.inl Q) Q) (cK _ Q (qGQ Q zQ Q) (cK _ Q (gS (.inl Q) Q) ?_))))))));refine cK _ Q (qB Q zQ Q) ?_;refine cK _ Q (uY (r:=0) Q Q Q Q Q (by first|omega|(constructor<;>omega))) ?_;refine cK _ Q (uY (r:=(n:Int)) Q Q Q Q (by omega) (by first|omega|(constructor<;>omega))) ?_;refine cK _ Q (gS (.inr Q) Q) (TN (aX [0,1] (aM Q (aM Q .nil)) (bH Q) (RS (cK _ Q (gS (.inl Q) Q) (cK _ Q (qC Q Q Q Q) (TN (aX [0,1,16] (aM Q (aM Q (aM Q .nil))) (bH Q) ?_)))))));refine TC _ Q (λhpos=>?_) (λhpos=>?_)
 ·have hpos:0 < n:=by simpa using hpos
  refine TG (cK _ Q (gS (.inl Q) Q) (cK _ Q (gS (.inl Q) Q) (cK _ Q (qGQ Q zQ Q) (cK _ Q (qYF Q zQ Q Q Q) (cK _ Q (gS (.inl Q) Q) ?_)))));refine qXA (n:=n) Q zQ Tryz.underlying3 lD Q Q Q hpos (by decide) (by omega) (by omega) ?_;refine cK _ Q (gS (.inl Q) Q) (cK _ Q (qB Q zQ Q) (cK _ Q (qHS 0 1 8 0 n 0 0 Q zQ Q Q Q (zQW _) (Nat.zero_le _)) (cK _ Q (kQ (.inr Q) Q) (TN (WT (aX [0] (fH Q .nil) (dR Q (bH Q)) (RS (cK _ Q (kQ (.inl Q) Q) ?_))))))));refine cK _ Q (kQ (.inr Q) Q) (TN (aX [4] (fH Q .nil) (dR Q (bH Q)) (TR ?_)));exact⟨_,[0],res Q,by decide,λi hi=>absurd hi (zQV i),Q,Q⟩
 refine qEK 0 3 1 Q (TS (WT (aX [0] (fH Q .nil) (dR Q (bH Q)) (RS (cK _ Q (kQ (.inl Q) Q) (cK _ Q (kQ (.inr Q) Q) (TN (aX [4] (fH Q .nil) (dR Q (bH Q)) ?_))))))));refine TR ?_;exact⟨_,[0],res Q,by decide,λi hi=>absurd hi (zQV i),Q,Q⟩
theorem uI (xss:List (List Int)) (hn:xss.length≤1000) (ht:xss.flatten.length≤1000000000) (mv:Nat→Bool):Ret Tryz.prog 91 [] mv ([.sl 1 (xss.map λl=>.sl 1 (l.map (D.int .i64)))].map .d) (.msl 0 1 0 xss.flatten.length) [.flat 3 1 (xss.flatten.map (D.int .i64))]:=by
 refine dE zKW Tryz.func91 Q Tryz.ntmps91 Q Q (λwX gX=>aX [0] (aM Q .nil) (bH Q) (RS (cK _ Q (gS (.inr Q) Q) (TN (aX [0] (aM Q .nil) (bH Q) (RS (cK _ Q (gS (.inr Q) Q) (TN ?_))))))));refine aX [0,3] (aM Q (aM Q .nil)) (bH Q) (TQ (RS (cK _ Q (gS (.inl Q) Q) ?_)));refine cK _ Q (by first|exact qIN Q qCZ Q (by first|exact zQC _|rfl)|exact qB Q qCZ Q) ?_;refine cK _ Q (gS (.inl Q) Q) (TN (aX [0,3,9,10,11] (aM Q (aM Q (aM Q (aM Q (aM Q .nil))))) (bH Q) (TB ?_)));refine rZ (λi=>([(3,.d (.int .i64 ((iE xss i).length:Int))),(11,.d (.int .i64 ((i:Nat):Int)))]:Fr)) (λi=>([]:List (Nat×Blk))) (λi=>i≤xss.length) (λi=>xss.length - i) [3,11] [0,9,10] [] 0 (by decide) (λi hi=>absurd hi (zQV i)) (Nat.zero_le _) (aM Q (aM Q (aM Q .nil))) Q (by rw [rU];rfl) (bH Q) Q ?_;rintro i hok;refine aX [3,11,0,9,10] (aM Q (aM Q (aM Q (aM Q (aM Q .nil))))) (bH Q) (RS (cK _ Q (qC Q Q Q Q) (TN (aX [0,3,9,10,11,12] (aM Q (aM Q (aM Q (aM Q (aM Q (aM Q .nil)))))) (bH Q) (TQ ?_)))));refine TC _ Q (λhlt=>?_) (λhlt=>?_)
 ·have hlt:i < xss.length:=by simpa using hlt
  obtain⟨x,hx⟩:∃ x,(xss)[i]?=some x:=⟨_,zQR (by first|exact hlt|omega|(simp;omega))⟩;have hs:=iY hx;have hle:=lA xss (i+1);refine TS (WT (aX [0,3,9,10,11] (aM Q (aM Q (aM Q (aM Q (aM Q .nil))))) (bH Q) (TQ (TB (RS (cK _ Q (xV Q qCZ Q Q (qGL hx)) (cK _ Q (qBS Q zOF Q Q) (cK _ Q (gS (.inr Q) Q) ?_))))))));refine TN (aX [0,3,5,9,10,11] (aM Q (aM Q (aM Q (aM Q (aM Q (aM Q .nil)))))) (bH Q) (RS (cK _ Q (gS (.inl Q) Q) (cK _ Q (gS (.inl Q) Q) ?_))));refine cK _ Q (by first|exact qIN Q zQ Q (by first|exact zQC _|rfl)|exact qB Q zQ Q) ?_;refine cK _ Q (uY (r:=((iE xss (i+1)).length:Int)) Q Q Q Q (by rw [hs];simp) (by omega)) ?_;refine cK _ Q (gS (.inr Q) Q) (TN (aX [0,3,9,10,11] (aM Q (aM Q (aM Q (aM Q (aM Q .nil))))) (bH Q) (RS (cK _ Q (gS (.inl Q) Q) (cK _ Q (qC Q Q Q Q) (TN (aX [0,3,9,10,11,20] (aM Q (aM Q (aM Q (aM Q (aM Q (aM Q .nil)))))) (bH Q) ?_)))))));refine TC _ Q (λhneg=>?_) (λhneg=>?_)
  ·exact absurd (of_decide_eq_true hneg) (by omega)
  refine TS (WK (WT (aX [0,3,9,10,11] (aM Q (aM Q (aM Q (aM Q (aM Q .nil))))) (bH Q) (TG ?_))));refine cK _ Q (uZ Q Q Q Q (by first|omega|(constructor<;>omega))) ?_;refine cK _ Q (gS (.inl Q) Q) (TN (WT ?_));exact⟨(i+1),[],by decide,(λi hi=>absurd hi (zQV i)),(by omega),(by omega),Q⟩
 have hge:¬ i < xss.length:=by simpa using hlt
 have hi:i=xss.length:=by omega
 refine aI (WX (WX (WH (WT (aX [0,3] (aM Q (aM Q .nil)) (bH Q) (RS (cK _ Q (gS (.inl Q) Q) ?_)))))));refine yM Q Q Q (wK _ (by have:=lA xss i;omega) (λ_=>false)) Q Q ?_;refine cK _ Q (kQ (.inr Q) Q) (TN (aX [0,6] (aM Q (fH Q .nil)) (dR Q (bH Q)) (TQ (RS (cK _ Q (gS (.inl Q) Q) ?_)))));refine cK _ Q (by first|exact qIN Q qCZ Q (by first|exact zQC _|rfl)|exact qB Q qCZ Q) ?_;refine cK _ Q (gS (.inl Q) Q) (TN (aX [6,25,26,27] (fH Q (aM Q (aM Q (aM Q .nil)))) (dR Q (bH Q)) (TB ?_)));refine rZ (λi=>([(6,.msl 0 1 0 (iE xss i).length),(27,.d (.int .i64 ((i:Nat):Int)))]:Fr)) (λi=>([(0,.flat 3 1 ((iE xss i).map (D.int .i64)))]:List (Nat×Blk))) (λi=>i≤xss.length) (λi=>xss.length - i) [6,27] [25,26] [0] 0 (by decide) (λi hi=>absurd hi (zQV i)) (Nat.zero_le _) (aM Q (aM Q .nil)) Q (by rw [rU];rfl) (dR Q (bH Q)) (by rw [rU];rfl) ?_;rintro i hok;refine aX [6,27,25,26] (fH Q (aM Q (aM Q (aM Q .nil)))) (dR Q (bH Q)) (RS (cK _ Q (qC Q Q Q Q) (TN (aX [6,25,26,27,28] (fH Q (aM Q (aM Q (aM Q (aM Q .nil))))) (dR Q (bH Q)) (TQ ?_)))));refine TC _ Q (λhlt=>?_) (λhlt=>?_)
 ·have hlt:i < xss.length:=by simpa using hlt
  obtain⟨x,hx⟩:∃ x,(xss)[i]?=some x:=⟨_,zQR (by first|exact hlt|omega|(simp;omega))⟩;have hs:=iY hx;have hle:=lA xss (i+1);have hsl:(iE xss (i+1)).length=(iE xss i).length+x.length:=by rw [hs];simp
  refine TS (WT (aX [6,25,26,27] (fH Q (aM Q (aM Q (aM Q .nil)))) (dR Q (bH Q)) (TQ (TB (RS (cK _ Q (xV Q qCZ Q Q (qGL hx)) (cK _ Q (qBS Q zOF Q Q) (cK _ Q (gS (.inr Q) Q) ?_))))))));refine TN (aX [6,8,25,26,27] (fH Q (aM Q (aM Q (aM Q (aM Q .nil))))) (dR Q (bH Q)) (TG (cK _ Q (kQ (.inl Q) Q) (cK _ Q (gS (.inl Q) Q) ?_))));refine qHK (m:=(iE xss (i+1)).length) (ds:=x.map (D.int .i64)) (es':=(iE xss (i+1)).map (D.int .i64)) Q zQ lD Q Q Q (by simp) (λh=>absurd h (zQV _)) Q ⟨Q,(by first|rfl|(simp [List.map_take,List.map_drop];done)|(rw [← List.map_drop,List.take_of_length_le (by simp)]))⟩ (by rw [hs];simp) (by simp;omega) (by omega) (by omega) Q Q ?_;refine cK _ Q (kQ (.inr Q) Q) (TN (WK (WT (aX [6,25,26,27] (fH Q (aM Q (aM Q (aM Q .nil)))) (dR Q (bH Q)) (TG ?_)))));refine cK _ Q (uZ Q Q Q Q (by first|omega|(constructor<;>omega))) ?_;refine cK _ Q (gS (.inl Q) Q) (TN (WT ?_));exact⟨(i+1),[0],by decide,(λi hi=>absurd hi (zQV i)),(by omega),(by omega),Q⟩
 have hge:¬ i < xss.length:=by simpa using hlt
 have hi:i=xss.length:=by omega
 have hall:=qSQ hge;refine aI (WX (WX (WH (WT (aX [6] (fH Q .nil) (dR Q (bH Q)) (RS (cK _ Q (kQ (.inl Q) Q) (cK _ Q (kQ (.inr Q) Q) ?_))))))));refine TN (aX [2] (fH Q .nil) (dR Q (bH Q)) (TR ?_));rw [hall];exact⟨_,[0],res Q,by decide,λi hi=>absurd hi (zQV i),Q,Q⟩
theorem kM {p0:List (List Int)} {r:List Int} (hm:gA p0=some r):RetN Tryz.prog 91 [.sl 1 (p0.map (λl=>D.sl 1 (l.map (D.int .i64))))] (.sl 1 (r.map (D.int .i64))):=by
 unfold gA at hm;refine GE hm λg hm=>?_;obtain rfl:=OJ hm;exact .flat (uI p0 g.1 g.2 (λ_=>false)) (by rw [zQC]) (λe he=>by obtain⟨x,_,rfl⟩:=List.mem_map.1 he;rfl)
theorem qAE {p0:Table} {p1:Route} {r:Bool} (hm:iV p0 p1=some r):RetN Tryz.prog 119 [p0.enc,p1.enc] (.bool (r)):=by
 refine .unit (aJ zHK Tryz.func119 Q Tryz.ntmps119 Q Q (λwX gX=>?_)) Q;unfold iV at hm;refine WN [0,1] Q Q (RS (cZ 0 Q Q Q (cZ 1 Q Q Q (SA TK Q (TN (WN [2,3] Q Q (TQ ?_)))))));refine aL hm (λx1=>([(26,.d (.bool (x1)))]:Fr)) (λx1=>([]:List (Nat×Blk))) [26] [2,3] Q (λz2 hm=>?_) (λx1 hm=>?_)
 ·refine TG ?_;iterate 4 (refine SA TK Q ?_)
  refine BE hm λr3 hr3 hm=>SX Q Q (RN Q Q (SC (.d _) (SC (.d _) SN)) (gU hr3)) (SA TK Q (SB TK Q (λq4 hq4=>?_)));cases q4
  ·replace hm:=JB hq4 hm;refine SA TK Q (SA TK Q (SA TK Q (SB TK Q (λq5 hq5=>?_))));cases q5
   ·replace hm:=dT hq5 hm;iterate 8 (refine SA TK Q ?_)
    refine TN (WT ?_);exact⟨_,[0,1],(SJ hm),Q,k0,Q⟩
   replace hm:=dS hq5 hm;iterate 4 (refine SA TK Q ?_)
   refine BE hm λr6 hr6 hm=>SX Q Q (RN Q Q (SC (.d _) (SC (.d _) SN)) (gU hr6)) (SA TK Q (SA TK Q (SA TK Q (TN (WT ?_)))));exact⟨_,[0,1],(SJ hm),Q,k0,Q⟩
  replace hm:=JA hq4 hm;iterate 12 (refine SA TK Q ?_)
  refine TN (WT ?_);exact⟨_,[0,1],(SJ hm),Q,k0,Q⟩
 refine WN [2,3,26] Q Q ?_;refine TC _ Q (λh7=>?_) (λh7=>?_)
 ·replace hm:=JA h7 hm;refine RS (SA TK Q (TN (WN [4] Q Q (TR (WR ?_)))));obtain rfl:=OJ hm;exact EndsS.one _ Q (.d _) (.refl _)
 replace hm:=JB h7 hm;refine TS (WT (WN [2,3] Q Q (TQ ?_)));refine kJ [(42,.d (.bool (((decide ((p1.path.length:Int) < (1:Int)))||((decide ((12:Int) < (p1.path.length:Int)))||(decide ((p1.sections.length:Int)=(0:Int))))))))] [42] [2,3] Q ?_ ?_
 ·refine TG (SA TK Q (SA TK Q (SX Q Q (aP TK Q Q Q) (SA TK Q (SB TK Q (λq8 hq8=>?_))))));cases q8
  ·refine SA TK Q (SA TK Q (SX Q Q (aP TK Q Q Q) (SA TK Q (SA TK Q (SB TK Q (λq9 hq9=>?_))))));cases q9
   ·refine SA TK Q (SA TK Q (SX Q Q (aP TK Q Q Q) (SA TK Q (SA TK Q (TN (WT ?_))))));exact⟨[0,1],Q,k0,dJ (bK (bL (by simp [hq8,hq9])) Q) Q⟩
   iterate 5 (refine SA TK Q ?_)
   refine TN (WT ?_);exact⟨[0,1],Q,k0,dJ (bK (bL (by simp [hq8,hq9])) Q) Q⟩
  iterate 11 (refine SA TK Q ?_)
  refine TN (WT ?_);exact⟨[0,1],Q,k0,dJ (bK (bL (by simp [hq8])) Q) Q⟩
 refine WN [2,3,42] Q Q ?_;refine TC _ Q (λh10=>?_) (λh10=>?_)
 ·replace hm:=JA h10 hm;refine RS (SA TK Q (TN (WN [4] Q Q (TR (WR ?_)))));obtain rfl:=OJ hm;exact EndsS.one _ Q (.d _) (.refl _)
 replace hm:=JB h10 hm;refine TS (WT (WN [2,3] Q Q (RS (s_ala (f:=D.bool) (x:=false) 2 23 Q Q zID Q Q Q (TN (WN [2,3,5] Q Q ?_))))));refine cM hm (λb11=>([]:Fr)) (λb11=>([(2,.flat 175 1 (b11.map D.bool))]:List (Nat×Blk))) [] [2,3] Q (λz12 hm hz12=>?_) (λb11 hm=>?_)
 ·refine RS ?_;iterate 4 (refine SA TK Q ?_)
  refine SX Q Q (fX [.tmp 44,.tmp 46] TK Q Q qGW Q Q Q Q Q) (BE hm λr13 hr13 hm=>SX Q Q (RN Q Q (SC (.d _) SN) (kM hr13)) (SX Q Q (aP TK Q Q Q) (SA TK Q (TN (WN [2,3,5,48,49,50] Q Q (TB (aZ hm (λ(x17,b18)=>([(50,.d (.int .i64 x17))]:Fr)) (λ(x17,b18)=>([(2,.flat 175 1 (b18.map D.bool))]:List (Nat×Blk))) [50] [2,3,5,48,49] [0,1,2] Q k0 Q Q Q Q Q (λs z19 hm hz19=>?_))))))));obtain⟨x17,b18⟩:=s;refine WN [2,3,5,48,49,50] Q Q (RS (SA TK Q (TN (WN [2,3,5,48,49,50,51] Q Q (TQ ?_)))));refine TC _ Q (λh20=>?_) (λh20=>?_)
  ·replace hm:=JT h20 hm;refine TS (WT (WN [2,3,5,48,49,50] Q Q (TQ (TB (RS (VE hm λe21 he21 hm=>SX Q Q (bZ TK Q Q Q Q he21) (SA TK Q (SA TK Q ?_))))))));refine TN (WN [2,3,5,7,48,49,50] Q Q (TQ ?_));refine aL hm (λx22=>([(63,.d (.bool (x22)))]:Fr)) (λx22=>([]:List (Nat×Blk))) [63] [2,3,5,7,48,49,50] Q (λz23 hm=>?_) (λx22 hm=>?_)
   ·refine TG (SA TK Q (SA TK Q (SA TK Q (BE hm λr24 hr24 hm=>SX Q Q (RN Q Q (SC (.d _) (SC (.d _) SN)) (gU hr24)) (SA TK Q (SB TK Q (λq25 hq25=>?_)))))));cases q25
    ·replace hm:=JB hq25 hm;refine SA TK Q (GE hm λg27 hm=>VE hm λe26 he26 hm=>SX Q Q (zNP Q qYR Q Q he26 g27) (SX Q Q (qGX TK Q Q Q Q he26.2 Q) (SA TK Q (TN (WT ?_)))));exact⟨_,[0,1,2],(SJ hm),Q,k0,Q⟩
    replace hm:=JA hq25 hm;iterate 4 (refine SA TK Q ?_)
    refine TN (WT ?_);exact⟨_,[0,1,2],(SJ hm),Q,k0,Q⟩
   refine WN [2,3,5,7,48,49,50,63] Q Q ?_;refine TC _ Q (λh28=>?_) (λh28=>?_)
   ·replace hm:=JA h28 hm;refine RS (SA TK Q (TN (WN [4] Q Q (TR (WR (WB (WR (IE hm λv29 hm hz=>?_))))))));rw [hz19 _ hz] at hm;refine WR (WB (IE hm λv30 hm hz=>?_));rw [hz12 _ hz] at hm;refine WR ?_;obtain rfl:=OJ hm;exact EndsS.one _ Q (.d _) (.refl _)
   replace hm:=JB h28 hm;refine TS (WT (WN [2,3,5,7,48,49,50] Q Q (TG (SA TK Q (GE hm λg32 hm=>VE hm λe31 he31 hm=>SX Q Q (zNP Q qYR Q Q he31 g32) (wY (x':=true) TK Q Q Q Q Q he31.2 Q Q Q ?_))))));refine TN (WK (WT (WN [2,3,5,48,49,50] Q Q (TG (GE hm λg33 hm=>SX Q Q (aY Q Q Q Q g33) (SA TK Q (TN ?_)))))));refine WT ?_;exact⟨_,[0,1,2],(SJ hm),Q,k0,Q⟩
  replace hm:=JF h20 hm;refine aI (WX (IE hm λv34 hm hz=>?_));rw [hz19 _ hz] at hm;refine WX (WH (WT ?_));exact⟨_,[0,1,2],(SJ hm),Q,k0,Q⟩
 refine WN [2,3] Q Q ?_;refine aL hm (λx35=>([(4,.d (.bool (x35)))]:Fr)) (λx35=>([]:List (Nat×Blk))) [4] [] Q (λz36 hm=>?_) (λx35 hm=>?_)
 ·refine TG ?_;iterate 4 (refine SA TK Q ?_)
  refine BE hm λr37 hr37 hm=>SX Q Q (RN Q Q (SC (.d _) (SC (.d _) SN)) (gU hr37)) (SB TK Q (λq38 hq38=>?_));cases q38
  ·replace hm:=JB hq38 hm;iterate 5 (refine SA TK Q ?_)
   refine TN (WT ?_);exact⟨_,[0,1,2],(SJ hm),Q,k0,Q⟩
  replace hm:=JA hq38 hm;iterate 5 (refine SA TK Q ?_)
  refine TN (WT ?_);exact⟨_,[0,1,2],(SJ hm),Q,k0,Q⟩
 refine WN [4] Q Q (TR ?_);obtain rfl:=OJ hm;exact EndsS.one _ Q (.d _) (.refl _)
theorem jA {p0:(List Int)} {p1:Int} {r:Int} (hm:dO p0 p1=some r):RetN Tryz.prog 122 [.sl 1 (p0.map (D.int .i64)),.int .i64 p1] (.int .i64 r):=by
 refine .unit (aJ zHH Tryz.func122 Q Tryz.ntmps122 Q Q (λwX gX=>?_)) Q;unfold dO at hm;refine WN [0,1] Q Q (RS (SA TK Q (TN (WN [0,1] Q Q ?_))));refine cM hm (λ_=>([]:Fr)) (λ_=>([]:List (Nat×Blk))) [] [] Q (λz1 hm hz1=>?_) (λj hm=>?_)
 ·refine RS (SA TK Q (SX Q Q (aP TK Q Q Q) (SA TK Q (TN (WN [0,1,7,8] Q Q (TB (aZ hm (λx3=>([(8,.d (.int .i64 x3))]:Fr)) (λx3=>([]:List (Nat×Blk))) [8] [0,1,7] [] Q k0 Q Q Q Q Q (λx3 z4 hm hz4=>WN [0,1,7,8] Q Q ?_))))))));refine RS (SA TK Q (TN (WN [0,1,7,8,9] Q Q (TQ ?_))));refine TC _ Q (λh5=>?_) (λh5=>?_)
  ·replace hm:=JT h5 hm;refine TS (WT (WN [0,1,7,8] Q Q (TQ (TB (RS (SA TK Q (SA TK Q (TN (WN [0,1,5,7,8] Q Q ?_)))))))));refine RS (SA TK Q (SA TK Q (SA TK Q (VE hm λe6 he6 hm=>SX Q Q (bZ TK Q Q Q Q he6) (SA TK Q (SA TK Q (TN (WN [0,1,5,7,8,16] Q Q ?_))))))));refine TC _ Q (λh7=>?_) (λh7=>?_)
   ·replace hm:=JT h7 hm;refine RS (SA TK Q (SA TK Q (TN (WN [4] Q Q (TR (WB (WR (IE hm λv8 hm hz=>?_))))))));rw [hz4 _ hz] at hm;refine WR (WB (IE hm λv9 hm hz=>?_));rw [hz1 _ hz] at hm;refine WR ?_;obtain rfl:=OJ hm;exact EndsS.one _ Q (.d _) (.refl _)
   replace hm:=JF h7 hm;refine TS (WK (WT (WN [0,1,7,8] Q Q (TG (GE hm λg10 hm=>SX Q Q (aY Q Q Q Q g10) (SA TK Q (TN ?_)))))));refine WT ?_;exact⟨_,[],(SJ hm),Q,k0,Q⟩
  replace hm:=JF h5 hm;refine aI (WX (IE hm λv11 hm hz=>?_));rw [hz4 _ hz] at hm;refine WX (WH (WT ?_));exact⟨_,[],(SJ hm),Q,k0,Q⟩
 refine WN [] Q Q (RS (SA TK Q (TN (WN [4] Q Q (TR ?_)))));obtain rfl:=OJ hm;exact EndsS.one _ Q (.d _) (.refl _)
theorem fW {p0:Table} {p1:Int} {r:Int} (hm:eK p0 p1=some r):RetN Tryz.prog 95 [p0.enc,.int .i64 p1] (.int .i64 r):=by
 refine .unit (aJ zKS Tryz.func95 Q Tryz.ntmps95 Q Q (λwX gX=>?_)) Q;unfold eK at hm;refine WN [0,1] Q Q (RS (cZ 0 Q Q Q (SA TK Q (TN (WN [1,2] Q Q (RS (SA TK Q (SA TK Q (SA TK Q (BE hm λr1 hr1 hm=>?_))))))))));refine SX Q Q (RN Q Q (SC (.d _) (SC (.d _) SN)) (jA hr1)) (SA TK Q (TN (WN [4] Q Q (TR ?_))));obtain rfl:=OJ hm;exact EndsS.one _ Q (.d _) (.refl _)
theorem lO {p0:Table} {p1:(List Setting)} {r:Bool} (hm:dM p0 p1=some r):RetN Tryz.prog 120 [p0.enc,.sl 2 (p1.map Setting.enc)] (.bool (r)):=by
 refine .unit (aJ zHJ Tryz.func120 Q Tryz.ntmps120 Q Q (λwX gX=>?_)) Q;unfold dM at hm;refine WN [0,1] Q Q (RS (cZ 0 Q Q Q (SA TK Q (TN (WN [1,2] Q Q ?_)))));refine cM hm (λ_=>([]:Fr)) (λ_=>([]:List (Nat×Blk))) [] [] Q (λz1 hm hz1=>?_) (λj hm=>?_)
 ·refine RS (SA TK Q (SX Q Q (aP TK Q Q Q) (SA TK Q (TN (WN [1,2,7,8,9] Q Q (TB (aZ hm (λx3=>([(9,.d (.int .i64 x3))]:Fr)) (λx3=>([]:List (Nat×Blk))) [9] [1,2,7,8] [0] Q k0 Q Q Q Q Q (λx3 z4 hm hz4=>WN [1,2,7,8,9] Q Q ?_))))))));refine RS (SA TK Q (TN (WN [1,2,7,8,9,10] Q Q (TQ ?_))));refine TC _ Q (λh5=>?_) (λh5=>?_)
  ·replace hm:=JT h5 hm;refine TS (WT (WN [1,2,7,8,9] Q Q (TQ (TB (RS (SA TK Q (VE hm λe6 he6 hm=>SX Q Q (bZ TK Q Q Q Q he6) ?_)))))));refine SA TK Q (cW 1 Q Q gQ Q (SA TK Q (SA TK Q (TN (WN [1,2,5,6,7,8,9] Q Q (TQ ?_))))));refine aL hm (λx7=>([(33,.d (.bool (x7)))]:Fr)) (λx7=>([]:List (Nat×Blk))) [33] [1,2,6,7,8,9] Q (λz8 hm=>?_) (λx7 hm=>?_)
   ·refine cU follows  ?_;iterate 2 (refine DA [0,1] TK Q ?_)
    refine d_b [0,1] TK Q (λq9 hq9=>?_);cases q9
    ·replace hm:=JF hq9 hm;iterate 14 (refine DA [0,1] TK Q ?_)
     refine BE hm λr10 hr10 hm=>DX [0,1] Q Q (RN Q Q (SC (.d _) (SC (.d _) SN)) (fW hr10)) ?_;iterate 2 (refine DA [0,1] TK Q ?_)
     refine DT ?_ (by kernel_rfl);refine TN (WT ?_);exact⟨_,[0,1],(SJ hm),Q,k0,Q⟩
    replace hm:=JT hq9 hm;iterate 4 (refine DA [0,1] TK Q ?_)
    refine GE hm λg11 hm=>DX [0,1] Q Q (aY Q Q Q Q g11) (VE hm λe12 he12 hm=>DX [0,1] Q Q (bZ TK Q Q Q Q he12) ?_);iterate 4 (refine DA [0,1] TK Q ?_)
    refine d_b [0,1] TK Q (λq13 hq13=>?_);cases q13
    ·replace hm:=JF hq13 hm;iterate 3 (refine DA [0,1] TK Q ?_)
     refine BE hm λr14 hr14 hm=>DX [0,1] Q Q (RN Q Q (SC (.d _) (SC (.d _) SN)) (fW hr14)) ?_;iterate 2 (refine DA [0,1] TK Q ?_)
     refine DT ?_ (by kernel_rfl);refine TN (WT ?_);exact⟨_,[0,1],(SJ hm),Q,k0,Q⟩
    replace hm:=JT hq13 hm;iterate 6 (refine DA [0,1] TK Q ?_)
    refine DT ?_ (by kernel_rfl);refine TN (WT ?_);exact⟨_,[0,1],(SJ hm),Q,k0,Q⟩
   refine WN [1,2,6,7,8,9,33] Q Q ?_;refine TC _ Q (λh15=>?_) (λh15=>?_)
   ·replace hm:=JA h15 hm;refine RS (SA TK Q (TN (WN [4] Q Q (TR (WR (WB (WR (IE hm λv16 hm hz=>?_))))))));rw [hz4 _ hz] at hm;refine WR (WB (IE hm λv17 hm hz=>?_));rw [hz1 _ hz] at hm;refine WR ?_;obtain rfl:=OJ hm;exact EndsS.one _ Q (.d _) (.refl _)
   replace hm:=JB h15 hm;refine TS (WT (WN [1,2,6,7,8,9] Q Q ?_));refine kJ [(41,.d (.bool (((!(decide (e6.pos=(1:Int))))&&(!(decide (e6.pos=(2:Int))))))))] [41] [1,2,7,8,9] Q ?_ ?_
   ·refine TG (SA TK Q (SA TK Q (SA TK Q (SB TK Q (λq18 hq18=>?_)))));cases q18
    ·iterate 4 (refine SA TK Q ?_)
     refine TN (WT ?_);exact⟨[0,1],Q,k0,dJ (bK (bL (by simp [hq18])) Q) Q⟩
    iterate 4 (refine SA TK Q ?_)
    refine TN (WT ?_);exact⟨[0,1],Q,k0,dJ (bK (bL (by simp [hq18])) Q) Q⟩
   refine WN [1,2,7,8,9,41] Q Q ?_;refine TC _ Q (λh19=>?_) (λh19=>?_)
   ·replace hm:=JA h19 hm;refine RS (SA TK Q (TN (WN [4] Q Q (TR (WB (WR (IE hm λv20 hm hz=>?_)))))));rw [hz4 _ hz] at hm;refine WR (WB (IE hm λv21 hm hz=>?_));rw [hz1 _ hz] at hm;refine WR ?_;obtain rfl:=OJ hm;exact EndsS.one _ Q (.d _) (.refl _)
   replace hm:=JB h19 hm;refine TS (WK (WT (WN [1,2,7,8,9] Q Q (TG (GE hm λg22 hm=>SX Q Q (aY Q Q Q Q g22) (SA TK Q (TN ?_)))))));refine WT ?_;exact⟨_,[0],(SJ hm),Q,k0,Q⟩
  replace hm:=JF h5 hm;refine aI (WX (IE hm λv23 hm hz=>?_));rw [hz4 _ hz] at hm;refine WX (WH (WT ?_));exact⟨_,[0],(SJ hm),Q,k0,Q⟩
 refine WN [] Q Q (RS (SA TK Q (TN (WN [4] Q Q (TR ?_)))));obtain rfl:=OJ hm;exact EndsS.one _ Q (.d _) (.refl _)
theorem mV {p0:(List Setting)} {p1:(List Setting)} {r:Bool} (hm:eU p0 p1=some r):RetN Tryz.prog 121 [.sl 2 (p0.map Setting.enc),.sl 2 (p1.map Setting.enc)] (.bool (r)):=by
 refine .unit (aJ zHI Tryz.func121 Q Tryz.ntmps121 Q Q (λwX gX=>?_)) Q;unfold eU at hm;refine WN [0,1] Q Q (RS (SA TK Q (TN (WN [0,1] Q Q ?_))));refine cM hm (λ_=>([]:Fr)) (λ_=>([]:List (Nat×Blk))) [] [] Q (λz1 hm hz1=>?_) (λj hm=>?_)
 ·refine RS (SA TK Q (SX Q Q (aP TK Q Q Q) (SA TK Q (TN (WN [1,9,10,11] Q Q (TB (aZ hm (λx3=>([(11,.d (.int .i64 x3))]:Fr)) (λx3=>([]:List (Nat×Blk))) [11] [1,9,10] [] Q k0 Q Q Q Q Q (λx3 z4 hm hz4=>WN [1,9,10,11] Q Q ?_))))))));refine RS (SA TK Q (TN (WN [1,9,10,11,12] Q Q (TQ ?_))));refine TC _ Q (λh5=>?_) (λh5=>?_)
  ·replace hm:=JT h5 hm;refine TS (WT (WN [1,9,10,11] Q Q ?_));refine cM hm (λ_=>([]:Fr)) (λ_=>([]:List (Nat×Blk))) [] [1,9,10,11] Q (λz6 hm hz6=>?_) (λj hm=>?_)
   ·refine TB (RS (VE hm λe7 he7 hm=>SX Q Q (bZ TK Q Q Q Q he7) (SA TK Q (cW 0 Q Q gQ Q (SA TK Q (TN (WN [1,6,9,10,11] Q Q ?_)))))));refine RS (SA TK Q (SX Q Q (aP TK Q Q Q) (SA TK Q (TN (WN [1,6,9,10,11,15,16,17] Q Q (TB (aZ hm (λx9=>([(17,.d (.int .i64 x9))]:Fr)) (λx9=>([]:List (Nat×Blk))) [17] [1,6,9,10,11,15,16] [0] Q k0 Q Q Q Q Q (λx9 z10 hm hz10=>WN [1,6,9,10,11,15,16,17] Q Q ?_))))))));refine RS (SA TK Q (TN (WN [1,6,9,10,11,15,16,17,18] Q Q (TQ ?_))));refine TC _ Q (λh11=>?_) (λh11=>?_)
    ·replace hm:=JT h11 hm;refine TS (WT (WN [1,6,9,10,11,15,16,17] Q Q (TQ (TB (RS (VE hm λe12 he12 hm=>SX Q Q (bZ TK Q Q Q Q he12) (SA TK Q ?_)))))));refine cW 1 Q Q gQ Q (SA TK Q (TN (WN [1,6,8,9,10,11,15,16,17] Q Q ?_)));refine kJ [(32,.d (.bool (((decide (e7.el=e12.el))&&(!(decide (e7.pos=e12.pos)))))))] [32] [1,6,9,10,11,15,16,17] Q ?_ ?_
     ·refine TG ?_;iterate 5 (refine SA TK Q ?_)
      refine SB TK Q (λq13 hq13=>?_);cases q13
      ·iterate 6 (refine SA TK Q ?_)
       refine TN (WT ?_);exact⟨[0,1],Q,k0,dJ (bK (bL (by simp [hq13])) Q) Q⟩
      iterate 6 (refine SA TK Q ?_)
      refine TN (WT ?_);exact⟨[0,1],Q,k0,dJ (bK (bL (by simp [hq13])) Q) Q⟩
     refine WN [1,6,9,10,11,15,16,17,32] Q Q ?_;refine TC _ Q (λh14=>?_) (λh14=>?_)
     ·replace hm:=JA h14 hm;refine RS (SA TK Q (TN (WN [4] Q Q (TR (WB (WR (IE hm λv15 hm hz=>?_)))))));rw [hz10 _ hz] at hm;refine WR (WB (WB (IE hm λv16 hm hz=>?_)));rw [hz6 _ hz] at hm;refine WR (IE hm λv17 hm hz=>?_);rw [hz4 _ hz] at hm;refine WR (WB (IE hm λv18 hm hz=>?_));rw [hz1 _ hz] at hm;refine WR ?_;obtain rfl:=OJ hm;exact EndsS.one _ Q (.d _) (.refl _)
     replace hm:=JB h14 hm;refine TS (WK (WT (WN [1,6,9,10,11,15,16,17] Q Q (TG (GE hm λg19 hm=>SX Q Q (aY Q Q Q Q g19) (SA TK Q (TN ?_)))))));refine WT ?_;exact⟨_,[0],(SJ hm),Q,k0,Q⟩
    replace hm:=JF h11 hm;refine aI (WX (IE hm λv20 hm hz=>?_));rw [hz10 _ hz] at hm;refine WX (WH (WK (WT ?_)));exact⟨_,[],(SJ hm),Q,k0,Q⟩
   refine WN [1,9,10,11] Q Q (TG (GE hm λg21 hm=>SX Q Q (aY Q Q Q Q g21) (SA TK Q (TN (WT ?_)))));exact⟨_,[],(SJ hm),Q,k0,Q⟩
  replace hm:=JF h5 hm;refine aI (WX (IE hm λv22 hm hz=>?_));rw [hz4 _ hz] at hm;refine WX (WH (WT ?_));exact⟨_,[],(SJ hm),Q,k0,Q⟩
 refine WN [] Q Q (RS (SA TK Q (TN (WN [4] Q Q (TR ?_)))));obtain rfl:=OJ hm;exact EndsS.one _ Q (.d _) (.refl _)
theorem kE {p0:Table} {r:Int} (hm:gW p0=some r):RetN Tryz.prog 54 [p0.enc] (.int .i64 r):=by
 refine .unit (aJ zMA Tryz.func54 Q Tryz.ntmps54 Q Q (λwX gX=>?_)) Q;unfold gW at hm;refine WN [0] Q Q (RS (cZ 0 Q Q Q (SA TK Q (TN (WN [1] Q Q (TQ ?_))))));refine aL hm (λx1=>([(33,.d (.bool (x1)))]:Fr)) (λx1=>([]:List (Nat×Blk))) [33] [1] Q (λz2 hm=>?_) (λx1 hm=>?_)
 ·refine TG (SA TK Q (SA TK Q (SX Q Q (aP TK Q Q Q) (SA TK Q (SB TK Q (λq3 hq3=>?_))))));cases q3
  ·replace hm:=JF hq3 hm;refine SA TK Q (SA TK Q (SX Q Q (aP TK Q Q Q) (SA TK Q (SA TK Q (SB TK Q (λq4 hq4=>?_))))));cases q4
   ·replace hm:=JF hq4 hm;refine SA TK Q (SA TK Q (BE hm λr5 hr5 hm=>SX Q Q (RN Q Q (SC (.d _) (SC (.d _) SN)) (gU hr5)) (SA TK Q (SA TK Q (SB TK Q (λq6 hq6=>?_))))));cases q6
    ·replace hm:=JB hq6 hm;refine SA TK Q (SA TK Q (BE hm λr7 hr7 hm=>SX Q Q (RN Q Q (SC (.d _) (SC (.d _) SN)) (gU hr7)) (SA TK Q (SA TK Q (TN (WT ?_))))));exact⟨_,[0],(SJ hm),Q,k0,Q⟩
    replace hm:=JA hq6 hm;iterate 5 (refine SA TK Q ?_)
    refine TN (WT ?_);exact⟨_,[0],(SJ hm),Q,k0,Q⟩
   replace hm:=JT hq4 hm;iterate 11 (refine SA TK Q ?_)
   refine TN (WT ?_);exact⟨_,[0],(SJ hm),Q,k0,Q⟩
  replace hm:=JT hq3 hm;iterate 17 (refine SA TK Q ?_)
  refine TN (WT ?_);exact⟨_,[0],(SJ hm),Q,k0,Q⟩
 refine WN [1,33] Q Q ?_;refine TC _ Q (λh8=>?_) (λh8=>?_)
 ·replace hm:=JA h8 hm;refine RS (SA TK Q (TN (WN [2] Q Q (TR (WR ?_)))));obtain rfl:=OJ hm;exact EndsS.one _ Q (.d _) (.refl _)
 replace hm:=JB h8 hm;refine TS (WT (WN [1] Q Q (TQ (RS (SA TK Q (BE hm λr9 hr9 hm=>SX Q Q (RN Q Q (SC (.d _) SN) (zG hr9)) (SA TK Q ?_)))))));refine TN (WN [1,36] Q Q ?_);refine TC _ Q (λh10=>?_) (λh10=>?_)
 ·replace hm:=JA h10 hm;refine RS (SA TK Q (TN (WN [2] Q Q (TR (WR ?_)))));obtain rfl:=OJ hm;exact EndsS.one _ Q (.d _) (.refl _)
 replace hm:=JB h10 hm;refine TS (WT (WN [1] Q Q ?_));refine cM hm (λ_=>([]:Fr)) (λ_=>([]:List (Nat×Blk))) [] [1] Q (λz11 hm hz11=>?_) (λj hm=>?_)
 ·refine RS (SA TK Q (SA TK Q (SX Q Q (aP TK Q Q Q) (SA TK Q (TN (WN [1,38,39,40] Q Q (TB (aZ hm (λx13=>([(40,.d (.int .i64 x13))]:Fr)) (λx13=>([]:List (Nat×Blk))) [40] [1,38,39] [0] Q k0 Q Q Q Q Q (λx13 z14 hm hz14=>WN [1,38,39,40] Q Q ?_)))))))));refine RS (SA TK Q (TN (WN [1,38,39,40,41] Q Q (TQ ?_))));refine TC _ Q (λh15=>?_) (λh15=>?_)
  ·replace hm:=JT h15 hm;refine TS (WT (WN [1,38,39,40] Q Q (TQ (TB (RS (VE hm λe16 he16 hm=>SX Q Q (bZ TK Q Q Q Q he16) (SA TK Q ?_)))))));refine cW 1 Q Q jK Q (dK 1 [none,none,none,some 3,some 2,some 1,none,none,some 3,some 2,some 1,some 2,some 1,some 2] Q Q (SA TK Q (TN (WN [1,4,38,39,40] Q Q (RS (SA TK Q (SA TK Q (BE hm λr17 hr17 hm=>SX Q Q (RN Q Q (SC (.d _) (SC (.d _) SN)) (qAE hr17)) ?_))))))));refine SA TK Q (TN (WN [1,38,39,40,47] Q Q ?_));refine TC _ Q (λh18=>?_) (λh18=>?_)
   ·replace hm:=JA h18 hm;refine RS (SA TK Q (TN (WN [2] Q Q (TR (WB (WR (IE hm λv19 hm hz=>?_)))))));rw [hz14 _ hz] at hm;refine WR (WB (IE hm λv20 hm hz=>?_));rw [hz11 _ hz] at hm;refine WR ?_;obtain rfl:=OJ hm;exact EndsS.one _ Q (.d _) (.refl _)
   replace hm:=JB h18 hm;refine TS (WK (WT (WN [1,38,39,40] Q Q (TG (GE hm λg21 hm=>SX Q Q (aY Q Q Q Q g21) (SA TK Q (TN ?_)))))));refine WT ?_;exact⟨_,[0],(SJ hm),Q,k0,Q⟩
  replace hm:=JF h15 hm;refine aI (WX (IE hm λv22 hm hz=>?_));rw [hz14 _ hz] at hm;refine WX (WH (WT ?_));exact⟨_,[0],(SJ hm),Q,k0,Q⟩
 refine WN [1] Q Q ?_;refine cM hm (λ_=>([]:Fr)) (λ_=>([]:List (Nat×Blk))) [] [1] Q (λz23 hm hz23=>?_) (λj hm=>?_)
 ·refine RS (SA TK Q (SA TK Q (SX Q Q (aP TK Q Q Q) (SA TK Q (TN (WN [1,50,51,52] Q Q (TB (aZ hm (λx25=>([(52,.d (.int .i64 x25))]:Fr)) (λx25=>([]:List (Nat×Blk))) [52] [1,50,51] [0] Q k0 Q Q Q Q Q (λx25 z26 hm hz26=>WN [1,50,51,52] Q Q ?_)))))))));refine RS (SA TK Q (TN (WN [1,50,51,52,53] Q Q (TQ ?_))));refine TC _ Q (λh27=>?_) (λh27=>?_)
  ·replace hm:=JT h27 hm;refine TS (WT (WN [1,50,51,52] Q Q (TQ (TB (RS (VE hm λe28 he28 hm=>SX Q Q (bZ TK Q Q Q Q he28) (SA TK Q ?_)))))));refine cW 1 Q Q jK Q (dK 1 [none,none,none,some 3,some 2,some 1,none,none,some 3,some 2,some 1,some 2,some 1,some 2] Q Q (SA TK Q (TN (WN [1,6,50,51,52] Q Q ?_))));refine aL hm (λx29=>([(74,.d (.bool (x29)))]:Fr)) (λx29=>([]:List (Nat×Blk))) [74] [1,50,51,52] Q (λz30 hm=>?_) (λx29 hm=>?_)
   ·refine TG (SA TK Q (SA TK Q (SA TK Q (BE hm λr31 hr31 hm=>SX Q Q (RN Q Q (SC (.d _) (SC (.d _) SN)) (lO hr31)) (SA TK Q (SB TK Q (λq32 hq32=>?_)))))));cases q32
    ·replace hm:=JB hq32 hm;refine SA TK Q (SA TK Q (SA TK Q (BE hm λr33 hr33 hm=>SX Q Q (RN Q Q (SC (.d _) (SC (.d _) SN)) (lO hr33)) (SA TK Q (SA TK Q (SB TK Q (λq34 hq34=>?_)))))));cases q34
     ·replace hm:=JB hq34 hm;refine SA TK Q (SA TK Q (SA TK Q (BE hm λr35 hr35 hm=>SX Q Q (RN Q Q (SC (.d _) (SC (.d _) SN)) (lO hr35)) (SA TK Q (SA TK Q (TN (WT ?_)))))));exact⟨_,[0,1],(SJ hm),Q,k0,Q⟩
     replace hm:=JA hq34 hm;iterate 6 (refine SA TK Q ?_)
     refine TN (WT ?_);exact⟨_,[0,1],(SJ hm),Q,k0,Q⟩
    replace hm:=JA hq32 hm;iterate 13 (refine SA TK Q ?_)
    refine TN (WT ?_);exact⟨_,[0,1],(SJ hm),Q,k0,Q⟩
   refine WN [1,50,51,52,74] Q Q ?_;refine TC _ Q (λh36=>?_) (λh36=>?_)
   ·replace hm:=JA h36 hm;refine RS (SA TK Q (TN (WN [2] Q Q (TR (WB (WR (IE hm λv37 hm hz=>?_)))))));rw [hz26 _ hz] at hm;refine WR (WB (IE hm λv38 hm hz=>?_));rw [hz23 _ hz] at hm;refine WR ?_;obtain rfl:=OJ hm;exact EndsS.one _ Q (.d _) (.refl _)
   replace hm:=JB h36 hm;refine TS (WK (WT (WN [1,50,51,52] Q Q (TG (GE hm λg39 hm=>SX Q Q (aY Q Q Q Q g39) (SA TK Q (TN ?_)))))));refine WT ?_;exact⟨_,[0],(SJ hm),Q,k0,Q⟩
  replace hm:=JF h27 hm;refine aI (WX (IE hm λv40 hm hz=>?_));rw [hz26 _ hz] at hm;refine WX (WH (WT ?_));exact⟨_,[0],(SJ hm),Q,k0,Q⟩
 refine WN [1] Q Q ?_;refine cM hm (λ_=>([]:Fr)) (λ_=>([]:List (Nat×Blk))) [] [1] Q (λz41 hm hz41=>?_) (λj hm=>?_)
 ·refine RS (SA TK Q (SA TK Q (SX Q Q (aP TK Q Q Q) (SA TK Q (TN (WN [1,77,78,79] Q Q (TB (aZ hm (λx43=>([(79,.d (.int .i64 x43))]:Fr)) (λx43=>([]:List (Nat×Blk))) [79] [1,77,78] [0] Q k0 Q Q Q Q Q (λx43 z44 hm hz44=>WN [1,77,78,79] Q Q ?_)))))))));refine RS (SA TK Q (TN (WN [1,77,78,79,80] Q Q (TQ ?_))));refine TC _ Q (λh45=>?_) (λh45=>?_)
  ·replace hm:=JT h45 hm;refine TS (WT (WN [1,77,78,79] Q Q (TQ (TB (RS (VE hm λe46 he46 hm=>SX Q Q (bZ TK Q Q Q Q he46) (SA TK Q ?_)))))));refine cW 1 Q Q jK Q (dK 1 [none,none,none,some 3,some 2,some 1,none,none,some 3,some 2,some 1,some 2,some 1,some 2] Q Q (SA TK Q (TN (WN [1,8,77,78,79] Q Q ?_))));refine aL hm (λx47=>([(104,.d (.bool (x47)))]:Fr)) (λx47=>([]:List (Nat×Blk))) [104] [1,77,78,79] Q (λz48 hm=>?_) (λx47 hm=>?_)
   ·refine TG ?_;iterate 4 (refine SA TK Q ?_)
    refine BE hm λr49 hr49 hm=>SX Q Q (RN Q Q (SC (.d _) (SC (.d _) SN)) (mV hr49)) (SA TK Q (SB TK Q (λq50 hq50=>?_)));cases q50
    ·replace hm:=JB hq50 hm;iterate 4 (refine SA TK Q ?_)
     refine BE hm λr51 hr51 hm=>SX Q Q (RN Q Q (SC (.d _) (SC (.d _) SN)) (mV hr51)) (SA TK Q (SA TK Q (SB TK Q (λq52 hq52=>?_))));cases q52
     ·replace hm:=JB hq52 hm;iterate 4 (refine SA TK Q ?_)
      refine BE hm λr53 hr53 hm=>SX Q Q (RN Q Q (SC (.d _) (SC (.d _) SN)) (mV hr53)) (SA TK Q (SA TK Q (TN (WT ?_))));exact⟨_,[0,1],(SJ hm),Q,k0,Q⟩
     replace hm:=JA hq52 hm;iterate 7 (refine SA TK Q ?_)
     refine TN (WT ?_);exact⟨_,[0,1],(SJ hm),Q,k0,Q⟩
    replace hm:=JA hq50 hm;iterate 15 (refine SA TK Q ?_)
    refine TN (WT ?_);exact⟨_,[0,1],(SJ hm),Q,k0,Q⟩
   refine WN [1,77,78,79,104] Q Q ?_;refine TC _ Q (λh54=>?_) (λh54=>?_)
   ·replace hm:=JA h54 hm;refine RS (SA TK Q (TN (WN [2] Q Q (TR (WB (WR (IE hm λv55 hm hz=>?_)))))));rw [hz44 _ hz] at hm;refine WR (WB (IE hm λv56 hm hz=>?_));rw [hz41 _ hz] at hm;refine WR ?_;obtain rfl:=OJ hm;exact EndsS.one _ Q (.d _) (.refl _)
   replace hm:=JB h54 hm;refine TS (WK (WT (WN [1,77,78,79] Q Q (TG (GE hm λg57 hm=>SX Q Q (aY Q Q Q Q g57) (SA TK Q (TN ?_)))))));refine WT ?_;exact⟨_,[0],(SJ hm),Q,k0,Q⟩
  replace hm:=JF h45 hm;refine aI (WX (IE hm λv58 hm hz=>?_));rw [hz44 _ hz] at hm;refine WX (WH (WT ?_));exact⟨_,[0],(SJ hm),Q,k0,Q⟩
 refine WN [1] Q Q (RS (qZI 9 4 Q (qZJ 106 (.mmap 1) Q Q (SA TK Q (TN (WN [1,9] Q Q ?_))))));refine cM hm (λm59=>([]:Fr)) (λm59=>([(1,.map 9 4 (iK D.str D.bool m59))]:List (Nat×Blk))) [] [] Q (λz60 hm hz60=>?_) (λm59 hm=>?_)
 ·refine RS (SA TK Q (SA TK Q (SX Q Q (aP TK Q Q Q) (SA TK Q (TN (WN [9,108,109,110] Q Q (TB (aZ hm (λ(x64,b65)=>([(110,.d (.int .i64 x64))]:Fr)) (λ(x64,b65)=>([(1,.map 9 4 (iK D.str D.bool b65))]:List (Nat×Blk))) [110] [9,108,109] [0,1] Q k0 Q Q Q Q Q (λs z66 hm hz66=>?_)))))))));obtain⟨x64,b65⟩:=s;refine WN [9,108,109,110] Q Q (RS (SA TK Q (TN (WN [9,108,109,110,111] Q Q (TQ ?_)))));refine TC _ Q (λh67=>?_) (λh67=>?_)
  ·replace hm:=JT h67 hm;refine TS (WT (WN [9,108,109,110] Q Q (TQ (TB (RS (VE hm λe68 he68 hm=>SX Q Q (bZ TK Q Q Q Q he68) (SA TK Q ?_)))))));refine cW 2 Q Q jK Q (dK 2 [none,none,none,some 3,some 2,some 1,none,none,some 3,some 2,some 1,some 2,some 1,some 2] Q Q (SA TK Q (TN (WN [9,11,108,109,110] Q Q (TQ (RS (SA TK Q (SA TK Q (SA TK Q (GE hm λg69 hm=>?_))))))))));refine SX Q Q (zIE qSE D.bool _ _ false Q zEG oK Q Q Q Q g69) (TN (WN [9,11,108,109,110,117] Q Q ?_));refine TC _ Q (λh70=>?_) (λh70=>?_)
   ·replace hm:=JA h70 hm;refine RS (SA TK Q (TN (WN [2] Q Q (TR (WR (WB (WR (IE hm λv71 hm hz=>?_))))))));rw [hz66 _ hz] at hm;refine WR (WB (IE hm λv72 hm hz=>?_));rw [hz60 _ hz] at hm;refine WR ?_;obtain rfl:=OJ hm;exact EndsS.one _ Q (.d _) (.refl _)
   replace hm:=JB h70 hm;refine TS (WT (WN [9,11,108,109,110] Q Q (TG (SA TK Q (SA TK Q (SA TK Q (GE hm λg73 hm=>s_putE qSE D.bool zEG Q Q Q Q g73 (TN (WK ?_)))))))));refine WT (WN [9,108,109,110] Q Q (TG (GE hm λg74 hm=>SX Q Q (aY Q Q Q Q g74) (SA TK Q (TN (WT ?_))))));exact⟨_,[0,1],(SJ hm),Q,k0,Q⟩
  replace hm:=JF h67 hm;refine aI (WX (IE hm λv75 hm hz=>?_));rw [hz66 _ hz] at hm;refine WX (WH (WT ?_));exact⟨_,[0,1],(SJ hm),Q,k0,Q⟩
 refine WN [] Q Q (RS (SA TK Q (TN (WN [2] Q Q (TR ?_)))));obtain rfl:=OJ hm;exact EndsS.one _ Q (.d _) (.refl _)
theorem bV {p0:Numbering} {p1:Int} {r:Int} (hm:aT p0 p1=some r):RetN Tryz.prog 77 [p0.enc,.int .i64 p1] (.int .i64 r):=by
 refine .unit (aJ zLK Tryz.func77 Q Tryz.ntmps77 Q Q (λwX gX=>?_)) Q;unfold aT at hm;refine WN [0,1] Q Q (RS (cZ 0 Q Q Q (SA TK Q (TN (WN [1,2] Q Q (RS ?_))))));iterate 4 (refine SA TK Q ?_)
 refine VE hm λe1 he1 hm=>SX Q Q (bZ TK Q Q Q Q he1) (SA TK Q (SA TK Q (SX Q Q (aP TK Q Q Q) (GE hm λg2 hm=>SX Q Q (aY Q Q Q Q g2) (SA TK Q (TN (WN [4] Q Q ?_)))))));refine TR ?_;obtain rfl:=OJ hm;exact EndsS.one _ Q (.d _) (.refl _)
theorem pS {p0:Table} {r0:Numbering} {r1:Int} (hm:jF p0=some (r0,r1)):RetT Tryz.prog 30 [p0.enc] [r0.enc,.int .i64 r1]:=by
 refine .of (mv:=λ_=>false) (uM zMP Tryz.func30 Q Tryz.ntmps30 Q Q (λwX gX=>?_));unfold jF at hm;refine WN [0] Q Q (RS (cZ 0 Q Q Q (cW 1 Q Q wQ Q (gN (f:=(D.int .i64)) 1 6 2 3 1 Q Q Q (dK 1 [some 14,some 1,some 1,none,none,none,none,none,none] Q Q (SA TK Q (TN (WN [1,2] Q Q ?_))))))));refine TQ (RS (SA TK Q (BE hm λr1 hr1 hm=>SX Q Q (RN Q Q (SC (.d _) SN) (kE hr1)) (SA TK Q (TN (WN [1,2,4] Q Q (RS ?_)))))));refine SA TK Q (SA TK Q (TN (WN [1,2,4,10] Q Q ?_)));refine TC _ Q (λh2=>?_) (λh2=>?_)
 ·replace hm:=dS h2 hm;refine RS (SX Q Q (iF Q zDD wQ Q Q Q Q) (SA TK Q (SA TK Q (gN (f:=(D.int .i64)) 1 6 3 3 1 Q Q Q (dK 1 [some 14,some 1,some 1,none,none,none,none,none,none] Q Q (SA TK Q (TN (WN [2,3] Q Q (TR ?_)))))))));refine WR ?_;obtain⟨rfl,rfl⟩:=Prod.mk.inj (Option.some.inj hm);exact⟨_,.mk _ (.cons (.agg (TK.lay Q) Q Q Q Q) (.cons (.tmp 3) .nil)) Q,(.cons (iZ (.cons (.d _) Q (.cons (.d _) Q (.cons (.d _) Q (.cons (.d _) Q (.cons (.d _) Q (.cons (.d _) Q (.cons (dC Q) Q (.cons (.d _) Q (.cons (.d _) Q .nil)))))))))) (.refl _) (.cons (.d _) (.refl _) .nil))⟩
 replace hm:=dT h2 hm;refine TS (WT (WN [1,2] Q Q (RS (SA TK Q (SX Q Q (iF Q zDD wQ Q Q Q Q) (cW 3 Q Q wQ Q (gN (f:=(D.int .i64)) 3 6 4 3 1 Q Q Q (dK 3 [some 14,some 1,some 1,none,none,none,none,none,none] Q Q ?_))))))));refine SA TK Q (gN (f:=(D.int .i64)) 3 6 5 3 1 Q Q Q (TN (WN [1,2,5] Q Q (RS (SA TK Q (SA TK Q (GE hm λg3 hm=>SX Q Q (aY Q Q Q Q g3) (SA TK Q (SA TK Q ?_)))))))));refine SX Q Q (aP TK Q Q Q) (GE hm λg4 hm=>SX Q Q (aY Q Q Q Q g4) (GE hm λg5 hm=>SX Q Q (aY Q Q Q Q g5) (SA TK Q (SA TK Q (SX Q Q (aP TK Q Q Q) (GE hm λg6 hm=>SX Q Q (aY Q Q Q Q g6) ?_))))));refine GE hm λg7 hm=>SX Q Q (aY Q Q Q Q g7) (SA TK Q (SA TK Q (TN (WN [1,2,5] Q Q (RS ?_)))));iterate 4 (refine SA TK Q ?_)
 refine SX Q Q (aP TK Q Q Q) (GE hm λg8 hm=>SX Q Q (aY Q Q Q Q g8) (SA TK Q (SA TK Q (TN (WN [1,2,5] Q Q ?_)))));refine aL hm (λ(c9,b10)=>([]:Fr)) (λ(c9,b10)=>([(3,.box 77 [.d (.sl 14 (p0.routes.map Route.enc)),.d (.sl 1 (p0.points.map (D.int .i64))),.d (.sl 1 (p0.homes.map (D.int .i64))),.d (.int .i64 p0.sections),.d (.int .i64 p0.signals),.d (.int .i64 ((((2:Int) * p0.sections)+((2:Int) * (p0.points.length:Int)))+((4:Int) * (p0.routes.length:Int)))),.msl 5 1 0 b10.length,.d (.int .i64 c9),.d (.int .i64 (0:Int))]),(5,.flat 3 1 (b10.map (D.int .i64)))]:List (Nat×Blk))) [] [1,2,5] Q (λz11 hm=>?_) (λj hm=>?_)
 ·refine RS (SA TK Q (SA TK Q (SX Q Q (aP TK Q Q Q) (SA TK Q (TN (WN [1,2,5,38,39] Q Q (TB (aZ hm (λ(x16,c17,b18)=>([(39,.d (.int .i64 x16))]:Fr)) (λ(x16,c17,b18)=>([(3,.box 77 [.d (.sl 14 (p0.routes.map Route.enc)),.d (.sl 1 (p0.points.map (D.int .i64))),.d (.sl 1 (p0.homes.map (D.int .i64))),.d (.int .i64 p0.sections),.d (.int .i64 p0.signals),.d (.int .i64 ((((2:Int) * p0.sections)+((2:Int) * (p0.points.length:Int)))+((4:Int) * (p0.routes.length:Int)))),.msl 5 1 0 b18.length,.d (.int .i64 c17),.d (.int .i64 (0:Int))]),(5,.flat 3 1 (b18.map (D.int .i64)))]:List (Nat×Blk))) [39] [1,2,5,38] [0,1,2,3,4,5] Q k0 Q Q Q Q Q (λs z19 hm hz19=>?_)))))))));obtain⟨x16,c17,b18⟩:=s;refine WN [1,2,5,38,39] Q Q (RS (SA TK Q (TN (WN [1,2,5,38,39,40] Q Q (TQ ?_)))));refine TC _ Q (λh20=>?_) (λh20=>?_)
  ·replace hm:=JT h20 hm;refine TS (WT (WN [1,2,5,38,39] Q Q (TQ (TB (RS (SA TK Q (SA TK Q (TN (WN [1,2,5,6,38,39] Q Q ?_)))))))));refine RS ?_;iterate 4 (refine SA TK Q ?_)
   refine SX Q Q (fX [.tmp 45] TK Q Q lD Q Q Q Q Q) (GE hm λg21 hm=>gI (f:=(D.int .i64)) ([c17]:List Int) TK Q Q lD Q Q Q Q Q (λh=>absurd h (zQV _)) Q fZ g21 Q Q (SA TK Q (SA TK Q (TN (WN [1,2,5,6,38,39] Q Q (cU follows  ?_))))));iterate 4 (refine DA [0,1,2,3,4,5] TK Q ?_)
   refine BE hm λr22 hr22 hm=>DX [0,1,2,3,4,5] Q Q (RN Q Q (SC (iZ (.cons (.d _) Q (.cons (.d _) Q (.cons (.d _) Q (.cons (.d _) Q (.cons (.d _) Q (.cons (.d _) Q (.cons (dC Q) Q (.cons (.d _) Q (.cons (.d _) Q .nil)))))))))) (SC (.d _) SN)) (bV hr22)) (GE hm λg23 hm=>DX [0,1,2,3,4,5] Q Q (aY Q Q Q Q g23) (GE hm λg24 hm=>DX [0,1,2,3,4,5] Q Q (aY Q Q Q Q g24) (GE hm λg25 hm=>DX [0,1,2,3,4,5] Q Q (aY Q Q Q Q g25) (DA [0,1,2,3,4,5] TK Q ?_))));refine DT ?_ (by kernel_rfl);refine SA TK Q (TN (WK (WT (WN [1,2,5,38,39] Q Q (TG (GE hm λg26 hm=>SX Q Q (aY Q Q Q Q g26) (SA TK Q ?_)))))));refine TN (WT ?_);exact⟨_,[0,1,2,3,4,5],(SJ hm),Q,k0,Q⟩
  replace hm:=JF h20 hm;refine aI (WX (IE hm λv27 hm hz=>?_));rw [hz19 _ hz] at hm;refine WX (WH (WT ?_));exact⟨_,[0,1,2,3,4,5],(SJ hm),Q,k0,Q⟩
 obtain⟨c9,b10⟩:=j;refine WN [1,2,5] Q Q (RS ?_);iterate 4 (refine SA TK Q ?_)
 refine SX Q Q (aP TK Q Q Q) (GE hm λg28 hm=>SX Q Q (aY Q Q Q Q g28) (GE hm λg29 hm=>SX Q Q (aY Q Q Q Q g29) (SA TK Q (SA TK Q (TN (WN [2,5] Q Q (TQ ?_)))))));refine RS (SA TK Q (SA TK Q (SA TK Q (TN (WN [2,5,69] Q Q ?_)))));refine TC _ Q (λh30=>?_) (λh30=>?_)
 ·replace hm:=JT h30 hm;refine RS (SX Q Q (iF Q zDD wQ Q Q Q Q) (SA TK Q (gN (f:=(D.int .i64)) 1 6 6 3 1 Q Q Q (dK 1 [some 14,some 1,some 1,none,none,none,none,none,none] Q Q (SA TK Q (TN (WN [2,3] Q Q (TR ?_))))))));refine WR ?_;obtain⟨rfl,rfl⟩:=Prod.mk.inj (Option.some.inj hm);exact⟨_,.mk _ (.cons (.agg (TK.lay Q) Q Q Q Q) (.cons (.tmp 3) .nil)) Q,(.cons (iZ (.cons (.d _) Q (.cons (.d _) Q (.cons (.d _) Q (.cons (.d _) Q (.cons (.d _) Q (.cons (.d _) Q (.cons (dC Q) Q (.cons (.d _) Q (.cons (.d _) Q .nil)))))))))) (.refl _) (.cons (.d _) (.refl _) .nil))⟩
 replace hm:=JF h30 hm;refine TS (WT (WN [2,5] Q Q (RS (SA TK Q (SA TK Q (SA TK Q (TN (WN [2,3] Q Q (TR ?_)))))))));obtain⟨rfl,rfl⟩:=Prod.mk.inj (Option.some.inj hm);exact⟨_,.mk _ (.cons (.agg (TK.lay Q) Q Q Q Q) (.cons (.tmp 3) .nil)) Q,(.cons (iZ (.cons (.d _) Q (.cons (.d _) Q (.cons (.d _) Q (.cons (.d _) Q (.cons (.d _) Q (.cons (.d _) Q (.cons (dC Q) Q (.cons (.d _) Q (.cons (.d _) Q .nil)))))))))) (.refl _) (.cons (.d _) (.refl _) .nil))⟩
theorem cD {p0:Numbering} {p1:Int} {p2:Int} {r:Int} (hm:aW p0 p1 p2=some r):RetN Tryz.prog 39 [p0.enc,.int .i64 p1,.int .i64 p2] (.int .i64 r):=by
 refine .unit (aJ zMG Tryz.func39 Q Tryz.ntmps39 Q Q (λwX gX=>?_)) Q;unfold aW at hm;refine WN [0,1,2] Q Q (RS (cZ 0 Q Q Q (SA TK Q (TN (WN [1,2,3] Q Q (RS (SA TK Q (SA TK Q (SA TK Q (VE hm λe1 he1 hm=>?_))))))))));refine SX Q Q (bZ TK Q Q Q Q he1) (SA TK Q (SA TK Q (GE hm λg2 hm=>SX Q Q (aY Q Q Q Q g2) (SA TK Q (TN (WN [6] Q Q (TR ?_)))))));obtain rfl:=OJ hm;exact EndsS.one _ Q (.d _) (.refl _)
theorem kF {p0:Numbering} {p1:Int} {r:Int} (hm:eE p0 p1=some r):RetN Tryz.prog 78 [p0.enc,.int .i64 p1] (.int .i64 r):=by
 refine .unit (aJ zLJ Tryz.func78 Q Tryz.ntmps78 Q Q (λwX gX=>?_)) Q;unfold eE at hm;refine WN [0,1] Q Q (RS (cZ 0 Q Q Q (SA TK Q (TN (WN [1,2] Q Q (bO follows  ?_))))));iterate 4 (refine DA [0] TK Q ?_)
 refine BE hm λr1 hr1 hm=>DX [0] Q Q (RN Q Q (SC (.d _) (SC (.d _) SN)) (bV hr1)) (GE hm λg2 hm=>DX [0] Q Q (aY Q Q Q Q g2) (BE hm λr3 hr3 hm=>DX [0] Q Q (RN Q Q (SC (.d _) (SC (.d _) (SC (.d _) SN))) (cD hr3)) ?_));refine DT ?_ (by kernel_rfl);refine SA TK Q (TN (WN [4] Q Q (TR ?_)));obtain rfl:=OJ hm;exact EndsS.one _ Q (.d _) (.refl _)
theorem bU {p0:Int} {r:Expr} (hm:cA p0=some r):RetD Tryz.prog 41 [.int .i64 p0] (r.enc):=by
 refine .of (mv:=λ_=>false) (aJ zME Tryz.func41 Q Tryz.ntmps41 Q Q (λwX gX=>?_));unfold cA at hm;refine WN [0] Q Q (RS (cW 0 Q Q bE Q (dK 0 [none,none,some 3] Q Q (TN (WN [0,2] Q Q (RS (SA TK Q (SX Q Q (cI Q qXE bE Q Q Q Q) ?_))))))));refine qQK 4 [none,none,some 3] Q (SA TK Q (TN (WN [2] Q Q (TR ?_))));obtain rfl:=OJ hm;exact EndsS.cellR _ TK Q Q Q Q Q (.d _)
theorem rP {p0:Numbering} {p1:Int} {p2:Int} {r:Int} (hm:gL p0 p1 p2=some r):RetN Tryz.prog 141 [p0.enc,.int .i64 p1,.int .i64 p2] (.int .i64 r):=by
 refine .unit (aJ zGP Tryz.func141 Q Tryz.ntmps141 Q Q (λwX gX=>?_)) Q;unfold gL at hm;refine WN [0,1,2] Q Q (RS (cZ 0 Q Q Q (SA TK Q (TN (WN [1,2,3] Q Q (RS (SA TK Q (SA TK Q (SA TK Q (GE hm λg1 hm=>?_))))))))));refine SX Q Q (aY Q Q Q Q g1) (SA TK Q (SA TK Q (SA TK Q (SX Q Q (aP TK Q Q Q) (GE hm λg2 hm=>SX Q Q (aY Q Q Q Q g2) (GE hm λg3 hm=>SX Q Q (aY Q Q Q Q g3) (SA TK Q (GE hm λg4 hm=>?_))))))));refine SX Q Q (aY Q Q Q Q g4) (GE hm λg5 hm=>SX Q Q (aY Q Q Q Q g5) (SA TK Q (GE hm λg6 hm=>SX Q Q (aY Q Q Q Q g6) (SA TK Q (TN (WN [6] Q Q ?_))))));refine TR ?_;obtain rfl:=OJ hm;exact EndsS.one _ Q (.d _) (.refl _)
theorem lX {p0:Numbering} {p1:Int} {p2:Int} {r:Int} (hm:eC p0 p1 p2=some r):RetN Tryz.prog 92 [p0.enc,.int .i64 p1,.int .i64 p2] (.int .i64 r):=by
 refine .unit (aJ zKV Tryz.func92 Q Tryz.ntmps92 Q Q (λwX gX=>?_)) Q;unfold eC at hm;refine WN [0,1,2] Q Q (RS (cZ 0 Q Q Q (SA TK Q (TN (WN [1,2] Q Q (RS (SA TK Q (GE hm λg1 hm=>?_))))))));refine SX Q Q (aY Q Q Q Q g1) (SA TK Q (GE hm λg2 hm=>SX Q Q (aY Q Q Q Q g2) (SA TK Q (TN (WN [6] Q Q (TR ?_))))));obtain rfl:=OJ hm;exact EndsS.one _ Q (.d _) (.refl _)
theorem dH {p0:(List Expr)} {r:Expr} (hm:dF p0=some r):RetD Tryz.prog 40 [.sl 3 (p0.map Expr.encR)] (r.enc):=by
 refine .of (mv:=λ_=>false) (aJ zMF Tryz.func40 Q Tryz.ntmps40 Q Q (λwX gX=>?_));unfold dF at hm;refine WN [0] Q Q (RS (cW 0 Q Q bE Q (dK 0 [none,none,some 3] Q Q (TN (WN [0,2] Q Q (RS (SA TK Q (SX Q Q (cI Q qXE bE Q Q Q Q) ?_))))))));refine SA TK Q (TN (WN [2] Q Q (TR ?_)));obtain rfl:=OJ hm;exact EndsS.cellR _ TK Q Q Q Q Q (.d _)
theorem cE {p0:(List Expr)} {r:Expr} (hm:cF p0=some r):RetD Tryz.prog 79 [.sl 3 (p0.map Expr.encR)] (r.enc):=by
 refine .of (mv:=λ_=>false) (aJ zLI Tryz.func79 Q Tryz.ntmps79 Q Q (λwX gX=>?_));unfold cF at hm;refine WN [0] Q Q (RS (cW 0 Q Q bE Q (dK 0 [none,none,some 3] Q Q (TN (WN [0,2] Q Q (RS (SA TK Q (SX Q Q (cI Q qXE bE Q Q Q Q) ?_))))))));refine SA TK Q (TN (WN [2] Q Q (TR ?_)));obtain rfl:=OJ hm;exact EndsS.cellR _ TK Q Q Q Q Q (.d _)
theorem mZ {p0:Numbering} {p1:Int} {r:Int} (hm:eQ p0 p1=some r):RetN Tryz.prog 83 [p0.enc,.int .i64 p1] (.int .i64 r):=by
 refine .unit (aJ zLE Tryz.func83 Q Tryz.ntmps83 Q Q (λwX gX=>?_)) Q;unfold eQ at hm;refine WN [0,1] Q Q (RS (cZ 0 Q Q Q (SA TK Q (TN (WN [1,2] Q Q (RS (SA TK Q (SA TK Q (BE hm λr1 hr1 hm=>?_)))))))));refine SX Q Q (RN Q Q (SC (.d _) (SC (.d _) SN)) (kF hr1)) (GE hm λg2 hm=>SX Q Q (aY Q Q Q Q g2) (SA TK Q (TN (WN [4] Q Q (TR ?_)))));obtain rfl:=OJ hm;exact EndsS.one _ Q (.d _) (.refl _)
theorem cQ {p0:Expr} {r:Expr} (hm:cL p0=some r):RetD Tryz.prog 85 [p0.enc] (r.enc):=by
 refine .of (mv:=λ_=>false) (aJ zLC Tryz.func85 Q Tryz.ntmps85 Q Q (λwX gX=>?_));unfold cL at hm;refine WN [0] Q Q (RS (cZ 0 Q Q Q (cW 1 Q Q bE Q (dK 1 [none,none,some 3] Q Q (TN (WN [1,2] Q Q (RS (SA TK Q ?_))))))));refine SX Q Q (dD (f:=Expr.encR) (xs:=([p0]:List Expr)) [.tmp 3] TK Q Q bE Q (dA Q (aE (Expr.encR_eq _) bM)) Q (bC Expr.encR_cells) Q) (SX Q Q (cI Q qXE bE Q Q Q Q) (SA TK Q (TN (WN [2] Q Q (TR ?_)))));obtain rfl:=OJ hm;exact EndsS.cellR _ TK Q Q Q Q Q (.d _)
theorem aS {p0:Numbering} {p1:Int} {p2:Int} {r:Int} (hm:aR p0 p1 p2=some r):RetN Tryz.prog 35 [p0.enc,.int .i64 p1,.int .i64 p2] (.int .i64 r):=by
 refine .unit (aJ zMK Tryz.func35 Q Tryz.ntmps35 Q Q (λwX gX=>?_)) Q;unfold aR at hm;refine WN [0,1,2] Q Q (RS (cZ 0 Q Q Q (SA TK Q (TN (WN [1,2,3] Q Q (RS (SA TK Q (SA TK Q (SA TK Q (GE hm λg1 hm=>?_))))))))));refine SX Q Q (aY Q Q Q Q g1) (GE hm λg2 hm=>SX Q Q (aY Q Q Q Q g2) (SA TK Q (GE hm λg3 hm=>SX Q Q (aY Q Q Q Q g3) (SA TK Q (TN (WN [6] Q Q ?_))))));refine TR ?_;obtain rfl:=OJ hm;exact EndsS.one _ Q (.d _) (.refl _)
theorem tJ (n:Nat) (hn:n≤1000000000) (mv:Nat→Bool):Ret Tryz.prog 172 [] mv ([.nilsl,.int .i64 n].map .d) (.msl 0 2 0 0) [.flat 133 2 []]:=by
 refine dE zFR Tryz.func172 Q Tryz.ntmps172 Q Q (λwX gX=>aX [0,1] (aM Q (aM Q .nil)) (bH Q) (RS (cK _ Q (gS (.inr Q) Q) (TN (aX [0,1] (aM Q (aM Q .nil)) (bH Q) (TQ (RS (cK _ Q (gS (.inl Q) Q) ?_))))))));refine cK _ Q (qC Q Q Q Q) (TN (aX [0,1,6] (aM Q (aM Q (aM Q .nil))) (bH Q) ?_));refine TC _ Q (λhneg=>?_) (λhneg=>?_)
 ·exact absurd (of_decide_eq_true hneg) (by omega)
 refine TS (WT (aX [0,1] (aM Q (aM Q .nil)) (bH Q) (TQ (RS (cK _ Q (gS (.inl Q) Q) (cK _ Q (gS (.inl Q) Q) (cK _ Q (qGQ Q zP Q) (cK _ Q (gS (.inl Q) Q) ?_))))))));refine cK _ Q (qB Q zP Q) ?_;refine cK _ Q (uY (r:=0) Q Q Q Q Q (by first|omega|(constructor<;>omega))) ?_;refine cK _ Q (uY (r:=(n:Int)) Q Q Q Q (by omega) (by first|omega|(constructor<;>omega))) ?_;refine cK _ Q (gS (.inr Q) Q) (TN (aX [0,1] (aM Q (aM Q .nil)) (bH Q) (RS (cK _ Q (gS (.inl Q) Q) (cK _ Q (qC Q Q Q Q) (TN (aX [0,1,16] (aM Q (aM Q (aM Q .nil))) (bH Q) ?_)))))));refine TC _ Q (λhpos=>?_) (λhpos=>?_)
 ·have hpos:0 < n:=by simpa using hpos
  refine TG (cK _ Q (gS (.inl Q) Q) (cK _ Q (gS (.inl Q) Q) (cK _ Q (qGQ Q zP Q) (cK _ Q (qYF Q zP Q Q Q) (cK _ Q (gS (.inl Q) Q) ?_)))));refine qXA (n:=n) Q zP Tryz.underlying3 gQ Q Q Q hpos (by decide) (by omega) (by omega) ?_;refine cK _ Q (gS (.inl Q) Q) (cK _ Q (qB Q zP Q) (cK _ Q (qHS 0 2 16 0 n 0 0 Q zP Q Q Q (zQW _) (Nat.zero_le _)) (cK _ Q (kQ (.inr Q) Q) (TN (WT (aX [0] (fH Q .nil) (dR Q (bH Q)) (RS (cK _ Q (kQ (.inl Q) Q) ?_))))))));refine cK _ Q (kQ (.inr Q) Q) (TN (aX [4] (fH Q .nil) (dR Q (bH Q)) (TR ?_)));exact⟨_,[0],res Q,by decide,λi hi=>absurd hi (zQV i),Q,Q⟩
 refine qEK 0 133 2 Q (TS (WT (aX [0] (fH Q .nil) (dR Q (bH Q)) (RS (cK _ Q (kQ (.inl Q) Q) (cK _ Q (kQ (.inr Q) Q) (TN (aX [4] (fH Q .nil) (dR Q (bH Q)) ?_))))))));refine TR ?_;exact⟨_,[0],res Q,by decide,λi hi=>absurd hi (zQV i),Q,Q⟩
theorem rI (xss:List (List Setting)) (hn:xss.length≤1000) (ht:xss.flatten.length≤1000000000) (mv:Nat→Bool):Ret Tryz.prog 145 [] mv ([.sl 1 (xss.map λl=>.sl 2 (l.map Setting.enc))].map .d) (.msl 0 2 0 xss.flatten.length) [.flat 133 2 (xss.flatten.map Setting.enc)]:=by
 refine dE zGL Tryz.func145 Q Tryz.ntmps145 Q Q (λwX gX=>aX [0] (aM Q .nil) (bH Q) (RS (cK _ Q (gS (.inr Q) Q) (TN (aX [0] (aM Q .nil) (bH Q) (RS (cK _ Q (gS (.inr Q) Q) (TN ?_))))))));refine aX [0,3] (aM Q (aM Q .nil)) (bH Q) (TQ (RS (cK _ Q (gS (.inl Q) Q) ?_)));refine cK _ Q (by first|exact qIN Q qCY Q (by first|exact zQC _|rfl)|exact qB Q qCY Q) ?_;refine cK _ Q (gS (.inl Q) Q) (TN (aX [0,3,9,10,11] (aM Q (aM Q (aM Q (aM Q (aM Q .nil))))) (bH Q) (TB ?_)));refine rZ (λi=>([(3,.d (.int .i64 ((iE xss i).length:Int))),(11,.d (.int .i64 ((i:Nat):Int)))]:Fr)) (λi=>([]:List (Nat×Blk))) (λi=>i≤xss.length) (λi=>xss.length - i) [3,11] [0,9,10] [] 0 (by decide) (λi hi=>absurd hi (zQV i)) (Nat.zero_le _) (aM Q (aM Q (aM Q .nil))) Q (by rw [rU];rfl) (bH Q) Q ?_;rintro i hok;refine aX [3,11,0,9,10] (aM Q (aM Q (aM Q (aM Q (aM Q .nil))))) (bH Q) (RS (cK _ Q (qC Q Q Q Q) (TN (aX [0,3,9,10,11,12] (aM Q (aM Q (aM Q (aM Q (aM Q (aM Q .nil)))))) (bH Q) (TQ ?_)))));refine TC _ Q (λhlt=>?_) (λhlt=>?_)
 ·have hlt:i < xss.length:=by simpa using hlt
  obtain⟨x,hx⟩:∃ x,(xss)[i]?=some x:=⟨_,zQR (by first|exact hlt|omega|(simp;omega))⟩;have hs:=iY hx;have hle:=lA xss (i+1);refine TS (WT (aX [0,3,9,10,11] (aM Q (aM Q (aM Q (aM Q (aM Q .nil))))) (bH Q) (TQ (TB (RS (cK _ Q (xV Q qCY Q Q (qGL hx)) (cK _ Q (qBS Q zOE Q Q) (cK _ Q (gS (.inr Q) Q) ?_))))))));refine TN (aX [0,3,5,9,10,11] (aM Q (aM Q (aM Q (aM Q (aM Q (aM Q .nil)))))) (bH Q) (RS (cK _ Q (gS (.inl Q) Q) (cK _ Q (gS (.inl Q) Q) ?_))));refine cK _ Q (by first|exact qIN Q zP Q (by first|exact zQC _|rfl)|exact qB Q zP Q) ?_;refine cK _ Q (uY (r:=((iE xss (i+1)).length:Int)) Q Q Q Q (by rw [hs];simp) (by omega)) ?_;refine cK _ Q (gS (.inr Q) Q) (TN (aX [0,3,9,10,11] (aM Q (aM Q (aM Q (aM Q (aM Q .nil))))) (bH Q) (RS (cK _ Q (gS (.inl Q) Q) (cK _ Q (qC Q Q Q Q) (TN (aX [0,3,9,10,11,20] (aM Q (aM Q (aM Q (aM Q (aM Q (aM Q .nil)))))) (bH Q) ?_)))))));refine TC _ Q (λhneg=>?_) (λhneg=>?_)
  ·exact absurd (of_decide_eq_true hneg) (by omega)
  refine TS (WK (WT (aX [0,3,9,10,11] (aM Q (aM Q (aM Q (aM Q (aM Q .nil))))) (bH Q) (TG ?_))));refine cK _ Q (uZ Q Q Q Q (by first|omega|(constructor<;>omega))) ?_;refine cK _ Q (gS (.inl Q) Q) (TN (WT ?_));exact⟨(i+1),[],by decide,(λi hi=>absurd hi (zQV i)),(by omega),(by omega),Q⟩
 have hge:¬ i < xss.length:=by simpa using hlt
 have hi:i=xss.length:=by omega
 refine aI (WX (WX (WH (WT (aX [0,3] (aM Q (aM Q .nil)) (bH Q) (RS (cK _ Q (gS (.inl Q) Q) ?_)))))));refine yM Q Q Q (tJ _ (by have:=lA xss i;omega) (λ_=>false)) Q Q ?_;refine cK _ Q (kQ (.inr Q) Q) (TN (aX [0,6] (aM Q (fH Q .nil)) (dR Q (bH Q)) (TQ (RS (cK _ Q (gS (.inl Q) Q) ?_)))));refine cK _ Q (by first|exact qIN Q qCY Q (by first|exact zQC _|rfl)|exact qB Q qCY Q) ?_;refine cK _ Q (gS (.inl Q) Q) (TN (aX [6,25,26,27] (fH Q (aM Q (aM Q (aM Q .nil)))) (dR Q (bH Q)) (TB ?_)));refine rZ (λi=>([(6,.msl 0 2 0 (iE xss i).length),(27,.d (.int .i64 ((i:Nat):Int)))]:Fr)) (λi=>([(0,.flat 133 2 ((iE xss i).map Setting.enc))]:List (Nat×Blk))) (λi=>i≤xss.length) (λi=>xss.length - i) [6,27] [25,26] [0] 0 (by decide) (λi hi=>absurd hi (zQV i)) (Nat.zero_le _) (aM Q (aM Q .nil)) Q (by rw [rU];rfl) (dR Q (bH Q)) (by rw [rU];rfl) ?_;rintro i hok;refine aX [6,27,25,26] (fH Q (aM Q (aM Q (aM Q .nil)))) (dR Q (bH Q)) (RS (cK _ Q (qC Q Q Q Q) (TN (aX [6,25,26,27,28] (fH Q (aM Q (aM Q (aM Q (aM Q .nil))))) (dR Q (bH Q)) (TQ ?_)))));refine TC _ Q (λhlt=>?_) (λhlt=>?_)
 ·have hlt:i < xss.length:=by simpa using hlt
  obtain⟨x,hx⟩:∃ x,(xss)[i]?=some x:=⟨_,zQR (by first|exact hlt|omega|(simp;omega))⟩;have hs:=iY hx;have hle:=lA xss (i+1);have hsl:(iE xss (i+1)).length=(iE xss i).length+x.length:=by rw [hs];simp
  refine TS (WT (aX [6,25,26,27] (fH Q (aM Q (aM Q (aM Q .nil)))) (dR Q (bH Q)) (TQ (TB (RS (cK _ Q (xV Q qCY Q Q (qGL hx)) (cK _ Q (qBS Q zOE Q Q) (cK _ Q (gS (.inr Q) Q) ?_))))))));refine TN (aX [6,8,25,26,27] (fH Q (aM Q (aM Q (aM Q (aM Q .nil))))) (dR Q (bH Q)) (TG (cK _ Q (kQ (.inl Q) Q) (cK _ Q (gS (.inl Q) Q) ?_))));refine qHK (m:=(iE xss (i+1)).length) (ds:=x.map Setting.enc) (es':=(iE xss (i+1)).map Setting.enc) Q zP gQ Q Q Q (by simp) (λh=>absurd h (zQV _)) Q ⟨Q,(by first|rfl|(simp [List.map_take,List.map_drop];done)|(rw [← List.map_drop,List.take_of_length_le (by simp)]))⟩ (by rw [hs];simp) (by simp;omega) (by omega) (by omega) Q Q ?_;refine cK _ Q (kQ (.inr Q) Q) (TN (WK (WT (aX [6,25,26,27] (fH Q (aM Q (aM Q (aM Q .nil)))) (dR Q (bH Q)) (TG ?_)))));refine cK _ Q (uZ Q Q Q Q (by first|omega|(constructor<;>omega))) ?_;refine cK _ Q (gS (.inl Q) Q) (TN (WT ?_));exact⟨(i+1),[0],by decide,(λi hi=>absurd hi (zQV i)),(by omega),(by omega),Q⟩
 have hge:¬ i < xss.length:=by simpa using hlt
 have hi:i=xss.length:=by omega
 have hall:=qSQ hge;refine aI (WX (WX (WH (WT (aX [6] (fH Q .nil) (dR Q (bH Q)) (RS (cK _ Q (kQ (.inl Q) Q) (cK _ Q (kQ (.inr Q) Q) ?_))))))));refine TN (aX [2] (fH Q .nil) (dR Q (bH Q)) (TR ?_));rw [hall];exact⟨_,[0],res Q,by decide,λi hi=>absurd hi (zQV i),Q,Q⟩
theorem tI {p0:List (List Setting)} {r:List Setting} (hm:jG p0=some r):Ret Tryz.prog 145 [] (λ_=>false) ([.sl 1 (p0.map (λl=>D.sl 2 (l.map Setting.enc)))].map .d) (.msl 0 2 0 r.length) [.flat 133 2 (r.map Setting.enc)]:=by
 unfold jG at hm;refine GE hm λg hm=>?_;obtain rfl:=OJ hm;exact rI p0 g.1 g.2 (λ_=>false)
theorem wI {p0:Int} {r:Bool} (hm:nM p0=some r):RetN Tryz.prog 174 [.int .i64 p0] (.bool (r)):=by
 refine .unit (aJ zFQ Tryz.func174 Q Tryz.ntmps174 Q Q (λwX gX=>?_)) Q;unfold nM at hm;refine WN [0] Q Q (RS (SA TK Q (TN (WN [0] Q Q (RS ?_)))));iterate 4 (refine SA TK Q ?_)
 refine TN (WN [2] Q Q (TR ?_));obtain rfl:=OJ hm;exact EndsS.one _ Q (.d _) (.refl _)
theorem tU {p0:Int} {p1:Int} {r:Int} (hm:jU p0 p1=some r):RetN Tryz.prog 149 [.int .i64 p0,.int .i64 p1] (.int .i64 r):=by
 refine .unit (aJ zGH Tryz.func149 Q Tryz.ntmps149 Q Q (λwX gX=>?_)) Q;unfold jU at hm;refine WN [0,1] Q Q (RS (SA TK Q (TN (WN [0,1] Q Q (RS (SA TK Q (BE hm λr1 hr1 hm=>SX Q Q (RN Q Q (SC (.d _) SN) (wI hr1)) ?_)))))));refine SA TK Q (TN (WN [0,1,5] Q Q (RS (SA TK Q (BE hm λr2 hr2 hm=>SX Q Q (RN Q Q (SC (.d _) SN) (wI hr2)) (SA TK Q (TN ?_)))))));refine WN [0,1,5,6] Q Q (TQ (RS (SA TK Q (TN (WN [0,1,6,11] Q Q ?_)))));refine TC _ Q (λh3=>?_) (λh3=>?_)
 ·replace hm:=JA h3 hm;refine TQ (RS (SA TK Q (TN (WN [12] Q Q ?_))));refine TC _ Q (λh4=>?_) (λh4=>?_)
  ·replace hm:=JA h4 hm;refine RS (SA TK Q (TN (WN [4] Q Q (TR (WR (WR ?_))))));obtain rfl:=OJ hm;exact EndsS.one _ Q (.d _) (.refl _)
  replace hm:=JB h4 hm;refine TS (WT (WN [] Q Q (RS (SA TK Q (TN (WN [4] Q Q (TR (WR ?_))))))));obtain rfl:=OJ hm;exact EndsS.one _ Q (.d _) (.refl _)
 replace hm:=JB h3 hm;refine TS (WT (WN [0,1,6] Q Q (TQ (RS (SA TK Q (TN (WN [0,1,13] Q Q ?_)))))));refine TC _ Q (λh5=>?_) (λh5=>?_)
 ·replace hm:=JA h5 hm;refine RS (SA TK Q (TN (WN [4] Q Q (TR (WR ?_)))));obtain rfl:=OJ hm;exact EndsS.one _ Q (.d _) (.refl _)
 replace hm:=JB h5 hm;refine TS (WT (WN [0,1] Q Q (TQ (RS (SA TK Q (SA TK Q (SA TK Q (TN (WN [0,1,16] Q Q ?_)))))))));refine TC _ Q (λh6=>?_) (λh6=>?_)
 ·replace hm:=JT h6 hm;refine RS (SA TK Q (TN (WN [4] Q Q (TR (WR ?_)))));obtain rfl:=OJ hm;exact EndsS.one _ Q (.d _) (.refl _)
 replace hm:=JF h6 hm;refine TS (WT (WN [0,1] Q Q (TQ (RS (SA TK Q (SA TK Q (SA TK Q (TN (WN [19] Q Q ?_)))))))));refine TC _ Q (λh7=>?_) (λh7=>?_)
 ·replace hm:=JT h7 hm;refine RS (SA TK Q (TN (WN [4] Q Q (TR (WR ?_)))));obtain rfl:=OJ hm;exact EndsS.one _ Q (.d _) (.refl _)
 replace hm:=JF h7 hm;refine TS (WT (WN [] Q Q (RS (SA TK Q (TN (WN [4] Q Q (TR ?_)))))));obtain rfl:=OJ hm;exact EndsS.one _ Q (.d _) (.refl _)
theorem qOZ {p0:(List Int)} {r:Int} (hm:sZ p0=some r):RetN Tryz.prog 148 [.sl 1 (p0.map (D.int .i64))] (.int .i64 r):=by
 refine .unit (aJ zGI Tryz.func148 Q Tryz.ntmps148 Q Q (λwX gX=>?_)) Q;unfold sZ at hm;refine WN [0] Q Q (RS (SA TK Q (TN (WN [0] Q Q (RS (SA TK Q (TN (WN [0,3] Q Q ?_))))))));refine cM hm (λ_=>([]:Fr)) (λ_=>([]:List (Nat×Blk))) [] [3] Q (λz1 hm hz1=>?_) (λj hm=>?_)
 ·refine RS (SA TK Q (SX Q Q (aP TK Q Q Q) (SA TK Q (TN (WN [3,6,7,8] Q Q (TB (aZ hm (λx3=>([(8,.d (.int .i64 x3))]:Fr)) (λx3=>([]:List (Nat×Blk))) [8] [3,6,7] [] Q k0 Q Q Q Q Q (λx3 z4 hm hz4=>WN [3,6,7,8] Q Q ?_))))))));refine RS (SA TK Q (TN (WN [3,6,7,8,9] Q Q (TQ ?_))));refine TC _ Q (λh5=>?_) (λh5=>?_)
  ·replace hm:=JT h5 hm;refine TS (WT (WN [3,6,7,8] Q Q (TQ (TB (RS (VE hm λe6 he6 hm=>SX Q Q (bZ TK Q Q Q Q he6) (SA TK Q (SA TK Q ?_))))))));refine TN (WN [3,5,6,7,8] Q Q (RS (SA TK Q (SA TK Q (SA TK Q (TN (WN [3,5,6,7,8,14] Q Q ?_)))))));refine TC _ Q (λh7=>?_) (λh7=>?_)
   ·replace hm:=dS h7 hm;refine RS (SA TK Q (SA TK Q (TN (WN [2] Q Q (TR (WB (WR (IE hm λv8 hm hz=>?_))))))));rw [hz4 _ hz] at hm;refine WR (WB (IE hm λv9 hm hz=>?_));rw [hz1 _ hz] at hm;refine WR ?_;obtain rfl:=OJ hm;exact EndsS.one _ Q (.d _) (.refl _)
   replace hm:=dT h7 hm;refine TS (WK (WT (WN [3,6,7,8] Q Q (TG (GE hm λg10 hm=>SX Q Q (aY Q Q Q Q g10) (SA TK Q (TN ?_)))))));refine WT ?_;exact⟨_,[],(SJ hm),Q,k0,Q⟩
  replace hm:=JF h5 hm;refine aI (WX (IE hm λv11 hm hz=>?_));rw [hz4 _ hz] at hm;refine WX (WH (WT ?_));exact⟨_,[],(SJ hm),Q,k0,Q⟩
 refine WN [3] Q Q (RS (SA TK Q (SA TK Q (TN (WN [2] Q Q (TR ?_))))));obtain rfl:=OJ hm;exact EndsS.one _ Q (.d _) (.refl _)
theorem zH {p0:Setting} {p1:Setting} {r:Int} (hm:cX p0 p1=some r):RetN Tryz.prog 147 [p0.enc,p1.enc] (.int .i64 r):=by
 refine .unit (aJ zGJ Tryz.func147 Q Tryz.ntmps147 Q Q (λwX gX=>?_)) Q;unfold cX at hm;refine WN [0,1] Q Q (RS (cZ 0 Q Q Q (cZ 1 Q Q Q (SA TK Q (TN (WN [2,3] Q Q (bO follows  ?_)))))));iterate 4 (refine DA [0,1] TK Q ?_)
 refine BE hm λr1 hr1 hm=>DX [0,1] Q Q (RN Q Q (SC (.d _) (SC (.d _) SN)) (tU hr1)) ?_;iterate 4 (refine DA [0,1] TK Q ?_)
 refine BE hm λr2 hr2 hm=>DX [0,1] Q Q (RN Q Q (SC (.d _) (SC (.d _) SN)) (tU hr2)) (DX [0,1] Q Q (fX [.tmp 9,.tmp 14] TK Q Q lD Q Q Q Q Q) (BE hm λr3 hr3 hm=>DX [0,1] Q Q (RN Q Q (SC (.d _) SN) (qOZ hr3)) ?_));refine DT ?_ (by kernel_rfl);refine SA TK Q (TN (WN [4] Q Q (TR ?_)));obtain rfl:=OJ hm;exact EndsS.one _ Q (.d _) (.refl _)
theorem fP {p0:Route} {r:(List Setting)} (hm:dW p0=some r):RetD Tryz.prog 94 [p0.enc] (.sl 2 (r.map Setting.enc)):=by
 refine .of (mv:=λ_=>false) (aJ zKT Tryz.func94 Q Tryz.ntmps94 Q Q (λwX gX=>?_));unfold dW at hm;refine WN [0] Q Q (RS (cZ 0 Q Q Q (SA TK Q (TN (WN [1] Q Q (RS ?_))))));iterate 6 (refine SA TK Q ?_)
 refine SX Q Q (fX [.tmp 8,.tmp 10,.tmp 12] TK Q Q zero71 Q Q Q Q Q) (BE hm λr1 hr1 hm=>yM Q Q Q (tI hr1) Q Q (qZJ 14 (.msl 1 2 0 r1.length) Q Q (SA TK Q (TN (WN [3] Q Q (RS (SA TK Q ?_)))))));refine GE hm λg2 hm=>?_;refine qNC [1] Q Q Q (by simp) Q Q Q (tG oM Q (λ_ _ _ h=>(zH h).retD) r1 g2) Q Q ?_;refine mD 3 (sC cX r1).length Q (rG _).symm (mD 15 (sC cX r1).length Q (rG _).symm (TN (WN [3] Q Q (RS (mC (f:=Setting.enc) 2 133 2 Q Q Q (TN (WN [3,4] Q Q ?_)))))));refine aL hm (λb3=>([(4,.msl 2 2 0 b3.length)]:Fr)) (λb3=>([(2,.flat 133 2 (b3.map Setting.enc))]:List (Nat×Blk))) [4] [] Q (λz4 hm=>?_) (λb3 hm=>?_)
 ·refine RS (SA TK Q (SA TK Q (SA TK Q (TN (WN [3,4,17,18,19] Q Q (TB (aZ hm (λ(x8,b9)=>([(4,.msl 2 2 0 b9.length),(19,.d (.int .i64 x8))]:Fr)) (λ(x8,b9)=>([(2,.flat 133 2 (b9.map Setting.enc))]:List (Nat×Blk))) [4,19] [3,17,18] [0,1,2] Q k0 Q Q Q Q Q (λs z10 hm hz10=>?_))))))));obtain⟨x8,b9⟩:=s;refine WN [3,4,17,18,19] Q Q (RS (SA TK Q (TN (WN [3,4,17,18,19,20] Q Q (TQ ?_)))));refine TC _ Q (λh11=>?_) (λh11=>?_)
  ·replace hm:=JT h11 hm;refine TS (WT (WN [3,4,17,18,19] Q Q (TQ (TB (RS (SA TK Q (VE hm λe12 he12 hm=>SX Q Q (pF TK Q Q Q Q he12 Q) ?_)))))));refine SX Q Q (qGX TK Q Q Q Q he12.2 Q) (cW 3 Q Q gQ Q (SA TK Q (SA TK Q (TN (WN [3,4,5,6,17,18,19] Q Q ?_)))));refine aL hm (λx13=>([(34,.d (.bool (x13)))]:Fr)) (λx13=>([]:List (Nat×Blk))) [34] [3,4,6,17,18,19] Q (λz14 hm=>?_) (λx13 hm=>?_)
   ·refine cU follows  ?_;iterate 2 (refine DA [0,1,2,3] TK Q ?_)
    refine d_b [0,1,2,3] TK Q (λq15 hq15=>?_);cases q15
    ·replace hm:=JF hq15 hm;iterate 3 (refine DA [0,1,2,3] TK Q ?_)
     refine GE hm λg16 hm=>DX [0,1,2,3] Q Q (aY Q Q Q Q g16) (VE hm λe17 he17 hm=>DX [0,1,2,3] Q Q (pF TK Q Q Q Q he17 Q) (DX [0,1,2,3] Q Q (qGX TK Q Q Q Q he17.2 Q) (GE hm λg18 hm=>DX [0,1,2,3] Q Q (qWL Q Q Q g18.1 g18.2) (DA [0,1,2,3] TK Q ?_))));refine DT ?_ (by kernel_rfl);refine TN (WT ?_);exact⟨_,[0,1,2,3],(SJ hm),Q,k0,Q⟩
    replace hm:=JT hq15 hm;iterate 8 (refine DA [0,1,2,3] TK Q ?_)
    refine DT ?_ (by kernel_rfl);refine TN (WT ?_);exact⟨_,[0,1,2,3],(SJ hm),Q,k0,Q⟩
   refine WN [3,4,6,17,18,19,34] Q Q ?_;refine TC _ Q (λh20=>?_) (λh20=>?_)
   ·replace hm:=JA h20 hm;refine TG (SA TK Q (SA TK Q (SX Q Q (fX [.tmp 36] TK Q Q gQ Q Q Q Q Q) (GE hm λg21 hm=>gI (f:=Setting.enc) ([e12]:List Setting) TK Q Q gQ Q Q Q Q Q (λh=>absurd h (zQV _)) Q fZ g21 Q Q (SA TK Q (TN (WK (WT ?_))))))));refine WN [3,4,17,18,19] Q Q (TG (GE hm λg22 hm=>SX Q Q (aY Q Q Q Q g22) (SA TK Q (TN (WT ?_)))));exact⟨_,[0,1,2],(SJ hm),Q,k0,Q⟩
   replace hm:=JB h20 hm;refine TS (WK (WT (WN [3,4,17,18,19] Q Q (TG (GE hm λg23 hm=>SX Q Q (aY Q Q Q Q g23) (SA TK Q (TN ?_)))))));refine WT ?_;exact⟨_,[0,1,2],(SJ hm),Q,k0,Q⟩
  replace hm:=JF h11 hm;refine aI (WX (IE hm λv24 hm hz=>?_));rw [hz10 _ hz] at hm;refine WX (WH (WT ?_));exact⟨_,[0,1,2],(SJ hm),Q,k0,Q⟩
 refine WN [4] Q Q (RS (SA TK Q (SA TK Q (TN (WN [2] Q Q (TR ?_))))));obtain rfl:=OJ hm;exact EndsS.one _ Q (dC Q) (.refl _)
theorem sX {p0:Numbering} {p1:Int} {p2:Int} {r:Int} (hm:gT p0 p1 p2=some r):RetN Tryz.prog 142 [p0.enc,.int .i64 p1,.int .i64 p2] (.int .i64 r):=by
 refine .unit (aJ zGO Tryz.func142 Q Tryz.ntmps142 Q Q (λwX gX=>?_)) Q;unfold gT at hm;refine WN [0,1,2] Q Q (RS (cZ 0 Q Q Q (SA TK Q (TN (WN [1,2,3] Q Q (RS (SA TK Q (SA TK Q (SA TK Q (GE hm λg1 hm=>?_))))))))));refine SX Q Q (aY Q Q Q Q g1) (SA TK Q (GE hm λg2 hm=>SX Q Q (aY Q Q Q Q g2) (GE hm λg3 hm=>SX Q Q (aY Q Q Q Q g3) (SA TK Q (GE hm λg4 hm=>SX Q Q (aY Q Q Q Q g4) ?_)))));refine SA TK Q (TN (WN [6] Q Q (TR ?_)));obtain rfl:=OJ hm;exact EndsS.one _ Q (.d _) (.refl _)
theorem lB {p0:Route} {p1:Route} {r:Bool} (hm:fA p0 p1=some r):RetN Tryz.prog 162 [p0.enc,p1.enc] (.bool (r)):=by
 refine .unit (aJ zGB Tryz.func162 Q Tryz.ntmps162 Q Q (λwX gX=>?_)) Q;unfold fA at hm;refine WN [0,1] Q Q (RS (cZ 0 Q Q Q (cZ 1 Q Q Q (SA TK Q (TN (WN [2,3] Q Q ?_))))));refine kJ [(4,.d (.bool (((decide ((0:Int)≤p0.exit))&&(decide (p1.entry=p0.exit))))))] [4] [] Q ?_ ?_
 ·refine TG (SA TK Q (SA TK Q (SA TK Q (SB TK Q (λq1 hq1=>?_)))));cases q1
  ·iterate 7 (refine SA TK Q ?_)
   refine TN (WT ?_);exact⟨[0,1],Q,k0,dJ (bK (bL (by simp [hq1])) Q) Q⟩
  iterate 7 (refine SA TK Q ?_)
  refine TN (WT ?_);exact⟨[0,1],Q,k0,dJ (bK (bL (by simp [hq1])) Q) Q⟩
 refine WN [4] Q Q (TR ?_);obtain rfl:=OJ hm;exact EndsS.one _ Q (.d _) (.refl _)
theorem cY {p0:(List Int)} {p1:Int} {r:Bool} (hm:bP p0 p1=some r):RetN Tryz.prog 57 [.sl 1 (p0.map (D.int .i64)),.int .i64 p1] (.bool (r)):=by
 refine .unit (aJ zLX Tryz.func57 Q Tryz.ntmps57 Q Q (λwX gX=>?_)) Q;unfold bP at hm;refine WN [0,1] Q Q (RS (SA TK Q (TN (WN [0,1] Q Q (RS (SA TK Q (SA TK Q (BE hm λr1 hr1 hm=>SX Q Q (RN Q Q (SC (.d _) (SC (.d _) SN)) (jA hr1)) ?_))))))));refine SA TK Q (SA TK Q (TN (WN [4] Q Q (TR ?_))));obtain rfl:=OJ hm;exact EndsS.one _ Q (.d _) (.refl _)
theorem vI {p0:(List Setting)} {p1:Setting} {r:Int} (hm:gY p0 p1=some r):RetN Tryz.prog 188 [.sl 2 (p0.map Setting.enc),p1.enc] (.int .i64 r):=by
 refine .unit (aJ zFO Tryz.func188 Q Tryz.ntmps188 Q Q (λwX gX=>?_)) Q;unfold gY at hm;refine WN [0,1] Q Q (RS (cZ 0 Q Q Q (SA TK Q (TN (WN [0,3] Q Q ?_)))));refine cM hm (λ_=>([]:Fr)) (λ_=>([]:List (Nat×Blk))) [] [] Q (λz1 hm hz1=>?_) (λj hm=>?_)
 ·refine RS (SA TK Q (SX Q Q (aP TK Q Q Q) (SA TK Q (TN (WN [0,3,7,8] Q Q (TB (aZ hm (λx3=>([(8,.d (.int .i64 x3))]:Fr)) (λx3=>([]:List (Nat×Blk))) [8] [0,3,7] [0] Q k0 Q Q Q Q Q (λx3 z4 hm hz4=>WN [0,3,7,8] Q Q ?_))))))));refine RS (SA TK Q (TN (WN [0,3,7,8,9] Q Q (TQ ?_))));refine TC _ Q (λh5=>?_) (λh5=>?_)
  ·replace hm:=JT h5 hm;refine TS (WT (WN [0,3,7,8] Q Q (TQ (TB (RS (SA TK Q (SA TK Q (TN (WN [0,3,5,7,8] Q Q ?_)))))))));refine bO follows  ?_;iterate 3 (refine DA [0] TK Q ?_)
   refine VE hm λe6 he6 hm=>DX [0] Q Q (bZ TK Q Q Q Q he6) (DA [0] TK Q (GE hm λg7 hm=>DX [0] Q Q (qWM Q Q Q g7.1 g7.2) ?_));refine DT ?_ (by kernel_rfl);refine TN (WN [0,3,5,7,8,16] Q Q ?_);refine TC _ Q (λh9=>?_) (λh9=>?_)
   ·replace hm:=JT h9 hm;refine RS (SA TK Q (SA TK Q (TN (WN [4] Q Q (TR (WB (WR (IE hm λv10 hm hz=>?_))))))));rw [hz4 _ hz] at hm;refine WR (WB (IE hm λv11 hm hz=>?_));rw [hz1 _ hz] at hm;refine WR ?_;obtain rfl:=OJ hm;exact EndsS.one _ Q (.d _) (.refl _)
   replace hm:=JF h9 hm;refine TS (WK (WT (WN [0,3,7,8] Q Q (TG (GE hm λg12 hm=>SX Q Q (aY Q Q Q Q g12) (SA TK Q (TN ?_)))))));refine WT ?_;exact⟨_,[0],(SJ hm),Q,k0,Q⟩
  replace hm:=JF h5 hm;refine aI (WX (IE hm λv13 hm hz=>?_));rw [hz4 _ hz] at hm;refine WX (WH (WT ?_));exact⟨_,[0],(SJ hm),Q,k0,Q⟩
 refine WN [] Q Q (RS (SA TK Q (TN (WN [4] Q Q (TR ?_)))));obtain rfl:=OJ hm;exact EndsS.one _ Q (.d _) (.refl _)
theorem jL {p0:(List Setting)} {p1:Setting} {r:Bool} (hm:cP p0 p1=some r):RetN Tryz.prog 171 [.sl 2 (p0.map Setting.enc),p1.enc] (.bool (r)):=by
 refine .unit (aJ zFS Tryz.func171 Q Tryz.ntmps171 Q Q (λwX gX=>?_)) Q;unfold cP at hm;refine WN [0,1] Q Q (RS (cZ 0 Q Q Q (SA TK Q (TN (WN [0,3] Q Q (RS (SA TK Q (SA TK Q (BE hm λr1 hr1 hm=>?_)))))))));refine SX Q Q (RN Q Q (SC (.d _) (SC (.d _) SN)) (vI hr1)) (SA TK Q (SA TK Q (TN (WN [4] Q Q (TR ?_)))));obtain rfl:=OJ hm;exact EndsS.one _ Q (.d _) (.refl _)
theorem iB {p0:Numbering} {p1:Int} {r:Int} (hm:dI p0 p1=some r):RetN Tryz.prog 37 [p0.enc,.int .i64 p1] (.int .i64 r):=by
 refine .unit (aJ zMI Tryz.func37 Q Tryz.ntmps37 Q Q (λwX gX=>?_)) Q;unfold dI at hm;refine WN [0,1] Q Q (RS (cZ 0 Q Q Q (SA TK Q (TN (WN [1,2] Q Q (RS (SA TK Q (SA TK Q (SA TK Q (GE hm λg1 hm=>?_))))))))));refine SX Q Q (aY Q Q Q Q g1) (SA TK Q (TN (WN [4] Q Q (TR ?_))));obtain rfl:=OJ hm;exact EndsS.one _ Q (.d _) (.refl _)
theorem wU {p0:Int} {r:ByteArray} (hm:mS p0=some r):RetN Tryz.prog 97 [.int .i64 p0] (.str r):=by
 unfold mS at hm;refine GE hm λh hm=>?_;obtain rfl:=OJ hm;obtain⟨i,rfl⟩:=Int.eq_ofNat_of_zero_le h.1;exact qOM i (by omega)
theorem cO {p0:Int} {p1:(List ByteArray)} {p2:(List ByteArray)} {r:(List ByteArray)} (hm:bN p0 p1 p2=some r):Ret Tryz.prog 96 [.box 28 [.msl 1 1 0 p2.length],.flat 9 1 (p2.map D.str)] (λj=>Nat.beq j 1) [.d (.int .i64 p0),.d (.sl 1 (p1.map D.str)),.mptr 0 0 0 0] (.tup []) [.box 28 [.msl 1 1 0 r.length],.flat 9 1 (r.map D.str)]:=by
 refine dE zKR Tryz.func96 Q Tryz.ntmps96 Q Q (λwX gX=>?_);unfold bN at hm;refine WN [0,1,2] Q Q (RS (SA TK Q (SX Q Q (aP TK Q Q Q) (SA TK Q (TN (WN [0,2,7,8,9] Q Q (TB (aZ hm (λ(x4,b5)=>([(9,.d (.int .i64 x4))]:Fr)) (λ(x4,b5)=>([(0,.box 28 [.msl 1 1 0 b5.length]),(1,.flat 9 1 (b5.map D.str))]:List (Nat×Blk))) [9] [0,2,7,8] [0,1] Q (kB Q) Q Q Q Q Q (λs z6 hm hz6=>?_)))))))));obtain⟨x4,b5⟩:=s;refine WN [0,2,7,8,9] Q Q (RS (SA TK Q (TN (WN [0,2,7,8,9,10] Q Q (TQ ?_)))));refine TC _ Q (λh7=>?_) (λh7=>?_)
 ·replace hm:=JT h7 hm;refine TS (WT (WN [0,2,7,8,9] Q Q (TQ (TB (RS (VE hm λe8 he8 hm=>SX Q Q (bZ TK Q Q Q Q he8) (SA TK Q (SA TK Q ?_))))))));refine TN (WN [0,2,6,7,8,9] Q Q (cU follows  ?_));iterate 2 (refine DA [0,1] TK Q ?_)
  refine GE hm λg9 hm=>DX [0,1] Q Q (zBP Q Q Q g9) (DA [0,1] TK Q (BE hm λr10 hr10 hm=>DX [0,1] Q Q (RN Q Q (SC (.d _) SN) (wU hr10)) (GE hm λg11 hm=>DX [0,1] Q Q (zBP Q Q Q g11) (DX [0,1] Q Q (fX [.tmp 18] TK Q Q zM Q Q Q Q Q) ?_))));refine DT ?_ (by kernel_rfl);refine GE hm λg12 hm=>gI (f:=D.str) ([((e8++(⟨#[46]⟩:ByteArray))++r10)]:List ByteArray) TK Q Q zM Q Q Q Q Q (λ_=>Q) Q fZ g12 Q Q (SA TK Q (TN (WK (WT (WN [0,2,7,8,9] Q Q (TG (GE hm λg13 hm=>?_)))))));refine SX Q Q (aY Q Q Q Q g13) (SA TK Q (TN (WT ?_)));exact⟨_,[0,1],(SJ hm),Q,(kB Q),Q⟩
 replace hm:=JF h7 hm;refine aI (WX (IE hm λv14 hm hz=>?_));rw [hz6 _ hz] at hm;refine WX (WH ?_);obtain rfl:=OJ hm;exact⟨_,[0,1],res Q,by decide,(kB Q),Q,Q⟩
theorem tK {p0:Numbering} {r:(List ByteArray)} (hm:fT p0=some r):RetD Tryz.prog 42 [p0.enc] (.sl 1 (r.map D.str)):=by
 refine .of (mv:=λ_=>false) (aJ zMD Tryz.func42 Q Tryz.ntmps42 Q Q (λwX gX=>?_));unfold fT at hm;refine WN [0] Q Q (RS (cZ 0 Q Q Q (SA TK Q (TN (WN [1] Q Q (RS (cW 1 Q Q zero28 Q (gN (f:=D.str) 1 0 2 9 1 Q Q Q ?_))))))));refine TN (WN [1,3] Q Q (RS (SX Q Q (qEP Q) (SA TK Q (TN (WN [1,3,4] Q Q ?_))))));refine aL hm (λb1=>([]:Fr)) (λb1=>([(1,.box 28 [.msl 2 1 0 b1.length]),(2,.flat 9 1 (b1.map D.str))]:List (Nat×Blk))) [] [1,3,4] Q (λz2 hm=>?_) (λb1 hm=>?_)
 ·refine RS ?_;iterate 4 (refine SA TK Q ?_)
  refine TN (WN [1,3,4,15,16] Q Q (TB (aZ hm (λ(x6,b7)=>([(16,.d (.int .i64 x6))]:Fr)) (λ(x6,b7)=>([(1,.box 28 [.msl 2 1 0 b7.length]),(2,.flat 9 1 (b7.map D.str))]:List (Nat×Blk))) [16] [1,3,4,15] [0,1,2] Q k0 Q Q Q Q Q (λs z8 hm hz8=>?_))));obtain⟨x6,b7⟩:=s;refine WN [1,3,4,15,16] Q Q (RS (SA TK Q (TN (WN [1,3,4,15,16,17] Q Q (TQ ?_)))));refine TC _ Q (λh9=>?_) (λh9=>?_)
  ·replace hm:=JT h9 hm;refine TS (WT (WN [1,3,4,15,16] Q Q (TQ (TB (RS (SA TK Q (SA TK Q (TN (WN [1,3,4,5,15,16] Q Q ?_)))))))));refine TG (SA TK Q (SA TK Q (SX Q Q (fX [.const (Value.string ⟨#[102,114,101,101]⟩),.const (Value.string ⟨#[111,112,101,110]⟩)] TK Q Q zM Q Q Q Q Q) (BE hm λr10 hr10 hm=>?_))));refine eS [1,2] (λj=>Nat.beq j 1) Q Q Q (by decide) Q Q Q Q (cO hr10) Q Q Q ?_;refine TN (WK (WT (WN [1,3,4,15,16] Q Q (TG (GE hm λg11 hm=>SX Q Q (aY Q Q Q Q g11) (SA TK Q (TN ?_)))))));refine WT ?_;exact⟨_,[0,1,2],(SJ hm),Q,k0,Q⟩
  replace hm:=JF h9 hm;refine aI (WX (IE hm λv12 hm hz=>?_));rw [hz8 _ hz] at hm;refine WX (WH (WT ?_));exact⟨_,[0,1,2],(SJ hm),Q,k0,Q⟩
 refine WN [1,3,4] Q Q ?_;refine aL hm (λb13=>([]:Fr)) (λb13=>([(1,.box 28 [.msl 2 1 0 b13.length]),(2,.flat 9 1 (b13.map D.str))]:List (Nat×Blk))) [] [1,3,4] Q (λz14 hm=>?_) (λb13 hm=>?_)
 ·refine RS (SA TK Q (SA TK Q (SA TK Q (SX Q Q (aP TK Q Q Q) (SA TK Q (TN (WN [1,3,4,27,28] Q Q (TB (aZ hm (λ(x18,b19)=>([(28,.d (.int .i64 x18))]:Fr)) (λ(x18,b19)=>([(1,.box 28 [.msl 2 1 0 b19.length]),(2,.flat 9 1 (b19.map D.str))]:List (Nat×Blk))) [28] [1,3,4,27] [0,1,2] Q k0 Q Q Q Q Q (λs z20 hm hz20=>?_))))))))));obtain⟨x18,b19⟩:=s;refine WN [1,3,4,27,28] Q Q (RS (SA TK Q (TN (WN [1,3,4,27,28,29] Q Q (TQ ?_)))));refine TC _ Q (λh21=>?_) (λh21=>?_)
  ·replace hm:=JT h21 hm;refine TS (WT (WN [1,3,4,27,28] Q Q (TQ (TB (RS (SA TK Q (SA TK Q (TN (WN [1,3,4,6,27,28] Q Q ?_)))))))));refine TG (SA TK Q (SA TK Q (SX Q Q (fX [.const (Value.string ⟨#[110,111,114,109,97,108]⟩),.const (Value.string ⟨#[114,101,118,101,114,115,101]⟩)] TK Q Q zM Q Q Q Q Q) (BE hm λr22 hr22 hm=>?_))));refine eS [1,2] (λj=>Nat.beq j 1) Q Q Q (by decide) Q Q Q Q (cO hr22) Q Q Q ?_;refine TN (WK (WT (WN [1,3,4,27,28] Q Q (TG (GE hm λg23 hm=>SX Q Q (aY Q Q Q Q g23) (SA TK Q (TN ?_)))))));refine WT ?_;exact⟨_,[0,1,2],(SJ hm),Q,k0,Q⟩
  replace hm:=JF h21 hm;refine aI (WX (IE hm λv24 hm hz=>?_));rw [hz20 _ hz] at hm;refine WX (WH (WT ?_));exact⟨_,[0,1,2],(SJ hm),Q,k0,Q⟩
 refine WN [1,3,4] Q Q ?_;refine aL hm (λb25=>([]:Fr)) (λb25=>([(1,.box 28 [.msl 2 1 0 b25.length]),(2,.flat 9 1 (b25.map D.str))]:List (Nat×Blk))) [] [1,3,4] Q (λz26 hm=>?_) (λb25 hm=>?_)
 ·refine RS (SA TK Q (SA TK Q (SA TK Q (SX Q Q (aP TK Q Q Q) (SA TK Q (TN (WN [1,3,4,39,40] Q Q (TB (aZ hm (λ(x30,b31)=>([(40,.d (.int .i64 x30))]:Fr)) (λ(x30,b31)=>([(1,.box 28 [.msl 2 1 0 b31.length]),(2,.flat 9 1 (b31.map D.str))]:List (Nat×Blk))) [40] [1,3,4,39] [0,1,2] Q k0 Q Q Q Q Q (λs z32 hm hz32=>?_))))))))));obtain⟨x30,b31⟩:=s;refine WN [1,3,4,39,40] Q Q (RS (SA TK Q (TN (WN [1,3,4,39,40,41] Q Q (TQ ?_)))));refine TC _ Q (λh33=>?_) (λh33=>?_)
  ·replace hm:=JT h33 hm;refine TS (WT (WN [1,3,4,39,40] Q Q (TQ (TB (RS (SA TK Q (SA TK Q (TN (WN [1,3,4,7,39,40] Q Q ?_)))))))));refine TG (SA TK Q (SA TK Q (SX Q Q (fX [.const (Value.string ⟨#[117,110,99,108,97,105,109,101,100]⟩),.const (Value.string ⟨#[112,97,115,115,101,100]⟩),.const (Value.string ⟨#[99,97,108,108]⟩),.const (Value.string ⟨#[99,97,110,99,101,108]⟩)] TK Q Q zM Q Q Q Q Q) (BE hm λr34 hr34 hm=>?_))));refine eS [1,2] (λj=>Nat.beq j 1) Q Q Q (by decide) Q Q Q Q (cO hr34) Q Q Q ?_;refine TN (WK (WT (WN [1,3,4,39,40] Q Q (TG (GE hm λg35 hm=>SX Q Q (aY Q Q Q Q g35) (SA TK Q (TN ?_)))))));refine WT ?_;exact⟨_,[0,1,2],(SJ hm),Q,k0,Q⟩
  replace hm:=JF h33 hm;refine aI (WX (IE hm λv36 hm hz=>?_));rw [hz32 _ hz] at hm;refine WX (WH (WT ?_));exact⟨_,[0,1,2],(SJ hm),Q,k0,Q⟩
 refine WN [1,3,4] Q Q ?_;refine aL hm (λb37=>([]:Fr)) (λb37=>([(1,.box 28 [.msl 2 1 0 b37.length]),(2,.flat 9 1 (b37.map D.str))]:List (Nat×Blk))) [] [1,3,4] Q (λz38 hm=>?_) (λb37 hm=>?_)
 ·refine RS (SA TK Q (SA TK Q (SA TK Q (SX Q Q (aP TK Q Q Q) (SA TK Q (TN (WN [1,3,4,51,52] Q Q (TB (aZ hm (λ(x42,b43)=>([(52,.d (.int .i64 x42))]:Fr)) (λ(x42,b43)=>([(1,.box 28 [.msl 2 1 0 b43.length]),(2,.flat 9 1 (b43.map D.str))]:List (Nat×Blk))) [52] [1,3,4,51] [0,1,2] Q k0 Q Q Q Q Q (λs z44 hm hz44=>?_))))))))));obtain⟨x42,b43⟩:=s;refine WN [1,3,4,51,52] Q Q (RS (SA TK Q (TN (WN [1,3,4,51,52,53] Q Q (TQ ?_)))));refine TC _ Q (λh45=>?_) (λh45=>?_)
  ·replace hm:=JT h45 hm;refine TS (WT (WN [1,3,4,51,52] Q Q (TQ (TB (RS (SA TK Q (SA TK Q (TN (WN [1,3,4,8,51,52] Q Q ?_)))))))));refine TG (SA TK Q (SA TK Q (SX Q Q (fX [.const (Value.string ⟨#[108,105,101]⟩)] TK Q Q zM Q Q Q Q Q) (BE hm λr46 hr46 hm=>?_))));refine eS [1,2] (λj=>Nat.beq j 1) Q Q Q (by decide) Q Q Q Q (cO hr46) Q Q Q ?_;refine TN (WK (WT (WN [1,3,4,51,52] Q Q (TG (GE hm λg47 hm=>SX Q Q (aY Q Q Q Q g47) (SA TK Q (TN ?_)))))));refine WT ?_;exact⟨_,[0,1,2],(SJ hm),Q,k0,Q⟩
  replace hm:=JF h45 hm;refine aI (WX (IE hm λv48 hm hz=>?_));rw [hz44 _ hz] at hm;refine WX (WH (WT ?_));exact⟨_,[0,1,2],(SJ hm),Q,k0,Q⟩
 refine WN [1,3,4] Q Q ?_;refine aL hm (λb49=>([]:Fr)) (λb49=>([(1,.box 28 [.msl 2 1 0 b49.length]),(2,.flat 9 1 (b49.map D.str))]:List (Nat×Blk))) [] [1,3,4] Q (λz50 hm=>?_) (λb49 hm=>?_)
 ·refine RS (SA TK Q (SA TK Q (SA TK Q (SX Q Q (aP TK Q Q Q) (SA TK Q (TN (WN [1,3,4,63,64] Q Q (TB (aZ hm (λ(x54,b55)=>([(64,.d (.int .i64 x54))]:Fr)) (λ(x54,b55)=>([(1,.box 28 [.msl 2 1 0 b55.length]),(2,.flat 9 1 (b55.map D.str))]:List (Nat×Blk))) [64] [1,3,4,63] [0,1,2] Q k0 Q Q Q Q Q (λs z56 hm hz56=>?_))))))))));obtain⟨x54,b55⟩:=s;refine WN [1,3,4,63,64] Q Q (RS (SA TK Q (TN (WN [1,3,4,63,64,65] Q Q (TQ ?_)))));refine TC _ Q (λh57=>?_) (λh57=>?_)
  ·replace hm:=JT h57 hm;refine TS (WT (WN [1,3,4,63,64] Q Q ?_));refine aL hm (λb58=>([]:Fr)) (λb58=>([(1,.box 28 [.msl 2 1 0 b58.length]),(2,.flat 9 1 (b58.map D.str))]:List (Nat×Blk))) [] [1,3,4,63,64] Q (λz59 hm=>?_) (λb58 hm=>?_)
   ·refine TB (RS (SA TK Q (SA TK Q (TN (WN [1,3,4,9,63,64] Q Q (RS (SA TK Q (SA TK Q (SX Q Q (fX [.const (Value.string ⟨#[115,101,116]⟩),.const (Value.string ⟨#[99,108,101,97,114]⟩),.const (Value.string ⟨#[117,115,101,100]⟩),.const (Value.string ⟨#[104,101,108,100]⟩)] TK Q Q zM Q Q Q Q Q) (BE hm λr60 hr60 hm=>?_))))))))));refine eS [1,2] (λj=>Nat.beq j 1) Q Q Q (by decide) Q Q Q Q (cO hr60) Q Q Q ?_;refine TN (WN [1,3,4,9,63,64] Q Q ?_);refine aL hm (λb61=>([]:Fr)) (λb61=>([(1,.box 28 [.msl 2 1 0 b61.length]),(2,.flat 9 1 (b61.map D.str))]:List (Nat×Blk))) [] [1,3,4,9,63,64] Q (λz62 hm=>?_) (λb61 hm=>?_)
    ·refine RS (SA TK Q (SA TK Q (BE hm λr63 hr63 hm=>SX Q Q (RN Q Q (SC (.d _) (SC (.d _) SN)) (bV hr63)) (SA TK Q (TN (WN [1,3,4,9,63,64,73,74] Q Q (TB (aZ hm (λ(x67,b68)=>([(74,.d (.int .i64 x67))]:Fr)) (λ(x67,b68)=>([(1,.box 28 [.msl 2 1 0 b68.length]),(2,.flat 9 1 (b68.map D.str))]:List (Nat×Blk))) [74] [1,3,4,9,63,64,73] [0,1,2] Q k0 Q Q Q Q Q (λs z69 hm hz69=>?_)))))))));obtain⟨x67,b68⟩:=s;refine WN [1,3,4,9,63,64,73,74] Q Q (RS (SA TK Q (TN (WN [1,3,4,9,63,64,73,74,75] Q Q (TQ ?_)))));refine TC _ Q (λh70=>?_) (λh70=>?_)
     ·replace hm:=JT h70 hm;refine TS (WT (WN [1,3,4,9,63,64,73,74] Q Q (TQ (TB (RS (SA TK Q (SA TK Q (TN (WN [1,3,4,9,10,63,64,73,74] Q Q ?_)))))))));refine TG (SA TK Q (SA TK Q (SA TK Q (BE hm λr71 hr71 hm=>SX Q Q (RN Q Q (SC (.d _) SN) (wU hr71)) (GE hm λg72 hm=>SX Q Q (zBP Q Q Q g72) (SX Q Q (fX [.tmp 81] TK Q Q zM Q Q Q Q Q) (BE hm λr73 hr73 hm=>?_)))))));refine eS [1,2] (λj=>Nat.beq j 1) Q Q Q (by decide) Q Q Q Q (cO hr73) Q Q Q ?_;refine TN (WK (WT (WN [1,3,4,9,63,64,73,74] Q Q (TG (GE hm λg74 hm=>SX Q Q (aY Q Q Q Q g74) (SA TK Q (TN ?_)))))));refine WT ?_;exact⟨_,[0,1,2],(SJ hm),Q,k0,Q⟩
     replace hm:=JF h70 hm;refine aI (WX (IE hm λv75 hm hz=>?_));rw [hz69 _ hz] at hm;refine WX (WH (WT ?_));exact⟨_,[0,1,2],(SJ hm),Q,k0,Q⟩
    refine WN [1,3,4,9,63,64] Q Q (TG (SA TK Q (SA TK Q (SX Q Q (fX [.const (Value.string ⟨#[119,97,105,116]⟩),.const (Value.string ⟨#[115,116,97,110,100]⟩)] TK Q Q zM Q Q Q Q Q) (BE hm λr76 hr76 hm=>?_)))));refine eS [1,2] (λj=>Nat.beq j 1) Q Q Q (by decide) Q Q Q Q (cO hr76) Q Q Q ?_;refine TN (WK (WT ?_));exact⟨_,[0,1,2],(SJ hm),Q,k0,Q⟩
   refine WN [1,3,4,63,64] Q Q (TG (GE hm λg77 hm=>SX Q Q (aY Q Q Q Q g77) (SA TK Q (TN (WT ?_)))));exact⟨_,[0,1,2],(SJ hm),Q,k0,Q⟩
  replace hm:=JF h57 hm;refine aI (WX (IE hm λv78 hm hz=>?_));rw [hz56 _ hz] at hm;refine WX (WH (WT ?_));exact⟨_,[0,1,2],(SJ hm),Q,k0,Q⟩
 refine WN [1,3,4] Q Q ?_;refine aL hm (λb79=>([]:Fr)) (λb79=>([(1,.box 28 [.msl 2 1 0 b79.length]),(2,.flat 9 1 (b79.map D.str))]:List (Nat×Blk))) [] [3] Q (λz80 hm=>?_) (λb79 hm=>?_)
 ·refine RS (SA TK Q (SA TK Q (SA TK Q (SX Q Q (aP TK Q Q Q) (SA TK Q (TN (WN [3,4,93,94] Q Q (TB (aZ hm (λ(x84,b85)=>([(94,.d (.int .i64 x84))]:Fr)) (λ(x84,b85)=>([(1,.box 28 [.msl 2 1 0 b85.length]),(2,.flat 9 1 (b85.map D.str))]:List (Nat×Blk))) [94] [3,4,93] [0,1,2] Q k0 Q Q Q Q Q (λs z86 hm hz86=>?_))))))))));obtain⟨x84,b85⟩:=s;refine WN [3,4,93,94] Q Q (RS (SA TK Q (TN (WN [3,4,93,94,95] Q Q (TQ ?_)))));refine TC _ Q (λh87=>?_) (λh87=>?_)
  ·replace hm:=JT h87 hm;refine TS (WT (WN [3,4,93,94] Q Q (TQ (TB (RS (SA TK Q (SA TK Q (TN (WN [3,4,11,93,94] Q Q ?_)))))))));refine TG (SA TK Q (SA TK Q (SX Q Q (fX [.const (Value.string ⟨#[107,101,101,112]⟩),.const (Value.string ⟨#[117,115,101]⟩),.const (Value.string ⟨#[104,111,108,100]⟩),.const (Value.string ⟨#[97,99,116]⟩),.const (Value.string ⟨#[99,97,108,108,101,100]⟩)] TK Q Q zM Q Q Q Q Q) (BE hm λr88 hr88 hm=>?_))));refine eS [1,2] (λj=>Nat.beq j 1) Q Q Q (by decide) Q Q Q Q (cO hr88) Q Q Q ?_;refine TN (WK (WT (WN [3,4,93,94] Q Q (TG (GE hm λg89 hm=>SX Q Q (aY Q Q Q Q g89) (SA TK Q (TN ?_)))))));refine WT ?_;exact⟨_,[0,1,2],(SJ hm),Q,k0,Q⟩
  replace hm:=JF h87 hm;refine aI (WX (IE hm λv90 hm hz=>?_));rw [hz86 _ hz] at hm;refine WX (WH (WT ?_));exact⟨_,[0,1,2],(SJ hm),Q,k0,Q⟩
 refine WN [3] Q Q (RS (SA TK Q (SA TK Q (TN (WN [2] Q Q (TR ?_))))));obtain rfl:=OJ hm;exact EndsS.one _ Q (dC Q) (.refl _)
theorem bW {p0:Builder} {p1:Int} {p2:Int} {r:Expr} (hm:bG p0 p1 p2=some r):Ret Tryz.prog 80 [.box 81 [.d (.sl 14 (p0.numbering.t.routes.map Route.enc)),.d (.sl 1 (p0.numbering.t.points.map (D.int .i64))),.d (.sl 1 (p0.numbering.t.homes.map (D.int .i64))),.d (.int .i64 p0.numbering.t.sections),.d (.int .i64 p0.numbering.t.signals),.d (.int .i64 p0.numbering.inputs),.d (.sl 1 (p0.numbering.bases.map (D.int .i64))),.d (.int .i64 p0.numbering.extra),.d (.int .i64 p0.numbering.count),.msl 1 6 0 p0.rungs.length],.flat 40 6 (p0.rungs.map Rung.enc)] (λ_=>false) [.mptr 0 0 0 0,.d (.int .i64 p1),.d (.int .i64 p2)] (.d (r.enc)) [.box 81 [.d (.sl 14 (p0.numbering.t.routes.map Route.enc)),.d (.sl 1 (p0.numbering.t.points.map (D.int .i64))),.d (.sl 1 (p0.numbering.t.homes.map (D.int .i64))),.d (.int .i64 p0.numbering.t.sections),.d (.int .i64 p0.numbering.t.signals),.d (.int .i64 p0.numbering.inputs),.d (.sl 1 (p0.numbering.bases.map (D.int .i64))),.d (.int .i64 p0.numbering.extra),.d (.int .i64 p0.numbering.count),.msl 1 6 0 p0.rungs.length],.flat 40 6 (p0.rungs.map Rung.enc)]:=by
 refine dE zLH Tryz.func80 Q Tryz.ntmps80 Q Q (λwX gX=>?_);unfold bG at hm;refine WN [0,1,2] Q Q (RS (cW 2 Q Q bE Q (dK 2 [none,none,some 3] Q Q (TN (WN [0,1,2,6] Q Q (RS ?_))))));iterate 6 (refine SA TK Q ?_)
 refine BE hm λr1 hr1 hm=>SX Q Q (RN Q Q (SC (.d _) (SC (.d _) (SC (.d _) SN))) (cD hr1)) (BE hm λr2 hr2 hm=>SX Q Q (RD Q Q Q (bU hr2)) (SA TK Q (TN (WN [6] Q Q (TR ?_)))));obtain rfl:=OJ hm;exact⟨_,[0,1],.mk _ (.cons (.agg (TK.lay Q) Q Q Q Q) .nil) Q,by decide,(kB Q),Q,Q⟩
theorem bX {p0:Builder} {p1:Int} {p2:Int} {r:Expr} (hm:bI p0 p1 p2=some r):Ret Tryz.prog 81 [.box 81 [.d (.sl 14 (p0.numbering.t.routes.map Route.enc)),.d (.sl 1 (p0.numbering.t.points.map (D.int .i64))),.d (.sl 1 (p0.numbering.t.homes.map (D.int .i64))),.d (.int .i64 p0.numbering.t.sections),.d (.int .i64 p0.numbering.t.signals),.d (.int .i64 p0.numbering.inputs),.d (.sl 1 (p0.numbering.bases.map (D.int .i64))),.d (.int .i64 p0.numbering.extra),.d (.int .i64 p0.numbering.count),.msl 1 6 0 p0.rungs.length],.flat 40 6 (p0.rungs.map Rung.enc)] (λ_=>false) [.mptr 0 0 0 0,.d (.int .i64 p1),.d (.int .i64 p2)] (.d (r.enc)) [.box 81 [.d (.sl 14 (p0.numbering.t.routes.map Route.enc)),.d (.sl 1 (p0.numbering.t.points.map (D.int .i64))),.d (.sl 1 (p0.numbering.t.homes.map (D.int .i64))),.d (.int .i64 p0.numbering.t.sections),.d (.int .i64 p0.numbering.t.signals),.d (.int .i64 p0.numbering.inputs),.d (.sl 1 (p0.numbering.bases.map (D.int .i64))),.d (.int .i64 p0.numbering.extra),.d (.int .i64 p0.numbering.count),.msl 1 6 0 p0.rungs.length],.flat 40 6 (p0.rungs.map Rung.enc)]:=by
 refine dE zLG Tryz.func81 Q Tryz.ntmps81 Q Q (λwX gX=>?_);unfold bI at hm;refine WN [0,1,2] Q Q (RS (cW 2 Q Q bE Q (dK 2 [none,none,some 3] Q Q (TN (WN [0,1,2,6] Q Q (RS ?_))))));iterate 6 (refine SA TK Q ?_)
 refine BE hm λr1 hr1 hm=>SX Q Q (RN Q Q (SC (.d _) (SC (.d _) (SC (.d _) SN))) (rP hr1)) (BE hm λr2 hr2 hm=>SX Q Q (RD Q Q Q (bU hr2)) (SA TK Q (TN (WN [6] Q Q (TR ?_)))));obtain rfl:=OJ hm;exact⟨_,[0,1],.mk _ (.cons (.agg (TK.lay Q) Q Q Q Q) .nil) Q,by decide,(kB Q),Q,Q⟩
theorem eL {p0:Builder} {p1:Int} {p2:Int} {r:Expr} (hm:cH p0 p1 p2=some r):Ret Tryz.prog 90 [.box 81 [.d (.sl 14 (p0.numbering.t.routes.map Route.enc)),.d (.sl 1 (p0.numbering.t.points.map (D.int .i64))),.d (.sl 1 (p0.numbering.t.homes.map (D.int .i64))),.d (.int .i64 p0.numbering.t.sections),.d (.int .i64 p0.numbering.t.signals),.d (.int .i64 p0.numbering.inputs),.d (.sl 1 (p0.numbering.bases.map (D.int .i64))),.d (.int .i64 p0.numbering.extra),.d (.int .i64 p0.numbering.count),.msl 1 6 0 p0.rungs.length],.flat 40 6 (p0.rungs.map Rung.enc)] (λ_=>false) [.mptr 0 0 0 0,.d (.int .i64 p1),.d (.int .i64 p2)] (.d (r.enc)) [.box 81 [.d (.sl 14 (p0.numbering.t.routes.map Route.enc)),.d (.sl 1 (p0.numbering.t.points.map (D.int .i64))),.d (.sl 1 (p0.numbering.t.homes.map (D.int .i64))),.d (.int .i64 p0.numbering.t.sections),.d (.int .i64 p0.numbering.t.signals),.d (.int .i64 p0.numbering.inputs),.d (.sl 1 (p0.numbering.bases.map (D.int .i64))),.d (.int .i64 p0.numbering.extra),.d (.int .i64 p0.numbering.count),.msl 1 6 0 p0.rungs.length],.flat 40 6 (p0.rungs.map Rung.enc)]:=by
 refine dE zKX Tryz.func90 Q Tryz.ntmps90 Q Q (λwX gX=>?_);unfold cH at hm;refine WN [0,1,2] Q Q (RS (cW 2 Q Q bE Q (dK 2 [none,none,some 3] Q Q (TN (WN [0,1,2,6] Q Q (RS ?_))))));iterate 6 (refine SA TK Q ?_)
 refine GE hm λg1 hm=>SX Q Q (aY Q Q Q Q g1) (BE hm λr2 hr2 hm=>SX Q Q (RN Q Q (SC (.d _) (SC (.d _) (SC (.d _) SN))) (cD hr2)) (BE hm λr3 hr3 hm=>SX Q Q (RD Q Q Q (bU hr3)) (SA TK Q (TN (WN [6] Q Q ?_)))));refine TR ?_;obtain rfl:=OJ hm;exact⟨_,[0,1],.mk _ (.cons (.agg (TK.lay Q) Q Q Q Q) .nil) Q,by decide,(kB Q),Q,Q⟩
theorem cG {p0:Builder} {p1:Int} {r:Expr} (hm:bQ p0 p1=some r):Ret Tryz.prog 86 [.box 81 [.d (.sl 14 (p0.numbering.t.routes.map Route.enc)),.d (.sl 1 (p0.numbering.t.points.map (D.int .i64))),.d (.sl 1 (p0.numbering.t.homes.map (D.int .i64))),.d (.int .i64 p0.numbering.t.sections),.d (.int .i64 p0.numbering.t.signals),.d (.int .i64 p0.numbering.inputs),.d (.sl 1 (p0.numbering.bases.map (D.int .i64))),.d (.int .i64 p0.numbering.extra),.d (.int .i64 p0.numbering.count),.msl 1 6 0 p0.rungs.length],.flat 40 6 (p0.rungs.map Rung.enc)] (λ_=>false) [.mptr 0 0 0 0,.d (.int .i64 p1)] (.d (r.enc)) [.box 81 [.d (.sl 14 (p0.numbering.t.routes.map Route.enc)),.d (.sl 1 (p0.numbering.t.points.map (D.int .i64))),.d (.sl 1 (p0.numbering.t.homes.map (D.int .i64))),.d (.int .i64 p0.numbering.t.sections),.d (.int .i64 p0.numbering.t.signals),.d (.int .i64 p0.numbering.inputs),.d (.sl 1 (p0.numbering.bases.map (D.int .i64))),.d (.int .i64 p0.numbering.extra),.d (.int .i64 p0.numbering.count),.msl 1 6 0 p0.rungs.length],.flat 40 6 (p0.rungs.map Rung.enc)]:=by
 refine dE zLB Tryz.func86 Q Tryz.ntmps86 Q Q (λwX gX=>?_);unfold bQ at hm;refine WN [0,1] Q Q (RS (cW 2 Q Q bE Q (dK 2 [none,none,some 3] Q Q (TN (WN [0,1,4] Q Q (RS ?_))))));iterate 5 (refine SA TK Q ?_)
 refine BE hm λr1 hr1 hm=>SX Q Q (RN Q Q (SC (.d _) (SC (.d _) (SC (.d _) SN))) (lX hr1)) (BE hm λr2 hr2 hm=>SX Q Q (RD Q Q Q (bU hr2)) (SA TK Q (TN (WN [4] Q Q (TR ?_)))));obtain rfl:=OJ hm;exact⟨_,[0,1],.mk _ (.cons (.agg (TK.lay Q) Q Q Q Q) .nil) Q,by decide,(kB Q),Q,Q⟩
theorem jO {p0:Builder} {p1:Int} {r:Expr} (hm:dZ p0 p1=some r):Ret Tryz.prog 82 [.box 81 [.d (.sl 14 (p0.numbering.t.routes.map Route.enc)),.d (.sl 1 (p0.numbering.t.points.map (D.int .i64))),.d (.sl 1 (p0.numbering.t.homes.map (D.int .i64))),.d (.int .i64 p0.numbering.t.sections),.d (.int .i64 p0.numbering.t.signals),.d (.int .i64 p0.numbering.inputs),.d (.sl 1 (p0.numbering.bases.map (D.int .i64))),.d (.int .i64 p0.numbering.extra),.d (.int .i64 p0.numbering.count),.msl 1 6 0 p0.rungs.length],.flat 40 6 (p0.rungs.map Rung.enc)] (λ_=>false) [.mptr 0 0 0 0,.d (.int .i64 p1)] (.d (r.enc)) [.box 81 [.d (.sl 14 (p0.numbering.t.routes.map Route.enc)),.d (.sl 1 (p0.numbering.t.points.map (D.int .i64))),.d (.sl 1 (p0.numbering.t.homes.map (D.int .i64))),.d (.int .i64 p0.numbering.t.sections),.d (.int .i64 p0.numbering.t.signals),.d (.int .i64 p0.numbering.inputs),.d (.sl 1 (p0.numbering.bases.map (D.int .i64))),.d (.int .i64 p0.numbering.extra),.d (.int .i64 p0.numbering.count),.msl 1 6 0 p0.rungs.length],.flat 40 6 (p0.rungs.map Rung.enc)]:=by
 refine dE zLF Tryz.func82 Q Tryz.ntmps82 Q Q (λwX gX=>?_);unfold dZ at hm;refine WN [0,1] Q Q (RS (cW 2 Q Q bE Q (dK 2 [none,none,some 3] Q Q (TN (WN [0,1,4] Q Q (RS (mC (f:=Expr.encR) 3 38 3 Q Q Q (TN ?_))))))));refine WN [0,1,4,5] Q Q ?_;refine aL hm (λb1=>([(5,.msl 3 3 0 b1.length)]:Fr)) (λb1=>([(3,.flat 38 3 (b1.map Expr.encR))]:List (Nat×Blk))) [5] [4] Q (λz2 hm=>?_) (λb1 hm=>?_)
 ·refine RS ?_;iterate 7 (refine SA TK Q ?_)
  refine VE hm λe3 he3 hm=>SX Q Q (bZ TK Q Q Q Q he3) (SA TK Q (SA TK Q (SX Q Q (aP TK Q Q Q) (SA TK Q (TN (WN [0,1,4,5,17,18,19] Q Q (TB (aZ hm (λ(x7,b8)=>([(5,.msl 3 3 0 b8.length),(19,.d (.int .i64 x7))]:Fr)) (λ(x7,b8)=>([(3,.flat 38 3 (b8.map Expr.encR))]:List (Nat×Blk))) [5,19] [0,1,4,17,18] [0,1,2,3] Q (kB Q) Q Q Q Q Q (λs z9 hm hz9=>?_)))))))));obtain⟨x7,b8⟩:=s;refine WN [0,1,4,5,17,18,19] Q Q (RS (SA TK Q (TN (WN [0,1,4,5,17,18,19,20] Q Q (TQ ?_)))));refine TC _ Q (λh10=>?_) (λh10=>?_)
  ·replace hm:=JT h10 hm;refine TS (WT (WN [0,1,4,5,17,18,19] Q Q (TQ (TB (RS (SA TK Q (VE hm λe11 he11 hm=>SX Q Q (bZ TK Q Q Q Q he11) ?_)))))));refine SA TK Q (SA TK Q (SA TK Q (TN (WN [0,1,4,5,6,7,17,18,19] Q Q (RS ?_)))));iterate 6 (refine SA TK Q ?_)
   refine BE hm λr12 hr12 hm=>SX Q Q (RN Q Q (SC (.d _) (SC (.d _) SN)) (bV hr12)) (SA TK Q (TN (WN [0,1,4,5,6,7,17,18,19,31] Q Q ?_)));refine TC _ Q (λh13=>?_) (λh13=>?_)
   ·replace hm:=JT h13 hm;refine TG ?_;iterate 4 (refine SA TK Q ?_)
    refine BE hm λr14 hr14 hm=>?_;refine SX Q Q (bA [0,1] ⟨Q,Q,λ_=>Q⟩ Q Q Q (by decide) Q (aQ Q) Q Q (eL hr14)) ?_;refine SA TK Q (SA TK Q (BE hm λr15 hr15 hm=>?_));refine SX Q Q (bA [0,1] ⟨Q,Q,λ_=>Q⟩ Q Q Q (by decide) Q (aQ Q) Q Q (cG hr15)) ?_;refine SX Q Q (dD (f:=Expr.encR) (xs:=([r14,r15]:List Expr)) [.tmp 36,.tmp 39] TK Q Q bE Q (dA Q (aE (Expr.encR_eq _) (aE (Expr.encR_eq _) bM))) Q (bC Expr.encR_cells) Q) (BE hm λr16 hr16 hm=>SX Q Q (RD Q Q Q (dH hr16)) (SX Q Q (dD (f:=Expr.encR) (xs:=([r16]:List Expr)) [.tmp 41] TK Q Q bE Q (dA Q (aE (Expr.encR_eq _) bM)) Q (bC Expr.encR_cells) Q) (GE hm λg17 hm=>?_)));refine gI (f:=Expr.encR) ([r16]:List Expr) TK Q Q bE Q Q Q Q Q (λh=>absurd (show 3 < 2 from h) (by decide)) Q fZ g17 Q Q ?_;refine SA TK Q (TN (WK (WT (WN [0,1,4,5,17,18,19] Q Q (TG (GE hm λg18 hm=>SX Q Q (aY Q Q Q Q g18) (SA TK Q ?_)))))));refine TN (WT ?_);exact⟨_,[0,1,2,3],(SJ hm),Q,(kB Q),Q⟩
   replace hm:=JF h13 hm;refine TG (SA TK Q (SA TK Q (SA TK Q (BE hm λr19 hr19 hm=>?_))));refine SX Q Q (bA [0,1] ⟨Q,Q,λ_=>Q⟩ Q Q Q (by decide) Q (aQ Q) Q Q (cG hr19)) ?_;refine SX Q Q (dD (f:=Expr.encR) (xs:=([r19]:List Expr)) [.tmp 47] TK Q Q bE Q (dA Q (aE (Expr.encR_eq _) bM)) Q (bC Expr.encR_cells) Q) (GE hm λg20 hm=>?_);refine gI (f:=Expr.encR) ([r19]:List Expr) TK Q Q bE Q Q Q Q Q (λh=>absurd (show 3 < 2 from h) (by decide)) Q fZ g20 Q Q ?_;refine SA TK Q (TN (WK (WT (WN [0,1,4,5,17,18,19] Q Q (TG (GE hm λg21 hm=>SX Q Q (aY Q Q Q Q g21) (SA TK Q ?_)))))));refine TN (WT ?_);exact⟨_,[0,1,2,3],(SJ hm),Q,(kB Q),Q⟩
  replace hm:=JF h10 hm;refine aI (WX (IE hm λv22 hm hz=>?_));rw [hz9 _ hz] at hm;refine WX (WH (WT ?_));exact⟨_,[0,1,2,3],(SJ hm),Q,(kB Q),Q⟩
 refine WN [4,5] Q Q ?_;refine tC 5 3 [4] Q Q Q Q Q (by simp) Q Q ?_;refine RS (SA TK Q (BE hm λr23 hr23 hm=>SX Q Q (RD Q Q Q (cE hr23)) (SA TK Q (TN (WN [4] Q Q (TR ?_))))));obtain rfl:=OJ hm;exact⟨_,[0,1],.mk _ (.cons (.agg (TK.lay Q) Q Q Q Q) .nil) Q,by decide,(kB Q),Q,Q⟩
theorem nL {p0:Builder} {p1:Int} {r:Expr} (hm:fD p0 p1=some r):Ret Tryz.prog 84 [.box 81 [.d (.sl 14 (p0.numbering.t.routes.map Route.enc)),.d (.sl 1 (p0.numbering.t.points.map (D.int .i64))),.d (.sl 1 (p0.numbering.t.homes.map (D.int .i64))),.d (.int .i64 p0.numbering.t.sections),.d (.int .i64 p0.numbering.t.signals),.d (.int .i64 p0.numbering.inputs),.d (.sl 1 (p0.numbering.bases.map (D.int .i64))),.d (.int .i64 p0.numbering.extra),.d (.int .i64 p0.numbering.count),.msl 1 6 0 p0.rungs.length],.flat 40 6 (p0.rungs.map Rung.enc)] (λ_=>false) [.mptr 0 0 0 0,.d (.int .i64 p1)] (.d (r.enc)) [.box 81 [.d (.sl 14 (p0.numbering.t.routes.map Route.enc)),.d (.sl 1 (p0.numbering.t.points.map (D.int .i64))),.d (.sl 1 (p0.numbering.t.homes.map (D.int .i64))),.d (.int .i64 p0.numbering.t.sections),.d (.int .i64 p0.numbering.t.signals),.d (.int .i64 p0.numbering.inputs),.d (.sl 1 (p0.numbering.bases.map (D.int .i64))),.d (.int .i64 p0.numbering.extra),.d (.int .i64 p0.numbering.count),.msl 1 6 0 p0.rungs.length],.flat 40 6 (p0.rungs.map Rung.enc)]:=by
 refine dE zLD Tryz.func84 Q Tryz.ntmps84 Q Q (λwX gX=>?_);unfold fD at hm;refine WN [0,1] Q Q (RS (cW 2 Q Q bE Q (dK 2 [none,none,some 3] Q Q (TN (WN [0,1,4] Q Q (TQ (RS ?_)))))));iterate 5 (refine SA TK Q ?_)
 refine BE hm λr1 hr1 hm=>SX Q Q (RN Q Q (SC (.d _) (SC (.d _) SN)) (bV hr1)) (SA TK Q (TN (WN [0,1,4,11] Q Q ?_)));refine TC _ Q (λh2=>?_) (λh2=>?_)
 ·replace hm:=JT h2 hm;refine RS (BE hm λr3 hr3 hm=>SX Q Q (RD Q Q Q ((cE hr3).args ((.cons (.nil _) .nil)))) (SA TK Q (TN (WN [4] Q Q (TR (WR ?_))))));obtain rfl:=OJ hm;exact⟨_,[0,1],.mk _ (.cons (.agg (TK.lay Q) Q Q Q Q) .nil) Q,by decide,(kB Q),Q,Q⟩
 replace hm:=JF h2 hm;refine TS (WT (WN [0,1,4] Q Q (RS ?_)));iterate 7 (refine SA TK Q ?_)
 refine BE hm λr4 hr4 hm=>SX Q Q (RN Q Q (SC (.d _) (SC (.d _) SN)) (bV hr4)) (GE hm λg5 hm=>SX Q Q (aY Q Q Q Q g5) (BE hm λr6 hr6 hm=>?_));refine SX Q Q (bA [0,1] ⟨Q,Q,λ_=>Q⟩ Q Q Q (by decide) Q (aQ Q) Q Q (eL hr6)) ?_;refine SA TK Q (TN (WN [4] Q Q (TR ?_)));obtain rfl:=OJ hm;exact⟨_,[0,1],.mk _ (.cons (.agg (TK.lay Q) Q Q Q Q) .nil) Q,by decide,(kB Q),Q,Q⟩
theorem uA {p0:Builder} {p1:Int} {r:Builder} (hm:gE p0 p1=some r):Ret Tryz.prog 31 [.box 81 [.d (.sl 14 (p0.numbering.t.routes.map Route.enc)),.d (.sl 1 (p0.numbering.t.points.map (D.int .i64))),.d (.sl 1 (p0.numbering.t.homes.map (D.int .i64))),.d (.int .i64 p0.numbering.t.sections),.d (.int .i64 p0.numbering.t.signals),.d (.int .i64 p0.numbering.inputs),.d (.sl 1 (p0.numbering.bases.map (D.int .i64))),.d (.int .i64 p0.numbering.extra),.d (.int .i64 p0.numbering.count),.msl 1 6 0 p0.rungs.length],.flat 40 6 (p0.rungs.map Rung.enc)] (λj=>Nat.beq j 1) [.mptr 0 0 0 0,.d (.int .i64 p1)] (.tup []) [.box 81 [.d (.sl 14 (p0.numbering.t.routes.map Route.enc)),.d (.sl 1 (p0.numbering.t.points.map (D.int .i64))),.d (.sl 1 (p0.numbering.t.homes.map (D.int .i64))),.d (.int .i64 p0.numbering.t.sections),.d (.int .i64 p0.numbering.t.signals),.d (.int .i64 p0.numbering.inputs),.d (.sl 1 (p0.numbering.bases.map (D.int .i64))),.d (.int .i64 p0.numbering.extra),.d (.int .i64 p0.numbering.count),.msl 1 6 0 r.rungs.length],.flat 40 6 (r.rungs.map Rung.enc)]:=by
 refine dE zMO Tryz.func31 Q Tryz.ntmps31 Q Q (λwX gX=>?_);unfold gE at hm;refine WN [0,1] Q Q (RS ?_);iterate 7 (refine SA TK Q ?_)
 refine VE hm λe1 he1 hm=>SX Q Q (bZ TK Q Q Q Q he1) (SA TK Q (SA TK Q (SA TK Q (TN (WN [0,1,4] Q Q (cU follows  ?_))))));iterate 10 (refine DA [0,1] TK Q ?_)
 refine BE hm λr2 hr2 hm=>DX [0,1] Q Q (RN Q Q (SC (.d _) (SC (.d _) SN)) (kF hr2)) ?_;iterate 2 (refine DA [0,1] TK Q ?_)
 refine BE hm λr3 hr3 hm=>?_;refine DX [0,1] Q Q (bA [0,1] ⟨Q,Q,λ_=>Q⟩ Q Q Q (by decide) Q (aQ Q) Q Q (bW hr3)) ?_;iterate 2 (refine DA [0,1] TK Q ?_)
 refine BE hm λr4 hr4 hm=>?_;refine DX [0,1] Q Q (bA [0,1] ⟨Q,Q,λ_=>Q⟩ Q Q Q (by decide) Q (aQ Q) Q Q (bX hr4)) ?_;iterate 2 (refine DA [0,1] TK Q ?_)
 refine BE hm λr5 hr5 hm=>?_;refine DX [0,1] Q Q (bA [0,1] ⟨Q,Q,λ_=>Q⟩ Q Q Q (by decide) Q (aQ Q) Q Q (jO hr5)) ?_;refine DX [0,1] Q Q (dD (f:=Expr.encR) (xs:=([r3,r4,r5]:List Expr)) [.tmp 28,.tmp 31,.tmp 34] TK Q Q bE Q (dA Q (aE (Expr.encR_eq _) (aE (Expr.encR_eq _) (aE (Expr.encR_eq _) bM)))) Q (bC Expr.encR_cells) Q) (BE hm λr6 hr6 hm=>DX [0,1] Q Q (RD Q Q Q (cE hr6)) (DX [0,1] Q Q (cI Q zDF pK Q Q Q Q) ?_));iterate 5 (refine DA [0,1] TK Q ?_)
 refine BE hm λr7 hr7 hm=>DX [0,1] Q Q (RN Q Q (SC (.d _) (SC (.d _) SN)) (mZ hr7)) ?_;iterate 2 (refine DA [0,1] TK Q ?_)
 refine BE hm λr8 hr8 hm=>?_;refine DX [0,1] Q Q (bA [0,1] ⟨Q,Q,λ_=>Q⟩ Q Q Q (by decide) Q (aQ Q) Q Q (bW hr8)) ?_;iterate 2 (refine DA [0,1] TK Q ?_)
 refine BE hm λr9 hr9 hm=>?_;refine DX [0,1] Q Q (bA [0,1] ⟨Q,Q,λ_=>Q⟩ Q Q Q (by decide) Q (aQ Q) Q Q (bX hr9)) ?_;iterate 2 (refine DA [0,1] TK Q ?_)
 refine BE hm λr10 hr10 hm=>?_;refine DX [0,1] Q Q (bA [0,1] ⟨Q,Q,λ_=>Q⟩ Q Q Q (by decide) Q (aQ Q) Q Q (nL hr10)) ?_;iterate 7 (refine DA [0,1] TK Q ?_)
 refine BE hm λr11 hr11 hm=>DX [0,1] Q Q (RN Q Q (SC (.d _) (SC (.d _) SN)) (bV hr11)) (VE hm λe12 he12 hm=>DX [0,1] Q Q (bZ TK Q Q Q Q he12) (DA [0,1] TK Q (BE hm λr13 hr13 hm=>?_)));refine DX [0,1] Q Q (bA [0,1] ⟨Q,Q,λ_=>Q⟩ Q Q Q (by decide) Q (aQ Q) Q Q (cG hr13)) ?_;refine BE hm λr14 hr14 hm=>DX [0,1] Q Q (RD Q Q Q (cQ hr14)) (DX [0,1] Q Q (dD (f:=Expr.encR) (xs:=([r8,r9,r10,r14]:List Expr)) [.tmp 46,.tmp 49,.tmp 52,.tmp 64] TK Q Q bE Q (dA Q (aE (Expr.encR_eq _) (aE (Expr.encR_eq _) (aE (Expr.encR_eq _) (aE (Expr.encR_eq _) bM))))) Q (bC Expr.encR_cells) Q) (BE hm λr15 hr15 hm=>DX [0,1] Q Q (RD Q Q Q (cE hr15)) (DX [0,1] Q Q (cI Q zDF pK Q Q Q Q) (DX [0,1] Q Q (fX [.tmp 37,.tmp 67] TK Q Q pK Q Q Q Q Q) ?_))));refine qYE 0 15 ?_ ?_ Q (by kernel_rfl) (by kernel_rfl) (by kernel_rfl)
 ·refine GE hm λg16 hm=>gI (f:=Rung.enc) ([(⟨(2:Int),r2,(12:Int),r6⟩:Rung),(⟨(2:Int),r7,(4:Int),r15⟩:Rung)]:List Rung) TK Q Q pK Q Q Q Q Q (λ_=>Q) Q fZ g16 Q Q (SA TK Q (SA TK Q (SA TK Q (TN ?_))));obtain rfl:=OJ hm;exact⟨_,[0,1],res Q,by decide,(kB Q),Q,Q⟩
 refine GE hm λg17 hm=>gI (f:=Rung.enc) ([(⟨(2:Int),r2,(12:Int),r6⟩:Rung),(⟨(2:Int),r7,(4:Int),r15⟩:Rung)]:List Rung) TK Q Q pK Q Q Q Q Q (λ_=>Q) Q fZ g17 Q Q ?_;iterate 4 (refine SA TK Q ?_)
 refine TN ?_;obtain rfl:=OJ hm;exact⟨_,[0,1],res Q,by decide,(kB Q),Q,Q⟩
theorem kG {p0:Builder} {p1:Int} {r:Expr} (hm:eF p0 p1=some r):Ret Tryz.prog 87 [.box 81 [.d (.sl 14 (p0.numbering.t.routes.map Route.enc)),.d (.sl 1 (p0.numbering.t.points.map (D.int .i64))),.d (.sl 1 (p0.numbering.t.homes.map (D.int .i64))),.d (.int .i64 p0.numbering.t.sections),.d (.int .i64 p0.numbering.t.signals),.d (.int .i64 p0.numbering.inputs),.d (.sl 1 (p0.numbering.bases.map (D.int .i64))),.d (.int .i64 p0.numbering.extra),.d (.int .i64 p0.numbering.count),.msl 1 6 0 p0.rungs.length],.flat 40 6 (p0.rungs.map Rung.enc)] (λ_=>false) [.mptr 0 0 0 0,.d (.int .i64 p1)] (.d (r.enc)) [.box 81 [.d (.sl 14 (p0.numbering.t.routes.map Route.enc)),.d (.sl 1 (p0.numbering.t.points.map (D.int .i64))),.d (.sl 1 (p0.numbering.t.homes.map (D.int .i64))),.d (.int .i64 p0.numbering.t.sections),.d (.int .i64 p0.numbering.t.signals),.d (.int .i64 p0.numbering.inputs),.d (.sl 1 (p0.numbering.bases.map (D.int .i64))),.d (.int .i64 p0.numbering.extra),.d (.int .i64 p0.numbering.count),.msl 1 6 0 p0.rungs.length],.flat 40 6 (p0.rungs.map Rung.enc)]:=by
 refine dE zLA Tryz.func87 Q Tryz.ntmps87 Q Q (λwX gX=>?_);unfold eF at hm;refine WN [0,1] Q Q (RS (cW 2 Q Q bE Q (dK 2 [none,none,some 3] Q Q (TN (WN [0,1,4] Q Q (RS ?_))))));iterate 7 (refine SA TK Q ?_)
 refine VE hm λe1 he1 hm=>SX Q Q (bZ TK Q Q Q Q he1) (SA TK Q (cW 3 Q Q jK Q (dK 3 [none,none,none,some 3,some 2,some 1,none,none,some 3,some 2,some 1,some 2,some 1,some 2] Q Q (SA TK Q (TN (WN [0,4,5] Q Q (RS ?_)))))));refine mC (f:=Expr.encR) 4 38 3 Q Q Q (TN (WN [0,4,5,6] Q Q ?_));refine aL hm (λb2=>([(6,.msl 4 3 0 b2.length)]:Fr)) (λb2=>([(4,.flat 38 3 (b2.map Expr.encR))]:List (Nat×Blk))) [6] [0,4,5] Q (λz3 hm=>?_) (λb2 hm=>?_)
 ·refine RS ?_;iterate 4 (refine SA TK Q ?_)
  refine SX Q Q (fX [.tmp 22,.tmp 24] TK Q Q qGW Q Q Q Q Q) (BE hm λr4 hr4 hm=>SX Q Q (RN Q Q (SC (.d _) SN) (kM hr4)) (SX Q Q (aP TK Q Q Q) (SA TK Q (TN (WN [0,4,5,6,26,27,28] Q Q (TB (aZ hm (λ(x8,b9)=>([(6,.msl 4 3 0 b9.length),(28,.d (.int .i64 x8))]:Fr)) (λ(x8,b9)=>([(4,.flat 38 3 (b9.map Expr.encR))]:List (Nat×Blk))) [6,28] [0,4,5,26,27] [0,1,2,3,4] Q (kB Q) Q Q Q Q Q (λs z10 hm hz10=>?_))))))));obtain⟨x8,b9⟩:=s;refine WN [0,4,5,6,26,27,28] Q Q (RS (SA TK Q (TN (WN [0,4,5,6,26,27,28,29] Q Q (TQ ?_)))));refine TC _ Q (λh11=>?_) (λh11=>?_)
  ·replace hm:=JT h11 hm;refine TS (WT (WN [0,4,5,6,26,27,28] Q Q (TQ (TB (RS (VE hm λe12 he12 hm=>SX Q Q (bZ TK Q Q Q Q he12) (SA TK Q (SA TK Q ?_))))))));refine TN (WN [0,4,5,6,8,26,27,28] Q Q (TG (SA TK Q (SA TK Q (SA TK Q (BE hm λr13 hr13 hm=>?_))))));refine SX Q Q (bA [0,1] ⟨Q,Q,λ_=>Q⟩ Q Q Q (by decide) Q (aQ Q) Q Q (cG hr13)) ?_;refine SX Q Q (dD (f:=Expr.encR) (xs:=([r13]:List Expr)) [.tmp 35] TK Q Q bE Q (dA Q (aE (Expr.encR_eq _) bM)) Q (bC Expr.encR_cells) Q) (GE hm λg14 hm=>?_);refine gI (f:=Expr.encR) ([r13]:List Expr) TK Q Q bE Q Q Q Q Q (λh=>absurd (show 4 < 2 from h) (by decide)) Q fZ g14 Q Q ?_;refine SA TK Q (TN (WK (WT (WN [0,4,5,6,26,27,28] Q Q (TG (GE hm λg15 hm=>SX Q Q (aY Q Q Q Q g15) (SA TK Q ?_)))))));refine TN (WT ?_);exact⟨_,[0,1,2,3,4],(SJ hm),Q,(kB Q),Q⟩
  replace hm:=JF h11 hm;refine aI (WX (IE hm λv16 hm hz=>?_));rw [hz10 _ hz] at hm;refine WX (WH (WT ?_));exact⟨_,[0,1,2,3,4],(SJ hm),Q,(kB Q),Q⟩
 refine WN [0,4,5,6] Q Q ?_;refine aL hm (λb17=>([(6,.msl 4 3 0 b17.length)]:Fr)) (λb17=>([(4,.flat 38 3 (b17.map Expr.encR))]:List (Nat×Blk))) [6] [4] Q (λz18 hm=>?_) (λb17 hm=>?_)
 ·refine RS (SA TK Q (BE hm λr19 hr19 hm=>SX Q Q (RD Q Q Q (fP hr19)) (SX Q Q (aP TK Q Q Q) (SA TK Q (TN (WN [0,4,6,40,41,42] Q Q (TB ?_)))))));refine aZ hm (λ(x23,b24)=>([(6,.msl 4 3 0 b24.length),(42,.d (.int .i64 x23))]:Fr)) (λ(x23,b24)=>([(4,.flat 38 3 (b24.map Expr.encR))]:List (Nat×Blk))) [6,42] [0,4,40,41] [0,1,2,3,4] Q (kB Q) Q Q Q Q Q (λs z25 hm hz25=>?_);obtain⟨x23,b24⟩:=s;refine WN [0,4,6,40,41,42] Q Q (RS (SA TK Q (TN (WN [0,4,6,40,41,42,43] Q Q (TQ ?_)))));refine TC _ Q (λh26=>?_) (λh26=>?_)
  ·replace hm:=JT h26 hm;refine TS (WT (WN [0,4,6,40,41,42] Q Q (TQ (TB (RS (VE hm λe27 he27 hm=>SX Q Q (bZ TK Q Q Q Q he27) (SA TK Q ?_)))))));refine cW 5 Q Q gQ Q (SA TK Q (TN (WN [0,4,6,10,40,41,42] Q Q (RS (SA TK Q (TN (WN [0,4,6,10,11,40,41,42] Q Q ?_)))))));refine aL hm (λkind28=>([(11,.d (.int .i64 kind28))]:Fr)) (λkind28=>([]:List (Nat×Blk))) [11] [0,4,6,10,40,41,42] Q (λz29 hm=>?_) (λkind28 hm=>?_)
   ·refine RS (SA TK Q (SA TK Q (SA TK Q (TN (WN [0,4,6,10,11,40,41,42,48] Q Q ?_)))));refine TC _ Q (λh30=>?_) (λh30=>?_)
    ·replace hm:=JT h30 hm;refine TG (SA TK Q (TN (WT ?_)));exact⟨_,[0,1,2,3,4,5],(SJ hm),Q,(kB Q),Q⟩
    replace hm:=JF h30 hm;refine TS (WT ?_);exact⟨_,[0,1,2,3,4,5],(SJ hm),Q,(kB Q),Q⟩
   refine WN [0,4,6,10,11,40,41,42] Q Q (cU follows  ?_);iterate 12 (refine DA [0,1,2,3,4,5] TK Q ?_)
   refine BE hm λr31 hr31 hm=>DX [0,1,2,3,4,5] Q Q (RN Q Q (SC (.d _) (SC (.d _) SN)) (fW hr31)) (DA [0,1,2,3,4,5] TK Q (BE hm λr32 hr32 hm=>DX [0,1,2,3,4,5] Q Q (RN Q Q (SC (.d _) (SC (.d _) (SC (.d _) SN))) (sX hr32)) (BE hm λr33 hr33 hm=>DX [0,1,2,3,4,5] Q Q (RD Q Q Q (bU hr33)) (DX [0,1,2,3,4,5] Q Q (dD (f:=Expr.encR) (xs:=([r33]:List Expr)) [.tmp 64] TK Q Q bE Q (dA Q (aE (Expr.encR_eq _) bM)) Q (bC Expr.encR_cells) Q) ?_))));refine DT ?_ (by kernel_rfl);refine GE hm λg34 hm=>?_;refine gI (f:=Expr.encR) ([r33]:List Expr) TK Q Q bE Q Q Q Q Q (λh=>absurd (show 4 < 2 from h) (by decide)) Q fZ g34 Q Q ?_;refine SA TK Q (TN (WK (WT (WN [0,4,6,40,41,42] Q Q (TG (GE hm λg35 hm=>SX Q Q (aY Q Q Q Q g35) (SA TK Q ?_)))))));refine TN (WT ?_);exact⟨_,[0,1,2,3,4],(SJ hm),Q,(kB Q),Q⟩
  replace hm:=JF h26 hm;refine aI (WX (IE hm λv36 hm hz=>?_));rw [hz25 _ hz] at hm;refine WX (WH (WT ?_));exact⟨_,[0,1,2,3,4],(SJ hm),Q,(kB Q),Q⟩
 refine WN [4,6] Q Q ?_;refine tC 6 4 [4] Q Q Q Q Q (by simp) Q Q ?_;refine RS (SA TK Q (BE hm λr37 hr37 hm=>SX Q Q (RD Q Q Q (cE hr37)) (SA TK Q (TN (WN [4] Q Q (TR ?_))))));obtain rfl:=OJ hm;exact⟨_,[0,1],.mk _ (.cons (.agg (TK.lay Q) Q Q Q Q) .nil) Q,by decide,(kB Q),Q,Q⟩
theorem cS {p0:Builder} {p1:Int} {p2:Expr} {r:Builder} (hm:cB p0 p1 p2=some r):Ret Tryz.prog 34 [.box 81 [.d (.sl 14 (p0.numbering.t.routes.map Route.enc)),.d (.sl 1 (p0.numbering.t.points.map (D.int .i64))),.d (.sl 1 (p0.numbering.t.homes.map (D.int .i64))),.d (.int .i64 p0.numbering.t.sections),.d (.int .i64 p0.numbering.t.signals),.d (.int .i64 p0.numbering.inputs),.d (.sl 1 (p0.numbering.bases.map (D.int .i64))),.d (.int .i64 p0.numbering.extra),.d (.int .i64 p0.numbering.count),.msl 1 6 0 p0.rungs.length],.flat 40 6 (p0.rungs.map Rung.enc)] (λj=>Nat.beq j 1) [.mptr 0 0 0 0,.d (.int .i64 p1),.d (p2.enc)] (.tup []) [.box 81 [.d (.sl 14 (p0.numbering.t.routes.map Route.enc)),.d (.sl 1 (p0.numbering.t.points.map (D.int .i64))),.d (.sl 1 (p0.numbering.t.homes.map (D.int .i64))),.d (.int .i64 p0.numbering.t.sections),.d (.int .i64 p0.numbering.t.signals),.d (.int .i64 p0.numbering.inputs),.d (.sl 1 (p0.numbering.bases.map (D.int .i64))),.d (.int .i64 p0.numbering.extra),.d (.int .i64 p0.numbering.count),.msl 1 6 0 r.rungs.length],.flat 40 6 (r.rungs.map Rung.enc)]:=by
 refine dE zML Tryz.func34 Q Tryz.ntmps34 Q Q (λwX gX=>?_);unfold cB at hm;refine WN [0,1,2] Q Q (RS (cZ 2 Q Q Q (TN (WN [0,1,5] Q Q (cU follows  ?_)))));iterate 7 (refine DA [0,1,2] TK Q ?_)
 refine DX [0,1,2] Q Q (cI Q zDF pK Q Q Q Q) (DX [0,1,2] Q Q (fX [.tmp 13] TK Q Q pK Q Q Q Q Q) ?_);refine qYE 0 6 ?_ ?_ Q (by kernel_rfl) (by kernel_rfl) (by kernel_rfl)
 ·refine GE hm λg1 hm=>gI (f:=Rung.enc) ([(⟨(1:Int),p1,(0:Int),p2⟩:Rung)]:List Rung) TK Q Q pK Q Q Q Q Q (λ_=>Q) Q fZ g1 Q Q (SA TK Q (SA TK Q (SA TK Q (TN ?_))));obtain rfl:=OJ hm;exact⟨_,[0,1],res Q,by decide,(kB Q),Q,Q⟩
 refine GE hm λg2 hm=>gI (f:=Rung.enc) ([(⟨(1:Int),p1,(0:Int),p2⟩:Rung)]:List Rung) TK Q Q pK Q Q Q Q Q (λ_=>Q) Q fZ g2 Q Q ?_;iterate 4 (refine SA TK Q ?_)
 refine TN ?_;obtain rfl:=OJ hm;exact⟨_,[0,1],res Q,by decide,(kB Q),Q,Q⟩
theorem nA {p0:Builder} {p1:Int} {r:Expr} (hm:eR p0 p1=some r):Ret Tryz.prog 88 [.box 81 [.d (.sl 14 (p0.numbering.t.routes.map Route.enc)),.d (.sl 1 (p0.numbering.t.points.map (D.int .i64))),.d (.sl 1 (p0.numbering.t.homes.map (D.int .i64))),.d (.int .i64 p0.numbering.t.sections),.d (.int .i64 p0.numbering.t.signals),.d (.int .i64 p0.numbering.inputs),.d (.sl 1 (p0.numbering.bases.map (D.int .i64))),.d (.int .i64 p0.numbering.extra),.d (.int .i64 p0.numbering.count),.msl 1 6 0 p0.rungs.length],.flat 40 6 (p0.rungs.map Rung.enc)] (λ_=>false) [.mptr 0 0 0 0,.d (.int .i64 p1)] (.d (r.enc)) [.box 81 [.d (.sl 14 (p0.numbering.t.routes.map Route.enc)),.d (.sl 1 (p0.numbering.t.points.map (D.int .i64))),.d (.sl 1 (p0.numbering.t.homes.map (D.int .i64))),.d (.int .i64 p0.numbering.t.sections),.d (.int .i64 p0.numbering.t.signals),.d (.int .i64 p0.numbering.inputs),.d (.sl 1 (p0.numbering.bases.map (D.int .i64))),.d (.int .i64 p0.numbering.extra),.d (.int .i64 p0.numbering.count),.msl 1 6 0 p0.rungs.length],.flat 40 6 (p0.rungs.map Rung.enc)]:=by
 refine dE zKZ Tryz.func88 Q Tryz.ntmps88 Q Q (λwX gX=>?_);unfold eR at hm;refine WN [0,1] Q Q (RS (cW 2 Q Q bE Q (dK 2 [none,none,some 3] Q Q (TN (WN [0,1,4] Q Q (RS (mC (f:=Expr.encR) 3 38 3 Q Q Q (TN ?_))))))));refine WN [0,1,4,5] Q Q ?_;refine aL hm (λb1=>([(5,.msl 3 3 0 b1.length)]:Fr)) (λb1=>([(3,.flat 38 3 (b1.map Expr.encR))]:List (Nat×Blk))) [5] [4] Q (λz2 hm=>?_) (λb1 hm=>?_)
 ·refine RS ?_;iterate 7 (refine SA TK Q ?_)
  refine VE hm λe3 he3 hm=>SX Q Q (bZ TK Q Q Q Q he3) (SA TK Q (SA TK Q (SX Q Q (aP TK Q Q Q) (SA TK Q (TN (WN [0,1,4,5,18,19,20] Q Q (TB (aZ hm (λ(x7,b8)=>([(5,.msl 3 3 0 b8.length),(20,.d (.int .i64 x7))]:Fr)) (λ(x7,b8)=>([(3,.flat 38 3 (b8.map Expr.encR))]:List (Nat×Blk))) [5,20] [0,1,4,18,19] [0,1,2,3] Q (kB Q) Q Q Q Q Q (λs z9 hm hz9=>?_)))))))));obtain⟨x7,b8⟩:=s;refine WN [0,1,4,5,18,19,20] Q Q (RS (SA TK Q (TN (WN [0,1,4,5,18,19,20,21] Q Q (TQ ?_)))));refine TC _ Q (λh10=>?_) (λh10=>?_)
  ·replace hm:=JT h10 hm;refine TS (WT (WN [0,1,4,5,18,19,20] Q Q (TQ (TB (RS (SA TK Q (VE hm λe11 he11 hm=>SX Q Q (bZ TK Q Q Q Q he11) ?_)))))));refine SA TK Q (SA TK Q (SA TK Q (TN (WN [0,1,4,5,6,7,18,19,20] Q Q (RS (SA TK Q (SA TK Q (BE hm λr12 hr12 hm=>?_))))))));refine SX Q Q (bA [0,1] ⟨Q,Q,λ_=>Q⟩ Q Q Q (by decide) Q (aQ Q) Q Q (cG hr12)) ?_;refine wZ (f:=Expr.encR) 4 [.tmp 27] ([r12]:List Expr) TK Q Q Q bE Q (dA Q (aE (Expr.encR_eq _) bM)) Q (bC Expr.encR_cells) Q (SA TK Q (TN (WN [0,1,4,5,6,8,18,19,20] Q Q ?_)));refine aL hm (λb13=>([(8,.msl 4 3 0 b13.length)]:Fr)) (λb13=>([(4,.flat 38 3 (b13.map Expr.encR))]:List (Nat×Blk))) [8] [0,1,4,5,6,18,19,20] Q (λz14 hm=>?_) (λb13 hm=>?_)
   ·refine RS (SA TK Q (SA TK Q (TN (WN [0,1,4,5,6,8,18,19,20,30] Q Q ?_))));refine TC _ Q (λh15=>?_) (λh15=>?_)
    ·replace hm:=JT h15 hm;refine TG ?_;iterate 4 (refine SA TK Q ?_)
     refine GE hm λg16 hm=>SX Q Q (aY Q Q Q Q g16) (BE hm λr17 hr17 hm=>?_);refine SX Q Q (bA [0,1] ⟨Q,Q,λ_=>Q⟩ Q Q Q (by decide) Q (aQ Q) Q Q (eL hr17)) ?_;refine SX Q Q (dD (f:=Expr.encR) (xs:=([r17]:List Expr)) [.tmp 36] TK Q Q bE Q (dA Q (aE (Expr.encR_eq _) bM)) Q (bC Expr.encR_cells) Q) (GE hm λg18 hm=>?_);refine gI (f:=Expr.encR) ([r17]:List Expr) TK Q Q bE Q Q Q Q Q (λh=>absurd (show 4 < 2 from h) (by decide)) Q fZ g18 Q Q ?_;refine SA TK Q (TN (WT ?_));exact⟨_,[0,1,2,3,4],(SJ hm),Q,(kB Q),Q⟩
    replace hm:=JF h15 hm;refine TS (WT ?_);exact⟨_,[0,1,2,3,4],(SJ hm),Q,(kB Q),Q⟩
   refine WN [0,1,4,5,6,8,18,19,20] Q Q ?_;refine aL hm (λb19=>([(8,.msl 4 3 0 b19.length)]:Fr)) (λb19=>([(4,.flat 38 3 (b19.map Expr.encR))]:List (Nat×Blk))) [8] [0,1,4,5,18,19,20] Q (λz20 hm=>?_) (λb19 hm=>?_)
   ·refine RS ?_;iterate 6 (refine SA TK Q ?_)
    refine BE hm λr21 hr21 hm=>SX Q Q (RN Q Q (SC (.d _) (SC (.d _) SN)) (bV hr21)) (SA TK Q (TN (WN [0,1,4,5,6,8,18,19,20,46] Q Q ?_)));refine TC _ Q (λh22=>?_) (λh22=>?_)
    ·replace hm:=JT h22 hm;refine TG ?_;iterate 4 (refine SA TK Q ?_)
     refine BE hm λr23 hr23 hm=>?_;refine SX Q Q (bA [0,1] ⟨Q,Q,λ_=>Q⟩ Q Q Q (by decide) Q (aQ Q) Q Q (eL hr23)) ?_;refine BE hm λr24 hr24 hm=>SX Q Q (RD Q Q Q (cQ hr24)) (SX Q Q (dD (f:=Expr.encR) (xs:=([r24]:List Expr)) [.tmp 52] TK Q Q bE Q (dA Q (aE (Expr.encR_eq _) bM)) Q (bC Expr.encR_cells) Q) (GE hm λg25 hm=>?_));refine gI (f:=Expr.encR) ([r24]:List Expr) TK Q Q bE Q Q Q Q Q (λh=>absurd (show 4 < 2 from h) (by decide)) Q fZ g25 Q Q ?_;refine SA TK Q (TN (WT ?_));exact⟨_,[0,1,2,3,4],(SJ hm),Q,(kB Q),Q⟩
    replace hm:=JF h22 hm;refine TS (WT ?_);exact⟨_,[0,1,2,3,4],(SJ hm),Q,(kB Q),Q⟩
   refine WN [0,1,4,5,8,18,19,20] Q Q ?_;refine tC 8 4 [0,1,4,5,18,19,20] Q Q Q Q Q (by simp) Q Q ?_;refine TG (SA TK Q (SA TK Q (BE hm λr26 hr26 hm=>SX Q Q (RD Q Q Q (cE hr26)) (SX Q Q (dD (f:=Expr.encR) (xs:=([r26]:List Expr)) [.tmp 57] TK Q Q bE Q (dA Q (aE (Expr.encR_eq _) bM)) Q (bC Expr.encR_cells) Q) (GE hm λg27 hm=>?_)))));refine gI (f:=Expr.encR) ([r26]:List Expr) TK Q Q bE Q Q Q Q Q (λh=>absurd (show 3 < 2 from h) (by decide)) Q fZ g27 Q Q ?_;refine SA TK Q (TN (WK (WT (WN [0,1,4,5,18,19,20] Q Q (TG (GE hm λg28 hm=>SX Q Q (aY Q Q Q Q g28) (SA TK Q ?_)))))));refine TN (WT ?_);exact⟨_,[0,1,2,3],(SJ hm),Q,(kB Q),Q⟩
  replace hm:=JF h10 hm;refine aI (WX (IE hm λv29 hm hz=>?_));rw [hz9 _ hz] at hm;refine WX (WH (WT ?_));exact⟨_,[0,1,2,3],(SJ hm),Q,(kB Q),Q⟩
 refine WN [4,5] Q Q ?_;refine tC 5 3 [4] Q Q Q Q Q (by simp) Q Q ?_;refine RS (SA TK Q (BE hm λr30 hr30 hm=>SX Q Q (RD Q Q Q (dH hr30)) (SA TK Q (TN (WN [4] Q Q (TR ?_))))));obtain rfl:=OJ hm;exact⟨_,[0,1],.mk _ (.cons (.agg (TK.lay Q) Q Q Q Q) .nil) Q,by decide,(kB Q),Q,Q⟩
theorem nK {p0:Builder} {p1:Int} {r:Expr} (hm:fC p0 p1=some r):Ret Tryz.prog 89 [.box 81 [.d (.sl 14 (p0.numbering.t.routes.map Route.enc)),.d (.sl 1 (p0.numbering.t.points.map (D.int .i64))),.d (.sl 1 (p0.numbering.t.homes.map (D.int .i64))),.d (.int .i64 p0.numbering.t.sections),.d (.int .i64 p0.numbering.t.signals),.d (.int .i64 p0.numbering.inputs),.d (.sl 1 (p0.numbering.bases.map (D.int .i64))),.d (.int .i64 p0.numbering.extra),.d (.int .i64 p0.numbering.count),.msl 1 6 0 p0.rungs.length],.flat 40 6 (p0.rungs.map Rung.enc)] (λ_=>false) [.mptr 0 0 0 0,.d (.int .i64 p1)] (.d (r.enc)) [.box 81 [.d (.sl 14 (p0.numbering.t.routes.map Route.enc)),.d (.sl 1 (p0.numbering.t.points.map (D.int .i64))),.d (.sl 1 (p0.numbering.t.homes.map (D.int .i64))),.d (.int .i64 p0.numbering.t.sections),.d (.int .i64 p0.numbering.t.signals),.d (.int .i64 p0.numbering.inputs),.d (.sl 1 (p0.numbering.bases.map (D.int .i64))),.d (.int .i64 p0.numbering.extra),.d (.int .i64 p0.numbering.count),.msl 1 6 0 p0.rungs.length],.flat 40 6 (p0.rungs.map Rung.enc)]:=by
 refine dE zKY Tryz.func89 Q Tryz.ntmps89 Q Q (λwX gX=>?_);unfold fC at hm;refine WN [0,1] Q Q (RS (cW 2 Q Q bE Q (dK 2 [none,none,some 3] Q Q (TN (WN [0,1,4] Q Q (RS (SA TK Q (SA TK Q (BE hm λr1 hr1 hm=>?_)))))))));refine SX Q Q (bA [0,1] ⟨Q,Q,λ_=>Q⟩ Q Q Q (by decide) Q (aQ Q) Q Q (bW hr1)) ?_;refine SA TK Q (SA TK Q (BE hm λr2 hr2 hm=>?_));refine SX Q Q (bA [0,1] ⟨Q,Q,λ_=>Q⟩ Q Q Q (by decide) Q (aQ Q) Q Q (bW hr2)) ?_;refine SX Q Q (dD (f:=Expr.encR) (xs:=([r1,r2]:List Expr)) [.tmp 7,.tmp 10] TK Q Q bE Q (dA Q (aE (Expr.encR_eq _) (aE (Expr.encR_eq _) bM))) Q (bC Expr.encR_cells) Q) (BE hm λr3 hr3 hm=>SX Q Q (RD Q Q Q (dH hr3)) (SA TK Q (SA TK Q (BE hm λr4 hr4 hm=>?_))));refine SX Q Q (bA [0,1] ⟨Q,Q,λ_=>Q⟩ Q Q Q (by decide) Q (aQ Q) Q Q (bX hr4)) ?_;refine BE hm λr5 hr5 hm=>SX Q Q (RD Q Q Q (cQ hr5)) (SA TK Q (SA TK Q (BE hm λr6 hr6 hm=>?_)));refine SX Q Q (bA [0,1] ⟨Q,Q,λ_=>Q⟩ Q Q Q (by decide) Q (aQ Q) Q Q (kG hr6)) ?_;refine SX Q Q (dD (f:=Expr.encR) (xs:=([r3,r5,r6]:List Expr)) [.tmp 12,.tmp 16,.tmp 19] TK Q Q bE Q (dA Q (aE (Expr.encR_eq _) (aE (Expr.encR_eq _) (aE (Expr.encR_eq _) bM)))) Q (bC Expr.encR_cells) Q) (BE hm λr7 hr7 hm=>SX Q Q (RD Q Q Q (cE hr7)) (SA TK Q (TN (WN [4] Q Q (TR ?_)))));obtain rfl:=OJ hm;exact⟨_,[0,1],.mk _ (.cons (.agg (TK.lay Q) Q Q Q Q) .nil) Q,by decide,(kB Q),Q,Q⟩
theorem sY {p0:Builder} {p1:Int} {r:Builder} (hm:fL p0 p1=some r):Ret Tryz.prog 32 [.box 81 [.d (.sl 14 (p0.numbering.t.routes.map Route.enc)),.d (.sl 1 (p0.numbering.t.points.map (D.int .i64))),.d (.sl 1 (p0.numbering.t.homes.map (D.int .i64))),.d (.int .i64 p0.numbering.t.sections),.d (.int .i64 p0.numbering.t.signals),.d (.int .i64 p0.numbering.inputs),.d (.sl 1 (p0.numbering.bases.map (D.int .i64))),.d (.int .i64 p0.numbering.extra),.d (.int .i64 p0.numbering.count),.msl 1 6 0 p0.rungs.length],.flat 40 6 (p0.rungs.map Rung.enc)] (λj=>Nat.beq j 1) [.mptr 0 0 0 0,.d (.int .i64 p1)] (.tup []) [.box 81 [.d (.sl 14 (p0.numbering.t.routes.map Route.enc)),.d (.sl 1 (p0.numbering.t.points.map (D.int .i64))),.d (.sl 1 (p0.numbering.t.homes.map (D.int .i64))),.d (.int .i64 p0.numbering.t.sections),.d (.int .i64 p0.numbering.t.signals),.d (.int .i64 p0.numbering.inputs),.d (.sl 1 (p0.numbering.bases.map (D.int .i64))),.d (.int .i64 p0.numbering.extra),.d (.int .i64 p0.numbering.count),.msl 1 6 0 r.rungs.length],.flat 40 6 (r.rungs.map Rung.enc)]:=by
 refine dE zMN Tryz.func32 Q Tryz.ntmps32 Q Q (λwX gX=>?_);unfold fL at hm;refine WN [0,1] Q Q (RS ?_);iterate 7 (refine SA TK Q ?_)
 refine VE hm λe1 he1 hm=>SX Q Q (bZ TK Q Q Q Q he1) (SA TK Q (cW 2 Q Q jK Q (dK 2 [none,none,none,some 3,some 2,some 1,none,none,some 3,some 2,some 1,some 2,some 1,some 2] Q Q (SA TK Q (TN (WN [0,1,4] Q Q (bO follows  ?_)))))));iterate 2 (refine DA [0,1,2] TK Q ?_)
 refine VE hm λe2 he2 hm=>DX [0,1,2] Q Q (bZ TK Q Q Q Q he2) ?_;iterate 8 (refine DA [0,1,2] TK Q ?_)
 refine BE hm λr3 hr3 hm=>DX [0,1,2] Q Q (RN Q Q (SC (.d _) (SC (.d _) SN)) (bV hr3)) (VE hm λe4 he4 hm=>DX [0,1,2] Q Q (bZ TK Q Q Q Q he4) ?_);iterate 2 (refine DA [0,1,2] TK Q ?_)
 refine DT ?_ (by kernel_rfl);refine SA TK Q (TN (WN [0,1,4,5,6] Q Q (RS ?_)));iterate 6 (refine SA TK Q ?_)
 refine BE hm λr5 hr5 hm=>SX Q Q (RN Q Q (SC (.d _) (SC (.d _) (SC (.d _) SN))) (aS hr5)) (SA TK Q (SA TK Q (BE hm λr6 hr6 hm=>?_)));refine SX Q Q (bA [0,1] ⟨Q,Q,λ_=>Q⟩ Q Q Q (by decide) Q (aQ Q) Q Q (bW hr6)) ?_;refine SA TK Q (SA TK Q (BE hm λr7 hr7 hm=>?_));refine SX Q Q (bA [0,1] ⟨Q,Q,λ_=>Q⟩ Q Q Q (by decide) Q (aQ Q) Q Q (bX hr7)) ?_;refine BE hm λr8 hr8 hm=>SX Q Q (RD Q Q Q (cQ hr8)) (SA TK Q (SA TK Q (BE hm λr9 hr9 hm=>?_)));refine SX Q Q (bA [0,1] ⟨Q,Q,λ_=>Q⟩ Q Q Q (by decide) Q (aQ Q) Q Q (kG hr9)) ?_;refine BE hm λr10 hr10 hm=>SX Q Q (RD Q Q Q (cQ hr10)) (SX Q Q (dD (f:=Expr.encR) (xs:=([r6,r8,r10]:List Expr)) [.tmp 39,.tmp 43,.tmp 47] TK Q Q bE Q (dA Q (aE (Expr.encR_eq _) (aE (Expr.encR_eq _) (aE (Expr.encR_eq _) bM)))) Q (bC Expr.encR_cells) Q) (BE hm λr11 hr11 hm=>SX Q Q (RD Q Q Q (cE hr11)) (BE hm λr12 hr12 hm=>?_)));refine eS [0,1] (λj=>Nat.beq j 1) Q Q Q (by decide) Q Q Q Q (cS hr12) Q Q Q ?_;refine TN (WN [0,1,4,5,6] Q Q (bO follows  ?_));iterate 6 (refine DA [0,1,2] TK Q ?_)
 refine BE hm λr13 hr13 hm=>DX [0,1,2] Q Q (RN Q Q (SC (.d _) (SC (.d _) (SC (.d _) SN))) (aS hr13)) ?_;iterate 2 (refine DA [0,1,2] TK Q ?_)
 refine BE hm λr14 hr14 hm=>?_;refine DX [0,1,2] Q Q (bA [0,1] ⟨Q,Q,λ_=>Q⟩ Q Q Q (by decide) Q (aQ Q) Q Q (bW hr14)) ?_;iterate 2 (refine DA [0,1,2] TK Q ?_)
 refine BE hm λr15 hr15 hm=>?_;refine DX [0,1,2] Q Q (bA [0,1] ⟨Q,Q,λ_=>Q⟩ Q Q Q (by decide) Q (aQ Q) Q Q (cG hr15)) ?_;refine BE hm λr16 hr16 hm=>DX [0,1,2] Q Q (RD Q Q Q (cQ hr16)) (DX [0,1,2] Q Q (dD (f:=Expr.encR) (xs:=([r14,r16]:List Expr)) [.tmp 60,.tmp 64] TK Q Q bE Q (dA Q (aE (Expr.encR_eq _) (aE (Expr.encR_eq _) bM))) Q (bC Expr.encR_cells) Q) (BE hm λr17 hr17 hm=>DX [0,1,2] Q Q (RD Q Q Q (cE hr17)) ?_));iterate 2 (refine DA [0,1,2] TK Q ?_)
 refine BE hm λr18 hr18 hm=>?_;refine DX [0,1,2] Q Q (bA [0,1] ⟨Q,Q,λ_=>Q⟩ Q Q Q (by decide) Q (aQ Q) Q Q (bW hr18)) ?_;iterate 2 (refine DA [0,1,2] TK Q ?_)
 refine BE hm λr19 hr19 hm=>?_;refine DX [0,1,2] Q Q (bA [0,1] ⟨Q,Q,λ_=>Q⟩ Q Q Q (by decide) Q (aQ Q) Q Q (bX hr19)) ?_;refine BE hm λr20 hr20 hm=>DX [0,1,2] Q Q (RD Q Q Q (cQ hr20)) ?_;iterate 2 (refine DA [0,1,2] TK Q ?_)
 refine BE hm λr21 hr21 hm=>?_;refine DX [0,1,2] Q Q (bA [0,1] ⟨Q,Q,λ_=>Q⟩ Q Q Q (by decide) Q (aQ Q) Q Q (bX hr21)) ?_;iterate 2 (refine DA [0,1,2] TK Q ?_)
 refine BE hm λr22 hr22 hm=>?_;refine DX [0,1,2] Q Q (bA [0,1] ⟨Q,Q,λ_=>Q⟩ Q Q Q (by decide) Q (aQ Q) Q Q (jO hr22)) ?_;refine DX [0,1,2] Q Q (dD (f:=Expr.encR) (xs:=([r21,r22]:List Expr)) [.tmp 76,.tmp 79] TK Q Q bE Q (dA Q (aE (Expr.encR_eq _) (aE (Expr.encR_eq _) bM))) Q (bC Expr.encR_cells) Q) (BE hm λr23 hr23 hm=>DX [0,1,2] Q Q (RD Q Q Q (cE hr23)) (BE hm λr24 hr24 hm=>DX [0,1,2] Q Q (RD Q Q Q (cQ hr24)) ?_));iterate 2 (refine DA [0,1,2] TK Q ?_)
 refine BE hm λr25 hr25 hm=>?_;refine DX [0,1,2] Q Q (bA [0,1] ⟨Q,Q,λ_=>Q⟩ Q Q Q (by decide) Q (aQ Q) Q Q (nL hr25)) ?_;iterate 2 (refine DA [0,1,2] TK Q ?_)
 refine BE hm λr26 hr26 hm=>?_;refine DX [0,1,2] Q Q (bA [0,1] ⟨Q,Q,λ_=>Q⟩ Q Q Q (by decide) Q (aQ Q) Q Q (cG hr26)) ?_;refine DX [0,1,2] Q Q (dD (f:=Expr.encR) (xs:=([r25,r26]:List Expr)) [.tmp 85,.tmp 88] TK Q Q bE Q (dA Q (aE (Expr.encR_eq _) (aE (Expr.encR_eq _) bM))) Q (bC Expr.encR_cells) Q) (BE hm λr27 hr27 hm=>DX [0,1,2] Q Q (RD Q Q Q (cE hr27)) (BE hm λr28 hr28 hm=>DX [0,1,2] Q Q (RD Q Q Q (cQ hr28)) ?_));iterate 5 (refine DA [0,1,2] TK Q ?_)
 refine BE hm λr29 hr29 hm=>DX [0,1,2] Q Q (RN Q Q (SC (.d _) (SC (.d _) SN)) (mZ hr29)) (BE hm λr30 hr30 hm=>DX [0,1,2] Q Q (RD Q Q Q (bU hr30)) (BE hm λr31 hr31 hm=>DX [0,1,2] Q Q (RD Q Q Q (cQ hr31)) (DX [0,1,2] Q Q (dD (f:=Expr.encR) (xs:=([r24,r28,r31]:List Expr)) [.tmp 82,.tmp 91,.tmp 99] TK Q Q bE Q (dA Q (aE (Expr.encR_eq _) (aE (Expr.encR_eq _) (aE (Expr.encR_eq _) bM)))) Q (bC Expr.encR_cells) Q) (BE hm λr32 hr32 hm=>DX [0,1,2] Q Q (RD Q Q Q (cE hr32)) ?_))));refine DX [0,1,2] Q Q (dD (f:=Expr.encR) (xs:=([r20,r32]:List Expr)) [.tmp 73,.tmp 101] TK Q Q bE Q (dA Q (aE (Expr.encR_eq _) (aE (Expr.encR_eq _) bM))) Q (bC Expr.encR_cells) Q) (BE hm λr33 hr33 hm=>DX [0,1,2] Q Q (RD Q Q Q (dH hr33)) (DX [0,1,2] Q Q (dD (f:=Expr.encR) (xs:=([r18,r33]:List Expr)) [.tmp 69,.tmp 103] TK Q Q bE Q (dA Q (aE (Expr.encR_eq _) (aE (Expr.encR_eq _) bM))) Q (bC Expr.encR_cells) Q) (BE hm λr34 hr34 hm=>DX [0,1,2] Q Q (RD Q Q Q (cE hr34)) ?_)));iterate 2 (refine DA [0,1,2] TK Q ?_)
 refine BE hm λr35 hr35 hm=>?_;refine DX [0,1,2] Q Q (bA [0,1] ⟨Q,Q,λ_=>Q⟩ Q Q Q (by decide) Q (aQ Q) Q Q (bW hr35)) ?_;iterate 2 (refine DA [0,1,2] TK Q ?_)
 refine BE hm λr36 hr36 hm=>?_;refine DX [0,1,2] Q Q (bA [0,1] ⟨Q,Q,λ_=>Q⟩ Q Q Q (by decide) Q (aQ Q) Q Q (nA hr36)) ?_;refine BE hm λr37 hr37 hm=>DX [0,1,2] Q Q (RD Q Q Q (cQ hr37)) (DX [0,1,2] Q Q (dD (f:=Expr.encR) (xs:=([r35,r37]:List Expr)) [.tmp 108,.tmp 112] TK Q Q bE Q (dA Q (aE (Expr.encR_eq _) (aE (Expr.encR_eq _) bM))) Q (bC Expr.encR_cells) Q) (BE hm λr38 hr38 hm=>DX [0,1,2] Q Q (RD Q Q Q (cE hr38)) (DX [0,1,2] Q Q (dD (f:=Expr.encR) (xs:=([r17,r34,r38]:List Expr)) [.tmp 66,.tmp 105,.tmp 114] TK Q Q bE Q (dA Q (aE (Expr.encR_eq _) (aE (Expr.encR_eq _) (aE (Expr.encR_eq _) bM)))) Q (bC Expr.encR_cells) Q) (BE hm λr39 hr39 hm=>DX [0,1,2] Q Q (RD Q Q Q (dH hr39)) ?_))));refine DT ?_ (by kernel_rfl);refine BE hm λr40 hr40 hm=>?_;refine eS [0,1] (λj=>Nat.beq j 1) Q Q Q (by decide) Q Q Q Q (cS hr40) Q Q Q ?_;refine TN (WN [0,1,4,5] Q Q (bO follows  ?_));iterate 6 (refine DA [0,1,2] TK Q ?_)
 refine BE hm λr41 hr41 hm=>DX [0,1,2] Q Q (RN Q Q (SC (.d _) (SC (.d _) (SC (.d _) SN))) (aS hr41)) ?_;iterate 2 (refine DA [0,1,2] TK Q ?_)
 refine BE hm λr42 hr42 hm=>?_;refine DX [0,1,2] Q Q (bA [0,1] ⟨Q,Q,λ_=>Q⟩ Q Q Q (by decide) Q (aQ Q) Q Q (bW hr42)) ?_;iterate 2 (refine DA [0,1,2] TK Q ?_)
 refine BE hm λr43 hr43 hm=>?_;refine DX [0,1,2] Q Q (bA [0,1] ⟨Q,Q,λ_=>Q⟩ Q Q Q (by decide) Q (aQ Q) Q Q (cG hr43)) ?_;iterate 2 (refine DA [0,1,2] TK Q ?_)
 refine BE hm λr44 hr44 hm=>?_;refine DX [0,1,2] Q Q (bA [0,1] ⟨Q,Q,λ_=>Q⟩ Q Q Q (by decide) Q (aQ Q) Q Q (bX hr44)) ?_;iterate 2 (refine DA [0,1,2] TK Q ?_)
 refine BE hm λr45 hr45 hm=>?_;refine DX [0,1,2] Q Q (bA [0,1] ⟨Q,Q,λ_=>Q⟩ Q Q Q (by decide) Q (aQ Q) Q Q (bX hr45)) ?_;iterate 3 (refine DA [0,1,2] TK Q ?_)
 refine BE hm λr46 hr46 hm=>?_;refine DX [0,1,2] Q Q (bA [0,1] ⟨Q,Q,λ_=>Q⟩ Q Q Q (by decide) Q (aQ Q) Q Q (cG hr46)) ?_;refine DX [0,1,2] Q Q (dD (f:=Expr.encR) (xs:=([r44,r45,r46]:List Expr)) [.tmp 133,.tmp 136,.tmp 140] TK Q Q bE Q (dA Q (aE (Expr.encR_eq _) (aE (Expr.encR_eq _) (aE (Expr.encR_eq _) bM)))) Q (bC Expr.encR_cells) Q) (BE hm λr47 hr47 hm=>DX [0,1,2] Q Q (RD Q Q Q (cE hr47)) (BE hm λr48 hr48 hm=>DX [0,1,2] Q Q (RD Q Q Q (cQ hr48)) ?_));iterate 2 (refine DA [0,1,2] TK Q ?_)
 refine BE hm λr49 hr49 hm=>?_;refine DX [0,1,2] Q Q (bA [0,1] ⟨Q,Q,λ_=>Q⟩ Q Q Q (by decide) Q (aQ Q) Q Q (bX hr49)) ?_;iterate 2 (refine DA [0,1,2] TK Q ?_)
 refine BE hm λr50 hr50 hm=>?_;refine DX [0,1,2] Q Q (bA [0,1] ⟨Q,Q,λ_=>Q⟩ Q Q Q (by decide) Q (aQ Q) Q Q (kG hr50)) ?_;refine BE hm λr51 hr51 hm=>DX [0,1,2] Q Q (RD Q Q Q (cQ hr51)) (DX [0,1,2] Q Q (dD (f:=Expr.encR) (xs:=([r49,r51]:List Expr)) [.tmp 146,.tmp 150] TK Q Q bE Q (dA Q (aE (Expr.encR_eq _) (aE (Expr.encR_eq _) bM))) Q (bC Expr.encR_cells) Q) (BE hm λr52 hr52 hm=>DX [0,1,2] Q Q (RD Q Q Q (dH hr52)) (DX [0,1,2] Q Q (dD (f:=Expr.encR) (xs:=([r42,r43,r48,r52]:List Expr)) [.tmp 127,.tmp 130,.tmp 143,.tmp 152] TK Q Q bE Q (dA Q (aE (Expr.encR_eq _) (aE (Expr.encR_eq _) (aE (Expr.encR_eq _) (aE (Expr.encR_eq _) bM))))) Q (bC Expr.encR_cells) Q) (BE hm λr53 hr53 hm=>DX [0,1,2] Q Q (RD Q Q Q (cE hr53)) ?_))));iterate 2 (refine DA [0,1,2] TK Q ?_)
 refine BE hm λr54 hr54 hm=>?_;refine DX [0,1,2] Q Q (bA [0,1] ⟨Q,Q,λ_=>Q⟩ Q Q Q (by decide) Q (aQ Q) Q Q (bW hr54)) ?_;iterate 2 (refine DA [0,1,2] TK Q ?_)
 refine BE hm λr55 hr55 hm=>?_;refine DX [0,1,2] Q Q (bA [0,1] ⟨Q,Q,λ_=>Q⟩ Q Q Q (by decide) Q (aQ Q) Q Q (bX hr55)) ?_;iterate 2 (refine DA [0,1,2] TK Q ?_)
 refine BE hm λr56 hr56 hm=>?_;refine DX [0,1,2] Q Q (bA [0,1] ⟨Q,Q,λ_=>Q⟩ Q Q Q (by decide) Q (aQ Q) Q Q (bX hr56)) ?_;iterate 2 (refine DA [0,1,2] TK Q ?_)
 refine BE hm λr57 hr57 hm=>?_;refine DX [0,1,2] Q Q (bA [0,1] ⟨Q,Q,λ_=>Q⟩ Q Q Q (by decide) Q (aQ Q) Q Q (jO hr57)) ?_;refine DX [0,1,2] Q Q (dD (f:=Expr.encR) (xs:=([r54,r55,r56,r57]:List Expr)) [.tmp 157,.tmp 160,.tmp 163,.tmp 166] TK Q Q bE Q (dA Q (aE (Expr.encR_eq _) (aE (Expr.encR_eq _) (aE (Expr.encR_eq _) (aE (Expr.encR_eq _) bM))))) Q (bC Expr.encR_cells) Q) (BE hm λr58 hr58 hm=>DX [0,1,2] Q Q (RD Q Q Q (cE hr58)) ?_);iterate 2 (refine DA [0,1,2] TK Q ?_)
 refine BE hm λr59 hr59 hm=>?_;refine DX [0,1,2] Q Q (bA [0,1] ⟨Q,Q,λ_=>Q⟩ Q Q Q (by decide) Q (aQ Q) Q Q (bW hr59)) ?_;iterate 2 (refine DA [0,1,2] TK Q ?_)
 refine BE hm λr60 hr60 hm=>?_;refine DX [0,1,2] Q Q (bA [0,1] ⟨Q,Q,λ_=>Q⟩ Q Q Q (by decide) Q (aQ Q) Q Q (nA hr60)) ?_;iterate 5 (refine DA [0,1,2] TK Q ?_)
 refine BE hm λr61 hr61 hm=>DX [0,1,2] Q Q (RN Q Q (SC (.d _) (SC (.d _) SN)) (kF hr61)) (BE hm λr62 hr62 hm=>DX [0,1,2] Q Q (RD Q Q Q (bU hr62)) (BE hm λr63 hr63 hm=>DX [0,1,2] Q Q (RD Q Q Q (cQ hr63)) (DX [0,1,2] Q Q (dD (f:=Expr.encR) (xs:=([r59,r60,r63]:List Expr)) [.tmp 171,.tmp 174,.tmp 182] TK Q Q bE Q (dA Q (aE (Expr.encR_eq _) (aE (Expr.encR_eq _) (aE (Expr.encR_eq _) bM)))) Q (bC Expr.encR_cells) Q) (BE hm λr64 hr64 hm=>DX [0,1,2] Q Q (RD Q Q Q (cE hr64)) ?_))));refine DX [0,1,2] Q Q (dD (f:=Expr.encR) (xs:=([r53,r58,r64]:List Expr)) [.tmp 154,.tmp 168,.tmp 184] TK Q Q bE Q (dA Q (aE (Expr.encR_eq _) (aE (Expr.encR_eq _) (aE (Expr.encR_eq _) bM)))) Q (bC Expr.encR_cells) Q) (BE hm λr65 hr65 hm=>DX [0,1,2] Q Q (RD Q Q Q (dH hr65)) ?_);refine DT ?_ (by kernel_rfl);refine BE hm λr66 hr66 hm=>?_;refine eS [0,1] (λj=>Nat.beq j 1) Q Q Q (by decide) Q Q Q Q (cS hr66) Q Q Q ?_;refine TN (WN [0,1] Q Q (cU follows  ?_));iterate 6 (refine DA [0,1,2] TK Q ?_)
 refine BE hm λr67 hr67 hm=>DX [0,1,2] Q Q (RN Q Q (SC (.d _) (SC (.d _) (SC (.d _) SN))) (aS hr67)) ?_;iterate 5 (refine DA [0,1,2] TK Q ?_)
 refine BE hm λr68 hr68 hm=>DX [0,1,2] Q Q (RN Q Q (SC (.d _) (SC (.d _) (SC (.d _) SN))) (aS hr68)) (BE hm λr69 hr69 hm=>DX [0,1,2] Q Q (RD Q Q Q (bU hr69)) ?_);iterate 2 (refine DA [0,1,2] TK Q ?_)
 refine BE hm λr70 hr70 hm=>?_;refine DX [0,1,2] Q Q (bA [0,1] ⟨Q,Q,λ_=>Q⟩ Q Q Q (by decide) Q (aQ Q) Q Q (nK hr70)) ?_;iterate 5 (refine DA [0,1,2] TK Q ?_)
 refine BE hm λr71 hr71 hm=>DX [0,1,2] Q Q (RN Q Q (SC (.d _) (SC (.d _) (SC (.d _) SN))) (aS hr71)) (BE hm λr72 hr72 hm=>DX [0,1,2] Q Q (RD Q Q Q (bU hr72)) ?_);iterate 5 (refine DA [0,1,2] TK Q ?_)
 refine BE hm λr73 hr73 hm=>DX [0,1,2] Q Q (RN Q Q (SC (.d _) (SC (.d _) (SC (.d _) SN))) (aS hr73)) (BE hm λr74 hr74 hm=>DX [0,1,2] Q Q (RD Q Q Q (bU hr74)) (DX [0,1,2] Q Q (dD (f:=Expr.encR) (xs:=([r69,r70,r72,r74]:List Expr)) [.tmp 201,.tmp 204,.tmp 211,.tmp 218] TK Q Q bE Q (dA Q (aE (Expr.encR_eq _) (aE (Expr.encR_eq _) (aE (Expr.encR_eq _) (aE (Expr.encR_eq _) bM))))) Q (bC Expr.encR_cells) Q) (BE hm λr75 hr75 hm=>DX [0,1,2] Q Q (RD Q Q Q (dH hr75)) ?_)));refine DT ?_ (by kernel_rfl);refine BE hm λr76 hr76 hm=>?_;refine eS [0,1] (λj=>Nat.beq j 1) Q Q Q (by decide) Q Q Q Q (cS hr76) Q Q Q ?_;refine TN ?_;obtain rfl:=OJ hm;exact⟨_,[0,1],res Q,by decide,(kB Q),Q,Q⟩
theorem uU {p0:Builder} {p1:Int} {r:Builder} (hm:gO p0 p1=some r):Ret Tryz.prog 33 [.box 81 [.d (.sl 14 (p0.numbering.t.routes.map Route.enc)),.d (.sl 1 (p0.numbering.t.points.map (D.int .i64))),.d (.sl 1 (p0.numbering.t.homes.map (D.int .i64))),.d (.int .i64 p0.numbering.t.sections),.d (.int .i64 p0.numbering.t.signals),.d (.int .i64 p0.numbering.inputs),.d (.sl 1 (p0.numbering.bases.map (D.int .i64))),.d (.int .i64 p0.numbering.extra),.d (.int .i64 p0.numbering.count),.msl 1 6 0 p0.rungs.length],.flat 40 6 (p0.rungs.map Rung.enc)] (λj=>Nat.beq j 1) [.mptr 0 0 0 0,.d (.int .i64 p1)] (.tup []) [.box 81 [.d (.sl 14 (p0.numbering.t.routes.map Route.enc)),.d (.sl 1 (p0.numbering.t.points.map (D.int .i64))),.d (.sl 1 (p0.numbering.t.homes.map (D.int .i64))),.d (.int .i64 p0.numbering.t.sections),.d (.int .i64 p0.numbering.t.signals),.d (.int .i64 p0.numbering.inputs),.d (.sl 1 (p0.numbering.bases.map (D.int .i64))),.d (.int .i64 p0.numbering.extra),.d (.int .i64 p0.numbering.count),.msl 1 6 0 r.rungs.length],.flat 40 6 (r.rungs.map Rung.enc)]:=by
 refine dE zMM Tryz.func33 Q Tryz.ntmps33 Q Q (λwX gX=>?_);unfold gO at hm;refine WN [0,1] Q Q (RS ?_);iterate 7 (refine SA TK Q ?_)
 refine VE hm λe1 he1 hm=>SX Q Q (bZ TK Q Q Q Q he1) (SA TK Q (SA TK Q (SA TK Q (TN (WN [0,1,4] Q Q ?_)))));refine aL hm (λb2=>([]:Fr)) (λb2=>([(0,.box 81 [.d (.sl 14 (p0.numbering.t.routes.map Route.enc)),.d (.sl 1 (p0.numbering.t.points.map (D.int .i64))),.d (.sl 1 (p0.numbering.t.homes.map (D.int .i64))),.d (.int .i64 p0.numbering.t.sections),.d (.int .i64 p0.numbering.t.signals),.d (.int .i64 p0.numbering.inputs),.d (.sl 1 (p0.numbering.bases.map (D.int .i64))),.d (.int .i64 p0.numbering.extra),.d (.int .i64 p0.numbering.count),.msl 1 6 0 b2.length]),(1,.flat 40 6 (b2.map Rung.enc))]:List (Nat×Blk))) [] [0,1] Q (λz3 hm=>?_) (λb2 hm=>?_)
 ·refine RS ?_;iterate 5 (refine SA TK Q ?_)
  refine BE hm λr4 hr4 hm=>SX Q Q (RN Q Q (SC (.d _) (SC (.d _) SN)) (bV hr4)) (GE hm λg5 hm=>SX Q Q (aY Q Q Q Q g5) (SA TK Q (TN (WN [0,1,4,5] Q Q (TB (aZ hm (λ(k9,b10)=>([(5,.d (.int .i64 k9))]:Fr)) (λ(k9,b10)=>([(0,.box 81 [.d (.sl 14 (p0.numbering.t.routes.map Route.enc)),.d (.sl 1 (p0.numbering.t.points.map (D.int .i64))),.d (.sl 1 (p0.numbering.t.homes.map (D.int .i64))),.d (.int .i64 p0.numbering.t.sections),.d (.int .i64 p0.numbering.t.signals),.d (.int .i64 p0.numbering.inputs),.d (.sl 1 (p0.numbering.bases.map (D.int .i64))),.d (.int .i64 p0.numbering.extra),.d (.int .i64 p0.numbering.count),.msl 1 6 0 b10.length]),(1,.flat 40 6 (b10.map Rung.enc))]:List (Nat×Blk))) [5] [0,1,4] [0,1] Q (kB Q) Q Q Q Q Q (λs z11 hm hz11=>?_)))))));obtain⟨k9,b10⟩:=s;refine WN [0,1,4,5] Q Q (TQ (RS (SA TK Q (SA TK Q (TN (WN [0,1,4,5,25] Q Q ?_))))));refine TC _ Q (λh12=>?_) (λh12=>?_)
  ·replace hm:=JT h12 hm;refine TS (WT (WN [0,1,4,5] Q Q (TQ (TB (bO follows  ?_)))));iterate 2 (refine DA [0,1] TK Q ?_)
   refine BE hm λr13 hr13 hm=>?_;refine DX [0,1] Q Q (bA [0,1] ⟨Q,Q,λ_=>Q⟩ Q Q Q (by decide) Q (aQ Q) Q Q (bW hr13)) ?_;iterate 5 (refine DA [0,1] TK Q ?_)
   refine BE hm λr14 hr14 hm=>DX [0,1] Q Q (RN Q Q (SC (.d _) (SC (.d _) (SC (.d _) SN))) (aS hr14)) (BE hm λr15 hr15 hm=>DX [0,1] Q Q (RD Q Q Q (bU hr15)) ?_);iterate 2 (refine DA [0,1] TK Q ?_)
   refine BE hm λr16 hr16 hm=>?_;refine DX [0,1] Q Q (bA [0,1] ⟨Q,Q,λ_=>Q⟩ Q Q Q (by decide) Q (aQ Q) Q Q (bX hr16)) ?_;iterate 3 (refine DA [0,1] TK Q ?_)
   refine VE hm λe17 he17 hm=>DX [0,1] Q Q (bZ TK Q Q Q Q he17) (DA [0,1] TK Q (BE hm λr18 hr18 hm=>?_));refine DX [0,1] Q Q (bA [0,1] ⟨Q,Q,λ_=>Q⟩ Q Q Q (by decide) Q (aQ Q) Q Q (cG hr18)) ?_;iterate 3 (refine DA [0,1] TK Q ?_)
   refine GE hm λg19 hm=>DX [0,1] Q Q (aY Q Q Q Q g19) (VE hm λe20 he20 hm=>DX [0,1] Q Q (bZ TK Q Q Q Q he20) (DA [0,1] TK Q (BE hm λr21 hr21 hm=>?_)));refine DX [0,1] Q Q (bA [0,1] ⟨Q,Q,λ_=>Q⟩ Q Q Q (by decide) Q (aQ Q) Q Q (cG hr21)) ?_;refine BE hm λr22 hr22 hm=>DX [0,1] Q Q (RD Q Q Q (cQ hr22)) ?_;iterate 2 (refine DA [0,1] TK Q ?_)
   refine BE hm λr23 hr23 hm=>?_;refine DX [0,1] Q Q (bA [0,1] ⟨Q,Q,λ_=>Q⟩ Q Q Q (by decide) Q (aQ Q) Q Q (bX hr23)) ?_;refine DX [0,1] Q Q (dD (f:=Expr.encR) (xs:=([r22,r23]:List Expr)) [.tmp 54,.tmp 57] TK Q Q bE Q (dA Q (aE (Expr.encR_eq _) (aE (Expr.encR_eq _) bM))) Q (bC Expr.encR_cells) Q) (BE hm λr24 hr24 hm=>DX [0,1] Q Q (RD Q Q Q (dH hr24)) ?_);refine DT ?_ (by kernel_rfl);refine wZ (f:=Expr.encR) 2 [.tmp 30,.tmp 37,.tmp 40,.tmp 46,.tmp 59] ([r13,r15,r16,r18,r24]:List Expr) TK Q Q Q bE Q (dA Q (aE (Expr.encR_eq _) (aE (Expr.encR_eq _) (aE (Expr.encR_eq _) (aE (Expr.encR_eq _) (aE (Expr.encR_eq _) bM)))))) Q (bC Expr.encR_cells) Q (SA TK Q (TN (WN [0,1,4,5,6] Q Q ?_)));refine aL hm (λb25=>([(6,.msl 2 3 0 b25.length)]:Fr)) (λb25=>([(2,.flat 38 3 (b25.map Expr.encR))]:List (Nat×Blk))) [6] [0,1,4,5] Q (λz26 hm=>?_) (λb25 hm=>?_)
   ·refine RS (SA TK Q (SA TK Q (TN (WN [0,1,4,5,6,62] Q Q ?_))));refine TC _ Q (λh27=>?_) (λh27=>?_)
    ·replace hm:=JT h27 hm;refine TG ?_;iterate 4 (refine SA TK Q ?_)
     refine GE hm λg28 hm=>SX Q Q (aY Q Q Q Q g28) (BE hm λr29 hr29 hm=>?_);refine SX Q Q (bA [0,1] ⟨Q,Q,λ_=>Q⟩ Q Q Q (by decide) Q (aQ Q) Q Q (eL hr29)) ?_;refine SX Q Q (dD (f:=Expr.encR) (xs:=([r29]:List Expr)) [.tmp 68] TK Q Q bE Q (dA Q (aE (Expr.encR_eq _) bM)) Q (bC Expr.encR_cells) Q) (GE hm λg30 hm=>?_);refine gI (f:=Expr.encR) ([r29]:List Expr) TK Q Q bE Q Q Q Q Q (λh=>absurd (show 2 < 2 from h) (by decide)) Q fZ g30 Q Q ?_;refine SA TK Q (TN (WT ?_));exact⟨_,[0,1,2],(SJ hm),Q,(kB Q),Q⟩
    replace hm:=JF h27 hm;refine TS (WT ?_);exact⟨_,[0,1,2],(SJ hm),Q,(kB Q),Q⟩
   refine WN [0,1,4,5,6] Q Q ?_;refine tC 6 2 [0,1,4,5] Q Q Q Q Q (by simp) Q Q ?_;refine cU follows  ?_;iterate 7 (refine DA [0,1,2] TK Q ?_)
   refine GE hm λg31 hm=>DX [0,1,2] Q Q (aY Q Q Q Q g31) (BE hm λr32 hr32 hm=>DX [0,1,2] Q Q (RN Q Q (SC (.d _) (SC (.d _) (SC (.d _) SN))) (cD hr32)) ?_);iterate 5 (refine DA [0,1,2] TK Q ?_)
   refine BE hm λr33 hr33 hm=>DX [0,1,2] Q Q (RN Q Q (SC (.d _) (SC (.d _) (SC (.d _) SN))) (aS hr33)) (BE hm λr34 hr34 hm=>DX [0,1,2] Q Q (RD Q Q Q (bU hr34)) ?_);iterate 5 (refine DA [0,1,2] TK Q ?_)
   refine BE hm λr35 hr35 hm=>DX [0,1,2] Q Q (RN Q Q (SC (.d _) (SC (.d _) (SC (.d _) SN))) (aS hr35)) (BE hm λr36 hr36 hm=>DX [0,1,2] Q Q (RD Q Q Q (bU hr36)) (DX [0,1,2] Q Q (dD (f:=Expr.encR) (xs:=([r34,r36]:List Expr)) [.tmp 86,.tmp 93] TK Q Q bE Q (dA Q (aE (Expr.encR_eq _) (aE (Expr.encR_eq _) bM))) Q (bC Expr.encR_cells) Q) (BE hm λr37 hr37 hm=>DX [0,1,2] Q Q (RD Q Q Q (dH hr37)) ?_)));iterate 3 (refine DA [0,1,2] TK Q ?_)
   refine BE hm λr38 hr38 hm=>?_;refine DX [0,1,2] Q Q (bA [0,1] ⟨Q,Q,λ_=>Q⟩ Q Q Q (by decide) Q (aQ Q) Q Q (eL hr38)) ?_;refine DA [0,1,2] TK Q (BE hm λr39 hr39 hm=>DX [0,1,2] Q Q (RD Q Q Q (cE hr39)) (DX [0,1,2] Q Q (dD (f:=Expr.encR) (xs:=([r38,r39]:List Expr)) [.tmp 99,.tmp 101] TK Q Q bE Q (dA Q (aE (Expr.encR_eq _) (aE (Expr.encR_eq _) bM))) Q (bC Expr.encR_cells) Q) (BE hm λr40 hr40 hm=>DX [0,1,2] Q Q (RD Q Q Q (dH hr40)) (DX [0,1,2] Q Q (dD (f:=Expr.encR) (xs:=([r37,r40]:List Expr)) [.tmp 95,.tmp 103] TK Q Q bE Q (dA Q (aE (Expr.encR_eq _) (aE (Expr.encR_eq _) bM))) Q (bC Expr.encR_cells) Q) (BE hm λr41 hr41 hm=>DX [0,1,2] Q Q (RD Q Q Q (cE hr41)) ?_)))));refine DT ?_ (by kernel_rfl);refine BE hm λr42 hr42 hm=>?_;refine eS [0,1] (λj=>Nat.beq j 1) Q Q Q (by decide) Q Q Q Q (cS hr42) Q Q Q ?_;refine TN (WK (WT (WN [0,1,4,5] Q Q (TG (SA TK Q (GE hm λg43 hm=>SX Q Q (aY Q Q Q Q g43) (SA TK Q ?_)))))));refine TN (WT ?_);exact⟨_,[0,1],(SJ hm),Q,(kB Q),Q⟩
  replace hm:=JF h12 hm;refine aI (WX (IE hm λv44 hm hz=>?_));rw [hz11 _ hz] at hm;refine WX (WH (WT ?_));exact⟨_,[0,1],(SJ hm),Q,(kB Q),Q⟩
 refine WN [0,1] Q Q (RS ?_);iterate 6 (refine SA TK Q ?_)
 refine BE hm λr45 hr45 hm=>SX Q Q (RN Q Q (SC (.d _) (SC (.d _) (SC (.d _) SN))) (cD hr45)) (SA TK Q (SA TK Q (BE hm λr46 hr46 hm=>?_)));refine SX Q Q (bA [0,1] ⟨Q,Q,λ_=>Q⟩ Q Q Q (by decide) Q (aQ Q) Q Q (nK hr46)) ?_;refine BE hm λr47 hr47 hm=>?_;refine eS [0,1] (λj=>Nat.beq j 1) Q Q Q (by decide) Q Q Q Q (cS hr47) Q Q Q ?_;refine TN (WN [0,1] Q Q (bO follows  ?_));iterate 6 (refine DA [0,1] TK Q ?_)
 refine BE hm λr48 hr48 hm=>DX [0,1] Q Q (RN Q Q (SC (.d _) (SC (.d _) (SC (.d _) SN))) (cD hr48)) ?_;iterate 5 (refine DA [0,1] TK Q ?_)
 refine BE hm λr49 hr49 hm=>DX [0,1] Q Q (RN Q Q (SC (.d _) (SC (.d _) (SC (.d _) SN))) (aS hr49)) (BE hm λr50 hr50 hm=>DX [0,1] Q Q (RD Q Q Q (bU hr50)) ?_);refine DT ?_ (by kernel_rfl);refine BE hm λr51 hr51 hm=>?_;refine eS [0,1] (λj=>Nat.beq j 1) Q Q Q (by decide) Q Q Q Q (cS hr51) Q Q Q ?_;refine TN (WN [0,1] Q Q (cU follows  ?_));iterate 6 (refine DA [0,1] TK Q ?_)
 refine BE hm λr52 hr52 hm=>DX [0,1] Q Q (RN Q Q (SC (.d _) (SC (.d _) (SC (.d _) SN))) (cD hr52)) ?_;iterate 5 (refine DA [0,1] TK Q ?_)
 refine BE hm λr53 hr53 hm=>DX [0,1] Q Q (RN Q Q (SC (.d _) (SC (.d _) (SC (.d _) SN))) (aS hr53)) (BE hm λr54 hr54 hm=>DX [0,1] Q Q (RD Q Q Q (bU hr54)) ?_);refine DT ?_ (by kernel_rfl);refine BE hm λr55 hr55 hm=>?_;refine eS [0,1] (λj=>Nat.beq j 1) Q Q Q (by decide) Q Q Q Q (cS hr55) Q Q Q ?_;refine TN ?_;obtain rfl:=OJ hm;exact⟨_,[0,1],res Q,by decide,(kB Q),Q,Q⟩
theorem iP {p0:Int} {p1:Builder} {p2:Int} {p3:Bool} {p4:(List Int)} {r0:Bool} {r1:(List Int)} (hm:bR p0 p1 p2 p3 p4=some (r0,r1)):Ret Tryz.prog 170 [.box 127 [.mptr 1 0 0 0],.box 81 [.d (.sl 14 (p1.numbering.t.routes.map Route.enc)),.d (.sl 1 (p1.numbering.t.points.map (D.int .i64))),.d (.sl 1 (p1.numbering.t.homes.map (D.int .i64))),.d (.int .i64 p1.numbering.t.sections),.d (.int .i64 p1.numbering.t.signals),.d (.int .i64 p1.numbering.inputs),.d (.sl 1 (p1.numbering.bases.map (D.int .i64))),.d (.int .i64 p1.numbering.extra),.d (.int .i64 p1.numbering.count),.msl 2 6 0 p1.rungs.length],.flat 40 6 (p1.rungs.map Rung.enc),.box 3 [.d (.int .i64 p2)],.box 4 [.d (.bool (p3))],.box 23 [.msl 6 1 0 p4.length],.flat 3 1 (p4.map (D.int .i64))] (λj=>Nat.beq j 6) [.d (.int .i64 p0),.mptr 0 0 0 0,.mptr 3 0 0 0,.mptr 4 0 0 0,.mptr 5 0 0 0] (.tup []) [.box 127 [.mptr 1 0 0 0],.box 81 [.d (.sl 14 (p1.numbering.t.routes.map Route.enc)),.d (.sl 1 (p1.numbering.t.points.map (D.int .i64))),.d (.sl 1 (p1.numbering.t.homes.map (D.int .i64))),.d (.int .i64 p1.numbering.t.sections),.d (.int .i64 p1.numbering.t.signals),.d (.int .i64 p1.numbering.inputs),.d (.sl 1 (p1.numbering.bases.map (D.int .i64))),.d (.int .i64 p1.numbering.extra),.d (.int .i64 p1.numbering.count),.msl 2 6 0 p1.rungs.length],.flat 40 6 (p1.rungs.map Rung.enc),.box 3 [.d (.int .i64 p2)],.box 4 [.d (.bool (r0))],.box 23 [.msl 6 1 0 r1.length],.flat 3 1 (r1.map (D.int .i64))]:=by
 refine dE zFT Tryz.func170 Q Tryz.ntmps170 Q Q (λwX gX=>?_);unfold bR at hm;refine WN [0,1,2,3,4] Q Q ?_;refine aL hm (λx1=>([(17,.d (.bool (x1)))]:Fr)) (λx1=>([]:List (Nat×Blk))) [17] [0,3,4] Q (λz2 hm=>?_) (λx1 hm=>?_)
 ·refine cU follows  ?_;iterate 2 (refine DA [0,1,2,3,4,5,6] TK Q ?_)
  refine d_b [0,1,2,3,4,5,6] TK Q (λq3 hq3=>?_);cases q3
  ·replace hm:=JF hq3 hm;iterate 6 (refine DA [0,1,2,3,4,5,6] TK Q ?_)
   refine BE hm λr4 hr4 hm=>DX [0,1,2,3,4,5,6] Q Q (RN Q Q (SC (.d _) (SC (.d _) SN)) (bV hr4)) ?_;iterate 2 (refine DA [0,1,2,3,4,5,6] TK Q ?_)
   refine DT ?_ (by kernel_rfl);refine TN (WT ?_);exact⟨_,[0,1,2,3,4,5,6],(SJ hm),Q,(kB Q),Q⟩
  replace hm:=JT hq3 hm;iterate 9 (refine DA [0,1,2,3,4,5,6] TK Q ?_)
  refine DT ?_ (by kernel_rfl);refine TN (WT ?_);exact⟨_,[0,1,2,3,4,5,6],(SJ hm),Q,(kB Q),Q⟩
 refine WN [0,3,4,17] Q Q ?_;refine TC _ Q (λh5=>?_) (λh5=>?_)
 ·replace hm:=JA h5 hm;refine TG (SA TK Q (TN ?_));obtain⟨rfl,rfl⟩:=Prod.mk.inj (Option.some.inj hm);exact⟨_,[0,1,2,3,4,5,6],res Q,by decide,(kB Q),Q,Q⟩
 replace hm:=JB h5 hm;refine RS (SA TK Q (SA TK Q (BE hm λr6 hr6 hm=>SX Q Q (RN Q Q (SC (dC Q) (SC (.d _) SN)) (cY hr6)) (SA TK Q (TN (WN [0,4,21] Q Q ?_))))));refine TC _ Q (λh7=>?_) (λh7=>?_)
 ·replace hm:=JA h7 hm;refine TG (SA TK Q (SA TK Q (SX Q Q (fX [.tmp 23] TK Q Q lD Q Q Q Q Q) (GE hm λg8 hm=>gI (f:=(D.int .i64)) ([p0]:List Int) TK Q Q lD Q Q Q Q Q (λ_=>Q) Q fZ g8 Q Q (SA TK Q (TN ?_))))));obtain⟨rfl,rfl⟩:=Prod.mk.inj (Option.some.inj hm);exact⟨_,[0,1,2,3,4,5,6],res Q,by decide,(kB Q),Q,Q⟩
 replace hm:=JB h7 hm;refine TS ?_;obtain⟨rfl,rfl⟩:=Prod.mk.inj (Option.some.inj hm);exact⟨_,[0,1,2,3,4,5,6],res Q,by decide,(kB Q),Q,Q⟩
theorem uB {p0:Builder} {p1:Int} {p2:Int} {r0:Bool} {r1:(List Int)} (hm:gF p0 p1 p2=some (r0,r1)):Ret Tryz.prog 144 [.box 81 [.d (.sl 14 (p0.numbering.t.routes.map Route.enc)),.d (.sl 1 (p0.numbering.t.points.map (D.int .i64))),.d (.sl 1 (p0.numbering.t.homes.map (D.int .i64))),.d (.int .i64 p0.numbering.t.sections),.d (.int .i64 p0.numbering.t.signals),.d (.int .i64 p0.numbering.inputs),.d (.sl 1 (p0.numbering.bases.map (D.int .i64))),.d (.int .i64 p0.numbering.extra),.d (.int .i64 p0.numbering.count),.msl 1 6 0 p0.rungs.length],.flat 40 6 (p0.rungs.map Rung.enc)] (λ_=>false) [.mptr 0 0 0 0,.d (.int .i64 p1),.d (.int .i64 p2)] (.tup [.d (.bool (r0)),.d (.sl 1 (r1.map (D.int .i64)))]) [.box 81 [.d (.sl 14 (p0.numbering.t.routes.map Route.enc)),.d (.sl 1 (p0.numbering.t.points.map (D.int .i64))),.d (.sl 1 (p0.numbering.t.homes.map (D.int .i64))),.d (.int .i64 p0.numbering.t.sections),.d (.int .i64 p0.numbering.t.signals),.d (.int .i64 p0.numbering.inputs),.d (.sl 1 (p0.numbering.bases.map (D.int .i64))),.d (.int .i64 p0.numbering.extra),.d (.int .i64 p0.numbering.count),.msl 1 6 0 p0.rungs.length],.flat 40 6 (p0.rungs.map Rung.enc)]:=by
 refine dE zGM Tryz.func144 Q Tryz.ntmps144 Q Q (λwX gX=>?_);unfold gF at hm;refine WN [0,1,2] Q Q (RS (cZ 2 Q Q Q (cZ 3 Q Q Q (SA TK Q (SA TK Q (TN (WN [1,3,5] Q Q (eM (eM ?_)))))))));refine bO follows  (DA [2] TK Q ?_);iterate 4 (refine DA [] TK Q ?_)
 refine DA [0] TK Q (DA [] TK Q (VE hm λe1 he1 hm=>DX [] Q Q (bZ TK Q Q Q Q he1) (DA [] TK Q (DA [2] TK Q ?_))));iterate 4 (refine DA [] TK Q ?_)
 refine DA [0] TK Q (DA [3] TK Q (VE hm λe2 he2 hm=>DX [] Q Q (bZ TK Q Q Q Q he2) (DA [] TK Q (rO [4] _ (.mptr 4 0 0 0) Q (iS Q) Q (kV Q Q jK Q Q) (rO [5] _ (.mptr 5 0 0 0) Q (iS Q) Q (kV Q Q jK Q Q) (zFJ 1000004 [4] [(4,.box 74 [.d (.str e1.name),.d (.int .i64 e1.entry),.d (.int .i64 e1.exit),.d (.sl 3 (e1.path.map Step.enc)),.d (.sl 2 (e1.points.map Setting.enc)),.d (.sl 1 (e1.sections.map (D.int .i64))),.d (.int .i64 e1.approach),.d (.int .i64 e1.length),.d (.sl 3 (e1.over.map Step.enc)),.d (.sl 2 (e1.overPoints.map Setting.enc)),.d (.sl 1 (e1.overSections.map (D.int .i64))),.d (.sl 2 (e1.flank.map Setting.enc)),.d (.sl 1 (e1.guards.map (D.int .i64))),.d (.sl 2 (e1.gaps.map End.enc))])] (iS Q) Q (qTZ TK Q Q Q Q Q Q Q Q Q Q) ?_))))));refine DT ?_ (by kernel_rfl);refine SA TK Q (TN (WN [3,5,8,9] Q Q (bO follows  ?_)));iterate 2 (refine DA [0,1,2,3,4,5] TK Q ?_)
 refine BE hm λr3 hr3 hm=>DX [0,1,2,3,4,5] Q Q (RN Q Q (SC (.d _) (SC (.d _) SN)) (lB hr3)) ?_;iterate 2 (refine DA [0,1,2,3,4,5] TK Q ?_)
 refine BE hm λr4 hr4 hm=>DX [0,1,2,3,4,5] Q Q (RN Q Q (SC (.d _) (SC (.d _) SN)) (lB hr4)) ?_;refine DT ?_ (by kernel_rfl);refine SA TK Q (SA TK Q (TN (WN [3,5,8,9,10,11] Q Q (RS (cW 6 Q Q oK Q (SA TK Q (TN (WN [3,5,8,9,10,11,12] Q Q (RS ?_)))))))));refine cW 7 Q Q qGW Q (gN (f:=(D.int .i64)) 7 0 8 3 1 Q Q Q (TN (WN [3,5,8,9,10,11,12,13] Q Q (RS (SX Q Q (qEP Q) (SA TK Q (TN (WN [3,8,9,10,11,12,13,14] Q Q ?_))))))));refine aL hm (λ(c5,b6)=>([]:Fr)) (λ(c5,b6)=>([(6,.box 4 [.d (.bool (c5))]),(7,.box 23 [.msl 8 1 0 b6.length]),(8,.flat 3 1 (b6.map (D.int .i64)))]:List (Nat×Blk))) [] [3,8,9,10,11,12,13,14] Q (λz7 hm=>?_) (λj hm=>?_)
 ·refine RS (SA TK Q (SA TK Q (SX Q Q (aP TK Q Q Q) (SA TK Q (TN (WN [3,8,9,10,11,12,13,14,50,51,52] Q Q (TB (aZ hm (λ(x12,c13,b14)=>([(52,.d (.int .i64 x12))]:Fr)) (λ(x12,c13,b14)=>([(6,.box 4 [.d (.bool (c13))]),(7,.box 23 [.msl 8 1 0 b14.length]),(8,.flat 3 1 (b14.map (D.int .i64)))]:List (Nat×Blk))) [52] [3,8,9,10,11,12,13,14,50,51] [0,1,2,3,4,5,6,7,8] Q (kB Q) Q Q Q Q Q (λs z15 hm hz15=>?_)))))))));obtain⟨x12,c13,b14⟩:=s;refine WN [3,8,9,10,11,12,13,14,50,51,52] Q Q (RS (SA TK Q (TN (WN [3,8,9,10,11,12,13,14,50,51,52,53] Q Q (TQ ?_)))));refine TC _ Q (λh16=>?_) (λh16=>?_)
  ·replace hm:=JT h16 hm;refine TS (WT (WN [3,8,9,10,11,12,13,14,50,51,52] Q Q (TQ (TB (RS (VE hm λe17 he17 hm=>SX Q Q (bZ TK Q Q Q Q he17) (SA TK Q (SA TK Q ?_))))))));refine TN (WN [3,8,9,10,11,12,13,14,16,50,51,52] Q Q ?_);refine aL hm (λ(c18,b19)=>([]:Fr)) (λ(c18,b19)=>([(6,.box 4 [.d (.bool (c18))]),(7,.box 23 [.msl 8 1 0 b19.length]),(8,.flat 3 1 (b19.map (D.int .i64)))]:List (Nat×Blk))) [] [3,8,9,10,11,12,13,14,16,50,51,52] Q (λz20 hm=>?_) (λj hm=>?_)
   ·refine RS (SA TK Q (SA TK Q (SA TK Q (BE hm λr21 hr21 hm=>SX Q Q (RN Q Q (SC (.d _) (SC (.d _) SN)) (jA hr21)) (SA TK Q (TN (WN [3,8,9,10,11,12,13,14,16,17,50,51,52] Q Q (RS (SA TK Q (SA TK Q ?_))))))))));refine TN (WN [3,8,9,10,11,12,13,14,16,17,50,51,52,61] Q Q ?_);refine TC _ Q (λh22=>?_) (λh22=>?_)
    ·replace hm:=JT h22 hm;refine TG (SA TK Q (SA TK Q (BE hm λr23 hr23 hm=>?_)));obtain⟨r24,r25⟩:=r23;refine eS [2,0,1,3,6,7,8] (λj=>Nat.beq j 6) Q Q Q (by decide) Q Q Q Q (iP hr23) Q Q Q ?_;refine TN (WT ?_);exact⟨_,[0,1,2,3,4,5,6,7,8],(SJ hm),Q,(kB Q),Q⟩
    replace hm:=JF h22 hm;refine TS (WT ?_);exact⟨_,[0,1,2,3,4,5,6,7,8],(SJ hm),Q,(kB Q),Q⟩
   obtain⟨c18,b19⟩:=j;refine WN [3,8,9,10,11,12,13,14,16,50,51,52] Q Q (TG (SA TK Q (SB TK Q (λq26 hq26=>?_))));cases q26
   ·replace hm:=JB hq26 hm;refine SA TK Q (SA TK Q (SA TK Q (BE hm λr27 hr27 hm=>SX Q Q (RN Q Q (SC (.d _) (SC (.d _) SN)) (cY hr27)) (SB TK Q (λq28 hq28=>?_)))));cases q28
    ·replace hm:=JB hq28 hm;iterate 5 (refine SA TK Q ?_)
     refine TN (WK (WT (WN [3,8,9,10,11,12,13,14,50,51,52] Q Q (TG (GE hm λg29 hm=>SX Q Q (aY Q Q Q Q g29) (SA TK Q (TN ?_)))))));refine WT ?_;exact⟨_,[0,1,2,3,4,5,6,7,8],(SJ hm),Q,(kB Q),Q⟩
    replace hm:=JA hq28 hm;iterate 5 (refine SA TK Q ?_)
    refine TN (WK (WT (WN [3,8,9,10,11,12,13,14,50,51,52] Q Q (TG (GE hm λg30 hm=>SX Q Q (aY Q Q Q Q g30) (SA TK Q (TN ?_)))))));refine WT ?_;exact⟨_,[0,1,2,3,4,5,6,7,8],(SJ hm),Q,(kB Q),Q⟩
   replace hm:=JA hq26 hm;iterate 10 (refine SA TK Q ?_)
   refine TN (WK (WT (WN [3,8,9,10,11,12,13,14,50,51,52] Q Q (TG (GE hm λg31 hm=>SX Q Q (aY Q Q Q Q g31) (SA TK Q (TN ?_)))))));refine WT ?_;exact⟨_,[0,1,2,3,4,5,6,7,8],(SJ hm),Q,(kB Q),Q⟩
  replace hm:=JF h16 hm;refine aI (WX (IE hm λv32 hm hz=>?_));rw [hz15 _ hz] at hm;refine WX (WH (WT ?_));exact⟨_,[0,1,2,3,4,5,6,7,8],(SJ hm),Q,(kB Q),Q⟩
 obtain⟨c5,b6⟩:=j;refine WN [3,8,9,10,11,12,13,14] Q Q ?_;refine aL hm (λ(c33,b34)=>([]:Fr)) (λ(c33,b34)=>([(6,.box 4 [.d (.bool (c33))]),(7,.box 23 [.msl 8 1 0 b34.length]),(8,.flat 3 1 (b34.map (D.int .i64)))]:List (Nat×Blk))) [] [3,8,9,12,13,14] Q (λz35 hm=>?_) (λj hm=>?_)
 ·refine RS (SA TK Q (SA TK Q (SX Q Q (aP TK Q Q Q) (SA TK Q (TN (WN [3,8,9,10,11,12,13,14,78,79,80] Q Q (TB (aZ hm (λ(x40,c41,b42)=>([(80,.d (.int .i64 x40))]:Fr)) (λ(x40,c41,b42)=>([(6,.box 4 [.d (.bool (c41))]),(7,.box 23 [.msl 8 1 0 b42.length]),(8,.flat 3 1 (b42.map (D.int .i64)))]:List (Nat×Blk))) [80] [3,8,9,10,11,12,13,14,78,79] [0,1,2,3,4,5,6,7,8] Q (kB Q) Q Q Q Q Q (λs z43 hm hz43=>?_)))))))));obtain⟨x40,c41,b42⟩:=s;refine WN [3,8,9,10,11,12,13,14,78,79,80] Q Q (RS (SA TK Q (TN (WN [3,8,9,10,11,12,13,14,78,79,80,81] Q Q (TQ ?_)))));refine TC _ Q (λh44=>?_) (λh44=>?_)
  ·replace hm:=JT h44 hm;refine TS (WT (WN [3,8,9,10,11,12,13,14,78,79,80] Q Q (TQ (TB (RS (VE hm λe45 he45 hm=>SX Q Q (bZ TK Q Q Q Q he45) (SA TK Q (SA TK Q ?_))))))));refine TN (WN [3,8,9,10,11,12,13,14,19,78,79,80] Q Q ?_);refine aL hm (λ(c46,b47)=>([]:Fr)) (λ(c46,b47)=>([(6,.box 4 [.d (.bool (c46))]),(7,.box 23 [.msl 8 1 0 b47.length]),(8,.flat 3 1 (b47.map (D.int .i64)))]:List (Nat×Blk))) [] [3,8,9,10,11,12,13,14,19,78,79,80] Q (λz48 hm=>?_) (λj hm=>?_)
   ·refine RS (SA TK Q (SA TK Q (SA TK Q (BE hm λr49 hr49 hm=>SX Q Q (RN Q Q (SC (.d _) (SC (.d _) SN)) (jA hr49)) (SA TK Q (TN (WN [3,8,9,10,11,12,13,14,19,20,78,79,80] Q Q ?_)))))));refine kJ [(93,.d (.bool (((decide ((0:Int)≤r49))&&(!(r4))))))] [93] [3,8,9,10,11,12,13,14,19,20,78,79,80] Q ?_ ?_
    ·refine TG (SA TK Q (SA TK Q (SB TK Q (λq50 hq50=>?_))));cases q50
     ·refine SA TK Q (SA TK Q (SA TK Q (TN (WT ?_))));exact⟨[0,1,2,3,4,5,6,7,8],Q,(kB Q),dJ (bK (bL (by simp [hq50])) Q) Q⟩
     refine SA TK Q (SA TK Q (SA TK Q (TN (WT ?_))));exact⟨[0,1,2,3,4,5,6,7,8],Q,(kB Q),dJ (bK (bL (by simp [hq50])) Q) Q⟩
    refine WN [3,8,9,10,11,12,13,14,19,20,78,79,80,93] Q Q ?_;refine TC _ Q (λh51=>?_) (λh51=>?_)
    ·replace hm:=JA h51 hm;refine TG (SA TK Q (SA TK Q (BE hm λr52 hr52 hm=>?_)));obtain⟨r53,r54⟩:=r52;refine eS [2,0,1,3,6,7,8] (λj=>Nat.beq j 6) Q Q Q (by decide) Q Q Q Q (iP hr52) Q Q Q ?_;refine TN (WT ?_);exact⟨_,[0,1,2,3,4,5,6,7,8],(SJ hm),Q,(kB Q),Q⟩
    replace hm:=JB h51 hm;refine TS (WT ?_);exact⟨_,[0,1,2,3,4,5,6,7,8],(SJ hm),Q,(kB Q),Q⟩
   obtain⟨c46,b47⟩:=j;refine WN [3,8,9,10,11,12,13,14,19,78,79,80] Q Q (TG (SA TK Q (SB TK Q (λq55 hq55=>?_))));cases q55
   ·replace hm:=JB hq55 hm;refine SA TK Q (SA TK Q (SA TK Q (BE hm λr56 hr56 hm=>SX Q Q (RN Q Q (SC (.d _) (SC (.d _) SN)) (cY hr56)) (SB TK Q (λq57 hq57=>?_)))));cases q57
    ·replace hm:=JB hq57 hm;iterate 9 (refine SA TK Q ?_)
     refine TN (WK (WT (WN [3,8,9,10,11,12,13,14,78,79,80] Q Q (TG (GE hm λg58 hm=>SX Q Q (aY Q Q Q Q g58) (SA TK Q (TN ?_)))))));refine WT ?_;exact⟨_,[0,1,2,3,4,5,6,7,8],(SJ hm),Q,(kB Q),Q⟩
    replace hm:=JA hq57 hm;refine SA TK Q (SA TK Q (SA TK Q (SB TK Q (λq59 hq59=>?_))));cases q59
    ·replace hm:=JB hq59 hm;iterate 5 (refine SA TK Q ?_)
     refine TN (WK (WT (WN [3,8,9,10,11,12,13,14,78,79,80] Q Q (TG (GE hm λg60 hm=>SX Q Q (aY Q Q Q Q g60) (SA TK Q (TN ?_)))))));refine WT ?_;exact⟨_,[0,1,2,3,4,5,6,7,8],(SJ hm),Q,(kB Q),Q⟩
    replace hm:=JA hq59 hm;iterate 5 (refine SA TK Q ?_)
    refine TN (WK (WT (WN [3,8,9,10,11,12,13,14,78,79,80] Q Q (TG (GE hm λg61 hm=>SX Q Q (aY Q Q Q Q g61) (SA TK Q (TN ?_)))))));refine WT ?_;exact⟨_,[0,1,2,3,4,5,6,7,8],(SJ hm),Q,(kB Q),Q⟩
   replace hm:=JA hq55 hm;iterate 14 (refine SA TK Q ?_)
   refine TN (WK (WT (WN [3,8,9,10,11,12,13,14,78,79,80] Q Q (TG (GE hm λg62 hm=>SX Q Q (aY Q Q Q Q g62) (SA TK Q (TN ?_)))))));refine WT ?_;exact⟨_,[0,1,2,3,4,5,6,7,8],(SJ hm),Q,(kB Q),Q⟩
  replace hm:=JF h44 hm;refine aI (WX (IE hm λv63 hm hz=>?_));rw [hz43 _ hz] at hm;refine WX (WH (WT ?_));exact⟨_,[0,1,2,3,4,5,6,7,8],(SJ hm),Q,(kB Q),Q⟩
 obtain⟨c33,b34⟩:=j;refine WN [3,8,9,12,13,14] Q Q ?_;refine aL hm (λ(c64,b65)=>([]:Fr)) (λ(c64,b65)=>([(6,.box 4 [.d (.bool (c64))]),(7,.box 23 [.msl 8 1 0 b65.length]),(8,.flat 3 1 (b65.map (D.int .i64)))]:List (Nat×Blk))) [] [12,13] Q (λz66 hm=>?_) (λj hm=>?_)
 ·refine RS (SA TK Q (BE hm λr67 hr67 hm=>SX Q Q (RD Q Q Q (fP hr67)) (SX Q Q (aP TK Q Q Q) (SA TK Q (TN (WN [3,9,12,13,14,114,115,116] Q Q (TB ?_)))))));refine aZ hm (λ(x72,c73,b74)=>([(116,.d (.int .i64 x72))]:Fr)) (λ(x72,c73,b74)=>([(6,.box 4 [.d (.bool (c73))]),(7,.box 23 [.msl 8 1 0 b74.length]),(8,.flat 3 1 (b74.map (D.int .i64)))]:List (Nat×Blk))) [116] [3,9,12,13,14,114,115] [0,1,2,3,4,5,6,7,8] Q (kB Q) Q Q Q Q Q (λs z75 hm hz75=>?_);obtain⟨x72,c73,b74⟩:=s;refine WN [3,9,12,13,14,114,115,116] Q Q (RS (SA TK Q (TN (WN [3,9,12,13,14,114,115,116,117] Q Q (TQ ?_)))));refine TC _ Q (λh76=>?_) (λh76=>?_)
  ·replace hm:=JT h76 hm;refine TS (WT (WN [3,9,12,13,14,114,115,116] Q Q (TQ (TB (RS (VE hm λe77 he77 hm=>SX Q Q (bZ TK Q Q Q Q he77) (SA TK Q ?_)))))));refine cW 9 Q Q gQ Q (SA TK Q (TN (WN [3,9,12,13,14,22,114,115,116] Q Q (RS ?_))));iterate 4 (refine SA TK Q ?_)
   refine GE hm λg78 hm=>SX Q Q (aY Q Q Q Q g78) (SX Q Q (cI Q plc133 gQ Q Q Q Q) (cW 10 Q Q gQ Q (SA TK Q (TN (WN [3,9,12,13,14,22,23,114,115,116] Q Q ?_)))));refine aL hm (λx79=>([(135,.d (.bool (x79)))]:Fr)) (λx79=>([]:List (Nat×Blk))) [135] [3,9,12,13,14,22,23,114,115,116] Q (λz80 hm=>?_) (λx79 hm=>?_)
   ·refine TG (SA TK Q (SA TK Q (SA TK Q (BE hm λr81 hr81 hm=>SX Q Q (RN Q Q (SC (.d _) (SC (.d _) SN)) (jL hr81)) (SB TK Q (λq82 hq82=>?_))))));cases q82
    ·replace hm:=JB hq82 hm;refine SA TK Q (SA TK Q (SA TK Q (BE hm λr83 hr83 hm=>SX Q Q (RN Q Q (SC (.d _) (SC (.d _) SN)) (jL hr83)) (SA TK Q (TN (WT ?_))))));exact⟨_,[0,1,2,3,4,5,6,7,8,9,10],(SJ hm),Q,(kB Q),Q⟩
    replace hm:=JA hq82 hm;iterate 5 (refine SA TK Q ?_)
    refine TN (WT ?_);exact⟨_,[0,1,2,3,4,5,6,7,8,9,10],(SJ hm),Q,(kB Q),Q⟩
   refine WN [3,9,12,13,14,22,23,114,115,116,135] Q Q ?_;refine TC _ Q (λh84=>?_) (λh84=>?_)
   ·replace hm:=JA h84 hm;refine TG (SA TK Q (TN (WK (WT (WN [3,9,12,13,14,114,115,116] Q Q (TG (GE hm λg85 hm=>SX Q Q (aY Q Q Q Q g85) ?_)))))));refine SA TK Q (TN (WT ?_));exact⟨_,[0,1,2,3,4,5,6,7,8],(SJ hm),Q,(kB Q),Q⟩
   replace hm:=JB h84 hm;refine RS (SA TK Q (SA TK Q (SA TK Q (BE hm λr86 hr86 hm=>SX Q Q (RN Q Q (SC (.d _) (SC (.d _) SN)) (jL hr86)) (TN (WN [3,9,12,13,14,22,114,115,116,139] Q Q ?_))))));refine TC _ Q (λh87=>?_) (λh87=>?_)
   ·replace hm:=JA h87 hm;refine cU follows  ?_;iterate 16 (refine DA [0,1,2,3,4,5,6,7,8,9,10] TK Q ?_)
    refine BE hm λr88 hr88 hm=>DX [0,1,2,3,4,5,6,7,8,9,10] Q Q (RN Q Q (SC (.d _) (SC (.d _) SN)) (fW hr88)) (VE hm λe89 he89 hm=>DX [0,1,2,3,4,5,6,7,8,9,10] Q Q (bZ TK Q Q Q Q he89) (DA [0,1,2,3,4,5,6,7,8,9,10] TK Q (BE hm λr90 hr90 hm=>DX [0,1,2,3,4,5,6,7,8,9,10] Q Q (RN Q Q (SC (.d _) (SC (.d _) SN)) (jA hr90)) ?_)));refine DT ?_ (by kernel_rfl);refine BE hm λr91 hr91 hm=>?_;obtain⟨r92,r93⟩:=r91;refine eS [2,0,1,3,6,7,8] (λj=>Nat.beq j 6) Q Q Q (by decide) Q Q Q Q (iP hr91) Q Q Q ?_;refine TN (WK (WT (WN [3,9,12,13,14,114,115,116] Q Q (TG (GE hm λg94 hm=>SX Q Q (aY Q Q Q Q g94) (SA TK Q (TN ?_)))))));refine WT ?_;exact⟨_,[0,1,2,3,4,5,6,7,8],(SJ hm),Q,(kB Q),Q⟩
   replace hm:=JB h87 hm;refine TS (WK (WT (WN [3,9,12,13,14,114,115,116] Q Q (TG (GE hm λg95 hm=>SX Q Q (aY Q Q Q Q g95) (SA TK Q (TN ?_)))))));refine WT ?_;exact⟨_,[0,1,2,3,4,5,6,7,8],(SJ hm),Q,(kB Q),Q⟩
  replace hm:=JF h76 hm;refine aI (WX (IE hm λv96 hm hz=>?_));rw [hz75 _ hz] at hm;refine WX (WH (WT ?_));exact⟨_,[0,1,2,3,4,5,6,7,8],(SJ hm),Q,(kB Q),Q⟩
 obtain⟨c64,b65⟩:=j;refine WN [12,13] Q Q (bO follows  ?_);iterate 3 (refine DA [0,1,2,3,4,5,6,7,8] TK Q ?_)
 refine DT ?_ (by kernel_rfl);refine SA TK Q (TN (WN [6,7] Q Q ?_));refine tC 7 8 [6] Q Q Q Q Q (by simp) Q Q ?_;refine TR ?_;obtain⟨rfl,rfl⟩:=Prod.mk.inj (Option.some.inj hm);exact⟨_,[0,1],res Q,by decide,(kB Q),Q,Q⟩
theorem uV {p0:Builder} {p1:Int} {p2:Int} {r:(List Expr)} (hm:gP p0 p1 p2=some r):Ret Tryz.prog 93 [.box 81 [.d (.sl 14 (p0.numbering.t.routes.map Route.enc)),.d (.sl 1 (p0.numbering.t.points.map (D.int .i64))),.d (.sl 1 (p0.numbering.t.homes.map (D.int .i64))),.d (.int .i64 p0.numbering.t.sections),.d (.int .i64 p0.numbering.t.signals),.d (.int .i64 p0.numbering.inputs),.d (.sl 1 (p0.numbering.bases.map (D.int .i64))),.d (.int .i64 p0.numbering.extra),.d (.int .i64 p0.numbering.count),.msl 1 6 0 p0.rungs.length],.flat 40 6 (p0.rungs.map Rung.enc)] (λ_=>false) [.mptr 0 0 0 0,.d (.int .i64 p1),.d (.int .i64 p2)] (.d (.sl 3 (r.map Expr.encR))) [.box 81 [.d (.sl 14 (p0.numbering.t.routes.map Route.enc)),.d (.sl 1 (p0.numbering.t.points.map (D.int .i64))),.d (.sl 1 (p0.numbering.t.homes.map (D.int .i64))),.d (.int .i64 p0.numbering.t.sections),.d (.int .i64 p0.numbering.t.signals),.d (.int .i64 p0.numbering.inputs),.d (.sl 1 (p0.numbering.bases.map (D.int .i64))),.d (.int .i64 p0.numbering.extra),.d (.int .i64 p0.numbering.count),.msl 1 6 0 p0.rungs.length],.flat 40 6 (p0.rungs.map Rung.enc)]:=by
 refine dE zKU Tryz.func93 Q Tryz.ntmps93 Q Q (λwX gX=>?_);unfold gP at hm;refine WN [0,1,2] Q Q (RS (SA TK Q (TN (WN [0,1,2] Q Q (RS (SA TK Q (SA TK Q (SA TK Q (BE hm λr1 hr1 hm=>?_)))))))));obtain⟨r2,r3⟩:=r1;refine SX Q Q (bA [0,1] ⟨Q,Q,λ_=>Q⟩ Q Q Q (by decide) Q (aQ Q) Q Q (uB hr1)) ?_;iterate 5 (refine SA TK Q ?_)
 refine TN (WN [0,1,2,7,8] Q Q (RS ?_));iterate 5 (refine SA TK Q ?_)
 refine BE hm λr4 hr4 hm=>SX Q Q (RN Q Q (SC (.d _) (SC (.d _) (SC (.d _) SN))) (aS hr4)) (BE hm λr5 hr5 hm=>SX Q Q (RD Q Q Q (bU hr5)) (cW 2 Q Q bE Q (dK 2 [none,none,some 3] Q Q (SA TK Q (TN (WN [0,1,2,7,8,9] Q Q ?_))))));refine aL hm (λ(c6,c7,c8)=>([]:Fr)) (λ(c6,c7,c8)=>([(2,.box 38 [.d (.int .i64 c6),.d (.int .i64 c7),.d (.sl 3 (c8.map Expr.encR))])]:List (Nat×Blk))) [] [0,2,7,8,9] Q (λz9 hm=>?_) (λj hm=>?_)
 ·refine RS (SA TK Q (SA TK Q (SA TK Q (TN (WN [0,2,7,8,9,30] Q Q ?_)))));refine TC _ Q (λh10=>?_) (λh10=>?_)
  ·replace hm:=JT h10 hm;refine cU follows  ?_;iterate 6 (refine DA [0,1,2] TK Q ?_)
   refine BE hm λr11 hr11 hm=>DX [0,1,2] Q Q (RN Q Q (SC (.d _) (SC (.d _) (SC (.d _) SN))) (aS hr11)) (BE hm λr12 hr12 hm=>DX [0,1,2] Q Q (RD Q Q Q (bU hr12)) (DX [0,1,2] Q Q (dD (f:=Expr.encR) (xs:=([r5,r12]:List Expr)) [.tmp 31,.tmp 38] TK Q Q bE Q (dA Q (aE (Expr.encR_eq _) (aE (Expr.encR_eq _) bM))) Q (bC Expr.encR_cells) Q) (BE hm λr13 hr13 hm=>DX [0,1,2] Q Q (RD Q Q Q (dH hr13)) ?_)));refine DT ?_ (by kernel_rfl);refine SA TK Q (TN (WT ?_));exact⟨_,[0,1,2],(SJ hm),Q,(kB Q),Q⟩
  replace hm:=JF h10 hm;refine TS (WT ?_);exact⟨_,[0,1,2],(SJ hm),Q,(kB Q),Q⟩
 obtain⟨c6,c7,c8⟩:=j;refine WN [0,2,7,8,9] Q Q (TQ (RS (SA TK Q (TN (WN [0,2,8,9,41] Q Q ?_)))));refine TC _ Q (λh14=>?_) (λh14=>?_)
 ·replace hm:=JA h14 hm;refine RS (SA TK Q (BE hm λr15 hr15 hm=>SX Q Q (RD Q Q Q (cQ hr15)) (SX Q Q (dD (f:=Expr.encR) (xs:=([r15]:List Expr)) [.tmp 43] TK Q Q bE Q (dA Q (aE (Expr.encR_eq _) bM)) Q (bC Expr.encR_cells) Q) (SA TK Q (TN (WN [6] Q Q (TR ?_)))))));refine WR ?_;obtain rfl:=OJ hm;exact⟨_,[0,1],res Q,by decide,(kB Q),Q,Q⟩
 replace hm:=JB h14 hm;refine TS (WT (WN [0,2,8,9] Q Q (TQ (RS (SA TK Q (SX Q Q (aP TK Q Q Q) (SA TK Q (TN ?_))))))));refine WN [0,2,8,9,47] Q Q ?_;refine TC _ Q (λh16=>?_) (λh16=>?_)
 ·replace hm:=JT h16 hm;refine RS (SA TK Q (TN (qTG 6 [some 3] Q (WN [6] Q Q (TR (WR ?_))))));obtain rfl:=OJ hm;exact⟨_,[0,1],res Q,by decide,(kB Q),Q,Q⟩
 replace hm:=JF h16 hm;refine TS (WT (WN [0,2,8,9] Q Q (RS (SA TK Q (BE hm λr17 hr17 hm=>SX Q Q (RD Q Q Q (cQ hr17)) (wZ (f:=Expr.encR) 3 [.tmp 49] ([r17]:List Expr) TK Q Q Q bE Q (dA Q (aE (Expr.encR_eq _) bM)) Q (bC Expr.encR_cells) Q (SA TK Q ?_)))))));refine TN (WN [0,2,8,10] Q Q (RS (mC (f:=Expr.encR) 4 38 3 Q Q Q (TN (WN [0,2,8,10,11] Q Q ?_)))));refine aL hm (λb18=>([(11,.msl 4 3 0 b18.length)]:Fr)) (λb18=>([(4,.flat 38 3 (b18.map Expr.encR))]:List (Nat×Blk))) [11] [10] Q (λz19 hm=>?_) (λb18 hm=>?_)
 ·refine RS (SA TK Q (SX Q Q (aP TK Q Q Q) (SA TK Q (TN (WN [0,2,10,11,51,52,53] Q Q (TB (aZ hm (λ(x23,b24)=>([(11,.msl 4 3 0 b24.length),(53,.d (.int .i64 x23))]:Fr)) (λ(x23,b24)=>([(4,.flat 38 3 (b24.map Expr.encR))]:List (Nat×Blk))) [11,53] [0,2,10,51,52] [0,1,2,3,4] Q (kB Q) Q Q Q Q Q (λs z25 hm hz25=>?_))))))));obtain⟨x23,b24⟩:=s;refine WN [0,2,10,11,51,52,53] Q Q (RS (SA TK Q (TN (WN [0,2,10,11,51,52,53,54] Q Q (TQ ?_)))));refine TC _ Q (λh26=>?_) (λh26=>?_)
  ·replace hm:=JT h26 hm;refine TS (WT (WN [0,2,10,11,51,52,53] Q Q (TQ (TB (RS (VE hm λe27 he27 hm=>SX Q Q (bZ TK Q Q Q Q he27) (SA TK Q (SA TK Q ?_))))))));refine TN (WN [0,2,10,11,13,51,52,53] Q Q (TG ?_));iterate 4 (refine SA TK Q ?_)
   refine BE hm λr28 hr28 hm=>?_;refine SX Q Q (bA [0,1] ⟨Q,Q,λ_=>Q⟩ Q Q Q (by decide) Q (aQ Q) Q Q (eL hr28)) ?_;refine SX Q Q (dD (f:=Expr.encR) (xs:=([r28]:List Expr)) [.tmp 61] TK Q Q bE Q (dA Q (aE (Expr.encR_eq _) bM)) Q (bC Expr.encR_cells) Q) (GE hm λg29 hm=>?_);refine gI (f:=Expr.encR) ([r28]:List Expr) TK Q Q bE Q Q Q Q Q (λh=>absurd (show 4 < 2 from h) (by decide)) Q fZ g29 Q Q ?_;refine SA TK Q (TN (WK (WT (WN [0,2,10,11,51,52,53] Q Q (TG (GE hm λg30 hm=>SX Q Q (aY Q Q Q Q g30) (SA TK Q ?_)))))));refine TN (WT ?_);exact⟨_,[0,1,2,3,4],(SJ hm),Q,(kB Q),Q⟩
  replace hm:=JF h26 hm;refine aI (WX (IE hm λv31 hm hz=>?_));rw [hz25 _ hz] at hm;refine WX (WH (WT ?_));exact⟨_,[0,1,2,3,4],(SJ hm),Q,(kB Q),Q⟩
 refine WN [10,11] Q Q ?_;refine tC 11 4 [10] Q Q Q Q Q (by simp) Q Q ?_;refine RS (SA TK Q (SA TK Q (BE hm λr32 hr32 hm=>SX Q Q (RD Q Q Q (cE hr32)) (SX Q Q (dD (f:=Expr.encR) (xs:=([r32]:List Expr)) [.tmp 67] TK Q Q bE Q (dA Q (aE (Expr.encR_eq _) bM)) Q (bC Expr.encR_cells) Q) (GE hm λg33 hm=>?_)))));refine gI (f:=Expr.encR) ([r32]:List Expr) TK Q Q bE Q Q Q Q Q (λh=>absurd (show 3 < 2 from h) (by decide)) Q fZ g33 Q Q ?_;refine s_frzO 69 3 [11,66,67,68] Q Q Q Q Q (by simp) Q Q ?_;refine BE hm λr34 hr34 hm=>SX Q Q (RD Q Q Q (dH hr34)) (SX Q Q (dD (f:=Expr.encR) (xs:=([r34]:List Expr)) [.tmp 70] TK Q Q bE Q (dA Q (aE (Expr.encR_eq _) bM)) Q (bC Expr.encR_cells) Q) (SA TK Q (TN (WN [6] Q Q (TR ?_)))));obtain rfl:=OJ hm;exact⟨_,[0,1],res Q,by decide,(kB Q),Q,Q⟩
theorem uC {p0:Builder} {p1:Int} {r:Expr} (hm:gG p0 p1=some r):Ret Tryz.prog 36 [.box 81 [.d (.sl 14 (p0.numbering.t.routes.map Route.enc)),.d (.sl 1 (p0.numbering.t.points.map (D.int .i64))),.d (.sl 1 (p0.numbering.t.homes.map (D.int .i64))),.d (.int .i64 p0.numbering.t.sections),.d (.int .i64 p0.numbering.t.signals),.d (.int .i64 p0.numbering.inputs),.d (.sl 1 (p0.numbering.bases.map (D.int .i64))),.d (.int .i64 p0.numbering.extra),.d (.int .i64 p0.numbering.count),.msl 1 6 0 p0.rungs.length],.flat 40 6 (p0.rungs.map Rung.enc)] (λ_=>false) [.mptr 0 0 0 0,.d (.int .i64 p1)] (.d (r.enc)) [.box 81 [.d (.sl 14 (p0.numbering.t.routes.map Route.enc)),.d (.sl 1 (p0.numbering.t.points.map (D.int .i64))),.d (.sl 1 (p0.numbering.t.homes.map (D.int .i64))),.d (.int .i64 p0.numbering.t.sections),.d (.int .i64 p0.numbering.t.signals),.d (.int .i64 p0.numbering.inputs),.d (.sl 1 (p0.numbering.bases.map (D.int .i64))),.d (.int .i64 p0.numbering.extra),.d (.int .i64 p0.numbering.count),.msl 1 6 0 p0.rungs.length],.flat 40 6 (p0.rungs.map Rung.enc)]:=by
 refine dE zMJ Tryz.func36 Q Tryz.ntmps36 Q Q (λwX gX=>?_);unfold gG at hm;refine WN [0,1] Q Q (RS (cW 2 Q Q bE Q (dK 2 [none,none,some 3] Q Q (TN (WN [0,1,4] Q Q (RS ?_))))));iterate 7 (refine SA TK Q ?_)
 refine VE hm λe1 he1 hm=>SX Q Q (bZ TK Q Q Q Q he1) (SA TK Q (cW 3 Q Q jK Q (dK 3 [none,none,none,some 3,some 2,some 1,none,none,some 3,some 2,some 1,some 2,some 1,some 2] Q Q (SA TK Q (TN (WN [0,1,4,5] Q Q (bO follows  ?_)))))));iterate 2 (refine DA [0,1,2,3] TK Q ?_)
 refine BE hm λr2 hr2 hm=>?_;refine DX [0,1,2,3] Q Q (bA [0,1] ⟨Q,Q,λ_=>Q⟩ Q Q Q (by decide) Q (aQ Q) Q Q (bX hr2)) ?_;iterate 5 (refine DA [0,1,2,3] TK Q ?_)
 refine BE hm λr3 hr3 hm=>DX [0,1,2,3] Q Q (RN Q Q (SC (.d _) (SC (.d _) (SC (.d _) SN))) (aS hr3)) (BE hm λr4 hr4 hm=>DX [0,1,2,3] Q Q (RD Q Q Q (bU hr4)) (BE hm λr5 hr5 hm=>DX [0,1,2,3] Q Q (RD Q Q Q (cQ hr5)) ?_));refine DT ?_ (by kernel_rfl);refine wZ (f:=Expr.encR) 4 [.tmp 25,.tmp 33] ([r2,r5]:List Expr) TK Q Q Q bE Q (dA Q (aE (Expr.encR_eq _) (aE (Expr.encR_eq _) bM))) Q (bC Expr.encR_cells) Q (SA TK Q (TN (WN [0,1,4,5,6] Q Q ?_)));refine aL hm (λb6=>([(6,.msl 4 3 0 b6.length)]:Fr)) (λb6=>([(4,.flat 38 3 (b6.map Expr.encR))]:List (Nat×Blk))) [6] [0,1,4,5] Q (λz7 hm=>?_) (λb6 hm=>?_)
 ·refine RS ?_;iterate 4 (refine SA TK Q ?_)
  refine SX Q Q (fX [.tmp 36,.tmp 38] TK Q Q qGW Q Q Q Q Q) (BE hm λr8 hr8 hm=>SX Q Q (RN Q Q (SC (.d _) SN) (kM hr8)) (SX Q Q (aP TK Q Q Q) (SA TK Q (TN (WN [0,1,4,5,6,40,41,42] Q Q (TB (aZ hm (λ(x12,b13)=>([(6,.msl 4 3 0 b13.length),(42,.d (.int .i64 x12))]:Fr)) (λ(x12,b13)=>([(4,.flat 38 3 (b13.map Expr.encR))]:List (Nat×Blk))) [6,42] [0,1,4,5,40,41] [0,1,2,3,4] Q (kB Q) Q Q Q Q Q (λs z14 hm hz14=>?_))))))));obtain⟨x12,b13⟩:=s;refine WN [0,1,4,5,6,40,41,42] Q Q (RS (SA TK Q (TN (WN [0,1,4,5,6,40,41,42,43] Q Q (TQ ?_)))));refine TC _ Q (λh15=>?_) (λh15=>?_)
  ·replace hm:=JT h15 hm;refine TS (WT (WN [0,1,4,5,6,40,41,42] Q Q (TQ (TB (RS (VE hm λe16 he16 hm=>SX Q Q (bZ TK Q Q Q Q he16) (SA TK Q (SA TK Q ?_))))))));refine TN (WN [0,1,4,5,6,8,40,41,42] Q Q (TG ?_));iterate 6 (refine SA TK Q ?_)
   refine BE hm λr17 hr17 hm=>SX Q Q (RN Q Q (SC (.d _) (SC (.d _) (SC (.d _) SN))) (lX hr17)) (BE hm λr18 hr18 hm=>SX Q Q (RD Q Q Q (bU hr18)) (SX Q Q (dD (f:=Expr.encR) (xs:=([r18]:List Expr)) [.tmp 53] TK Q Q bE Q (dA Q (aE (Expr.encR_eq _) bM)) Q (bC Expr.encR_cells) Q) (GE hm λg19 hm=>?_)));refine gI (f:=Expr.encR) ([r18]:List Expr) TK Q Q bE Q Q Q Q Q (λh=>absurd (show 4 < 2 from h) (by decide)) Q fZ g19 Q Q ?_;refine SA TK Q (TN (WK (WT (WN [0,1,4,5,6,40,41,42] Q Q (TG (GE hm λg20 hm=>SX Q Q (aY Q Q Q Q g20) (SA TK Q ?_)))))));refine TN (WT ?_);exact⟨_,[0,1,2,3,4],(SJ hm),Q,(kB Q),Q⟩
  replace hm:=JF h15 hm;refine aI (WX (IE hm λv21 hm hz=>?_));rw [hz14 _ hz] at hm;refine WX (WH (WT ?_));exact⟨_,[0,1,2,3,4],(SJ hm),Q,(kB Q),Q⟩
 refine WN [0,1,4,5,6] Q Q ?_;refine aL hm (λb22=>([(6,.msl 4 3 0 b22.length)]:Fr)) (λb22=>([(4,.flat 38 3 (b22.map Expr.encR))]:List (Nat×Blk))) [6] [0,4,5] Q (λz23 hm=>?_) (λb22 hm=>?_)
 ·refine RS ?_;iterate 6 (refine SA TK Q ?_)
  refine SX Q Q (aP TK Q Q Q) (SA TK Q (TN (WN [0,1,4,5,6,63,64] Q Q (TB (aZ hm (λ(x27,b28)=>([(6,.msl 4 3 0 b28.length),(64,.d (.int .i64 x27))]:Fr)) (λ(x27,b28)=>([(4,.flat 38 3 (b28.map Expr.encR))]:List (Nat×Blk))) [6,64] [0,1,4,5,63] [0,1,2,3,4] Q (kB Q) Q Q Q Q Q (λs z29 hm hz29=>?_))))));obtain⟨x27,b28⟩:=s;refine WN [0,1,4,5,6,63,64] Q Q (RS (SA TK Q (TN (WN [0,1,4,5,6,63,64,65] Q Q (TQ ?_)))));refine TC _ Q (λh30=>?_) (λh30=>?_)
  ·replace hm:=JT h30 hm;refine TS (WT (WN [0,1,4,5,6,63,64] Q Q (TQ (TB (RS (SA TK Q (SA TK Q (TN (WN [0,1,4,5,6,9,63,64] Q Q ?_)))))))));refine RS (SA TK Q (SA TK Q (SA TK Q (TN (WN [0,1,4,5,6,9,63,64,69] Q Q ?_)))));refine TC _ Q (λh31=>?_) (λh31=>?_)
   ·replace hm:=dS h31 hm;refine TG ?_;iterate 4 (refine SA TK Q ?_)
    refine BE hm λr32 hr32 hm=>?_;refine SX Q Q (bA [0,1] ⟨Q,Q,λ_=>Q⟩ Q Q Q (by decide) Q (aQ Q) Q Q (uV hr32)) ?_;refine GE hm λg33 hm=>?_;refine gI (f:=Expr.encR) r32 TK Q Q bE Q Q Q Q Q (λh=>absurd (show 4 < 2 from h) (by decide)) Q fZ g33 Q Q ?_;refine SA TK Q (TN (WK (WT (WN [0,1,4,5,6,63,64] Q Q (TG (GE hm λg34 hm=>SX Q Q (aY Q Q Q Q g34) (SA TK Q ?_)))))));refine TN (WT ?_);exact⟨_,[0,1,2,3,4],(SJ hm),Q,(kB Q),Q⟩
   replace hm:=dT h31 hm;refine TS (WK (WT (WN [0,1,4,5,6,63,64] Q Q (TG (GE hm λg35 hm=>SX Q Q (aY Q Q Q Q g35) (SA TK Q (TN ?_)))))));refine WT ?_;exact⟨_,[0,1,2,3,4],(SJ hm),Q,(kB Q),Q⟩
  replace hm:=JF h30 hm;refine aI (WX (IE hm λv36 hm hz=>?_));rw [hz29 _ hz] at hm;refine WX (WH (WT ?_));exact⟨_,[0,1,2,3,4],(SJ hm),Q,(kB Q),Q⟩
 refine WN [0,4,5,6] Q Q ?_;refine aL hm (λb37=>([(6,.msl 4 3 0 b37.length)]:Fr)) (λb37=>([(4,.flat 38 3 (b37.map Expr.encR))]:List (Nat×Blk))) [6] [4] Q (λz38 hm=>?_) (λb37 hm=>?_)
 ·refine RS (SA TK Q (BE hm λr39 hr39 hm=>SX Q Q (RD Q Q Q (fP hr39)) (SX Q Q (aP TK Q Q Q) (SA TK Q (TN (WN [0,4,6,78,79,80] Q Q (TB ?_)))))));refine aZ hm (λ(x43,b44)=>([(6,.msl 4 3 0 b44.length),(80,.d (.int .i64 x43))]:Fr)) (λ(x43,b44)=>([(4,.flat 38 3 (b44.map Expr.encR))]:List (Nat×Blk))) [6,80] [0,4,78,79] [0,1,2,3,4] Q (kB Q) Q Q Q Q Q (λs z45 hm hz45=>?_);obtain⟨x43,b44⟩:=s;refine WN [0,4,6,78,79,80] Q Q (RS (SA TK Q (TN (WN [0,4,6,78,79,80,81] Q Q (TQ ?_)))));refine TC _ Q (λh46=>?_) (λh46=>?_)
  ·replace hm:=JT h46 hm;refine TS (WT (WN [0,4,6,78,79,80] Q Q (TQ (TB (RS (VE hm λe47 he47 hm=>SX Q Q (bZ TK Q Q Q Q he47) (SA TK Q ?_)))))));refine cW 5 Q Q gQ Q (SA TK Q (TN (WN [0,4,6,11,78,79,80] Q Q (bO follows  ?_))));iterate 7 (refine DA [0,1,2,3,4,5] TK Q ?_)
   refine BE hm λr48 hr48 hm=>DX [0,1,2,3,4,5] Q Q (RN Q Q (SC (.d _) (SC (.d _) SN)) (fW hr48)) ?_;refine DT ?_ (by kernel_rfl);refine SA TK Q (TN (WN [0,4,6,11,12,78,79,80] Q Q (RS ?_)));iterate 5 (refine SA TK Q ?_)
   refine BE hm λr49 hr49 hm=>SX Q Q (RN Q Q (SC (.d _) (SC (.d _) SN)) (iB hr49)) (BE hm λr50 hr50 hm=>SX Q Q (RD Q Q Q (bU hr50)) (cW 6 Q Q bE Q (dK 6 [none,none,some 3] Q Q (SA TK Q (TN (WN [0,4,6,11,12,13,78,79,80] Q Q ?_))))));refine aL hm (λ(c51,c52,c53)=>([]:Fr)) (λ(c51,c52,c53)=>([(6,.box 38 [.d (.int .i64 c51),.d (.int .i64 c52),.d (.sl 3 (c53.map Expr.encR))])]:List (Nat×Blk))) [] [0,4,6,12,13,78,79,80] Q (λz54 hm=>?_) (λj hm=>?_)
   ·refine RS (SA TK Q (SA TK Q (SA TK Q (TN (WN [0,4,6,12,13,78,79,80,101] Q Q ?_)))));refine TC _ Q (λh55=>?_) (λh55=>?_)
    ·replace hm:=JT h55 hm;refine TG (SA TK Q (BE hm λr56 hr56 hm=>SX Q Q (RD Q Q Q (cQ hr56)) (SA TK Q (TN (WT ?_)))));exact⟨_,[0,1,2,3,4,5,6],(SJ hm),Q,(kB Q),Q⟩
    replace hm:=JF h55 hm;refine TS (WT ?_);exact⟨_,[0,1,2,3,4,5,6],(SJ hm),Q,(kB Q),Q⟩
   obtain⟨c51,c52,c53⟩:=j;refine WN [0,4,6,12,13,78,79,80] Q Q (cU follows  ?_);iterate 10 (refine DA [0,1,2,3,4,5,6] TK Q ?_)
   refine VE hm λe57 he57 hm=>DX [0,1,2,3,4,5,6] Q Q (bZ TK Q Q Q Q he57) (DA [0,1,2,3,4,5,6] TK Q (BE hm λr58 hr58 hm=>?_));refine DX [0,1,2,3,4,5,6] Q Q (bA [0,1] ⟨Q,Q,λ_=>Q⟩ Q Q Q (by decide) Q (aQ Q) Q Q (cG hr58)) ?_;refine DX [0,1,2,3,4,5,6] Q Q (dD (f:=Expr.encR) (xs:=([(⟨c51,c52,c53⟩:Expr),r58]:List Expr)) [.tmp 105,.tmp 116] TK Q Q bE Q (dA Q (aE (Expr.encR_eq _) (aE (Expr.encR_eq _) bM))) Q (bC Expr.encR_cells) Q) (BE hm λr59 hr59 hm=>DX [0,1,2,3,4,5,6] Q Q (RD Q Q Q (dH hr59)) (DX [0,1,2,3,4,5,6] Q Q (dD (f:=Expr.encR) (xs:=([r59]:List Expr)) [.tmp 118] TK Q Q bE Q (dA Q (aE (Expr.encR_eq _) bM)) Q (bC Expr.encR_cells) Q) ?_));refine DT ?_ (by kernel_rfl);refine GE hm λg60 hm=>?_;refine gI (f:=Expr.encR) ([r59]:List Expr) TK Q Q bE Q Q Q Q Q (λh=>absurd (show 4 < 2 from h) (by decide)) Q fZ g60 Q Q ?_;refine SA TK Q (TN (WK (WT (WN [0,4,6,78,79,80] Q Q (TG (GE hm λg61 hm=>SX Q Q (aY Q Q Q Q g61) (SA TK Q ?_)))))));refine TN (WT ?_);exact⟨_,[0,1,2,3,4],(SJ hm),Q,(kB Q),Q⟩
  replace hm:=JF h46 hm;refine aI (WX (IE hm λv62 hm hz=>?_));rw [hz45 _ hz] at hm;refine WX (WH (WT ?_));exact⟨_,[0,1,2,3,4],(SJ hm),Q,(kB Q),Q⟩
 refine WN [4,6] Q Q ?_;refine tC 6 4 [4] Q Q Q Q Q (by simp) Q Q ?_;refine RS (SA TK Q (BE hm λr63 hr63 hm=>SX Q Q (RD Q Q Q (cE hr63)) (SA TK Q (TN (WN [4] Q Q (TR ?_))))));obtain rfl:=OJ hm;exact⟨_,[0,1],.mk _ (.cons (.agg (TK.lay Q) Q Q Q Q) .nil) Q,by decide,(kB Q),Q,Q⟩
theorem vW {p0:Builder} {p1:Int} {r:Expr} (hm:hJ p0 p1=some r):Ret Tryz.prog 38 [.box 81 [.d (.sl 14 (p0.numbering.t.routes.map Route.enc)),.d (.sl 1 (p0.numbering.t.points.map (D.int .i64))),.d (.sl 1 (p0.numbering.t.homes.map (D.int .i64))),.d (.int .i64 p0.numbering.t.sections),.d (.int .i64 p0.numbering.t.signals),.d (.int .i64 p0.numbering.inputs),.d (.sl 1 (p0.numbering.bases.map (D.int .i64))),.d (.int .i64 p0.numbering.extra),.d (.int .i64 p0.numbering.count),.msl 1 6 0 p0.rungs.length],.flat 40 6 (p0.rungs.map Rung.enc)] (λ_=>false) [.mptr 0 0 0 0,.d (.int .i64 p1)] (.d (r.enc)) [.box 81 [.d (.sl 14 (p0.numbering.t.routes.map Route.enc)),.d (.sl 1 (p0.numbering.t.points.map (D.int .i64))),.d (.sl 1 (p0.numbering.t.homes.map (D.int .i64))),.d (.int .i64 p0.numbering.t.sections),.d (.int .i64 p0.numbering.t.signals),.d (.int .i64 p0.numbering.inputs),.d (.sl 1 (p0.numbering.bases.map (D.int .i64))),.d (.int .i64 p0.numbering.extra),.d (.int .i64 p0.numbering.count),.msl 1 6 0 p0.rungs.length],.flat 40 6 (p0.rungs.map Rung.enc)]:=by
 refine dE zMH Tryz.func38 Q Tryz.ntmps38 Q Q (λwX gX=>?_);unfold hJ at hm;refine WN [0,1] Q Q (RS (cW 2 Q Q bE Q (dK 2 [none,none,some 3] Q Q (TN (WN [0,1,4] Q Q (RS (mC (f:=Expr.encR) 3 38 3 Q Q Q (mC (f:=Expr.encR) 4 38 3 Q Q Q ?_))))))));refine TN (WN [0,1,4,5,6] Q Q ?_);refine aL hm (λ(b1,b2)=>([(5,.msl 3 3 0 b1.length),(6,.msl 4 3 0 b2.length)]:Fr)) (λ(b1,b2)=>([(3,.flat 38 3 (b1.map Expr.encR)),(4,.flat 38 3 (b2.map Expr.encR))]:List (Nat×Blk))) [5,6] [0,1,4] Q (λz3 hm=>?_) (λj hm=>?_)
 ·refine RS ?_;iterate 6 (refine SA TK Q ?_)
  refine SX Q Q (aP TK Q Q Q) (SA TK Q (TN (WN [0,1,4,5,6,16,17,18] Q Q (TB (aZ hm (λ(x8,b9,b10)=>([(5,.msl 3 3 0 b9.length),(6,.msl 4 3 0 b10.length),(18,.d (.int .i64 x8))]:Fr)) (λ(x8,b9,b10)=>([(3,.flat 38 3 (b9.map Expr.encR)),(4,.flat 38 3 (b10.map Expr.encR))]:List (Nat×Blk))) [5,6,18] [0,1,4,16,17] [0,1,2,3,4] Q (kB Q) Q Q Q Q Q (λs z11 hm hz11=>?_))))));obtain⟨x8,b9,b10⟩:=s;refine WN [0,1,4,5,6,16,17,18] Q Q (RS (SA TK Q (TN (WN [0,1,4,5,6,16,17,18,19] Q Q (TQ ?_)))));refine TC _ Q (λh12=>?_) (λh12=>?_)
  ·replace hm:=JT h12 hm;refine TS (WT (WN [0,1,4,5,6,16,17,18] Q Q ?_));refine aL hm (λ(b13,b14)=>([(5,.msl 3 3 0 b13.length),(6,.msl 4 3 0 b14.length)]:Fr)) (λ(b13,b14)=>([(3,.flat 38 3 (b13.map Expr.encR)),(4,.flat 38 3 (b14.map Expr.encR))]:List (Nat×Blk))) [5,6] [0,1,4,16,17,18] Q (λz15 hm=>?_) (λj hm=>?_)
   ·refine TB (RS (SA TK Q (VE hm λe16 he16 hm=>SX Q Q (bZ TK Q Q Q Q he16) (SA TK Q (cW 5 Q Q jK Q (dK 5 [none,none,none,some 3,some 2,some 1,none,none,some 3,some 2,some 1,some 2,some 1,some 2] Q Q (SA TK Q (SA TK Q ?_))))))));refine TN (WN [0,1,4,5,6,7,8,16,17,18] Q Q (RS (SA TK Q (BE hm λr17 hr17 hm=>SX Q Q (RD Q Q Q (fP hr17)) (SX Q Q (aP TK Q Q Q) (SA TK Q (TN ?_)))))));refine WN [0,1,4,5,6,7,16,17,18,24,25,26] Q Q (TB (aZ hm (λ(x22,b23,b24)=>([(5,.msl 3 3 0 b23.length),(6,.msl 4 3 0 b24.length),(26,.d (.int .i64 x22))]:Fr)) (λ(x22,b23,b24)=>([(3,.flat 38 3 (b23.map Expr.encR)),(4,.flat 38 3 (b24.map Expr.encR))]:List (Nat×Blk))) [5,6,26] [0,1,4,7,16,17,18,24,25] [0,1,2,3,4] Q (kB Q) Q Q Q Q Q (λs z25 hm hz25=>?_)));obtain⟨x22,b23,b24⟩:=s;refine WN [0,1,4,5,6,7,16,17,18,24,25,26] Q Q (RS (SA TK Q (TN (WN [0,1,4,5,6,7,16,17,18,24,25,26,27] Q Q (TQ ?_)))));refine TC _ Q (λh26=>?_) (λh26=>?_)
    ·replace hm:=JT h26 hm;refine TS (WT (WN [0,1,4,5,6,7,16,17,18,24,25,26] Q Q (TQ (TB (RS (VE hm λe27 he27 hm=>SX Q Q (bZ TK Q Q Q Q he27) (SA TK Q ?_)))))));refine cW 5 Q Q gQ Q (SA TK Q (TN (WN [0,1,4,5,6,7,10,16,17,18,24,25,26] Q Q (TQ (bO follows  ?_)))));iterate 9 (refine DA [0,1,2,3,4,5] TK Q ?_)
     refine VE hm λe28 he28 hm=>DX [0,1,2,3,4,5] Q Q (bZ TK Q Q Q Q he28) ?_;iterate 2 (refine DA [0,1,2,3,4,5] TK Q ?_)
     refine DT ?_ (by kernel_rfl);refine TN (WN [0,1,4,5,6,7,10,16,17,18,24,25,26,41] Q Q ?_);refine TC _ Q (λh29=>?_) (λh29=>?_)
     ·replace hm:=dS h29 hm;refine aI (WX (WH (WT (WN [0,1,4,5,6,7,16,17,18,24,25,26] Q Q (TG (GE hm λg30 hm=>SX Q Q (aY Q Q Q Q g30) (SA TK Q ?_)))))));refine TN (WT ?_);exact⟨_,[0,1,2,3,4],(SJ hm),Q,(kB Q),Q⟩
     replace hm:=dT h29 hm;refine TS (WT (WN [0,1,4,5,6,7,10,16,17,18,24,25,26] Q Q (RS (SA TK Q (SA TK Q (SA TK Q (TN (WN [0,1,4,5,6,7,16,17,18,24,25,26,44] Q Q ?_))))))));refine TC _ Q (λh31=>?_) (λh31=>?_)
     ·replace hm:=JT h31 hm;refine TG ?_;iterate 6 (refine SA TK Q ?_)
      refine BE hm λr32 hr32 hm=>SX Q Q (RN Q Q (SC (.d _) (SC (.d _) (SC (.d _) SN))) (aS hr32)) (BE hm λr33 hr33 hm=>SX Q Q (RD Q Q Q (bU hr33)) (SX Q Q (dD (f:=Expr.encR) (xs:=([r33]:List Expr)) [.tmp 52] TK Q Q bE Q (dA Q (aE (Expr.encR_eq _) bM)) Q (bC Expr.encR_cells) Q) (GE hm λg34 hm=>?_)));refine gI (f:=Expr.encR) ([r33]:List Expr) TK Q Q bE Q Q Q Q Q (λh=>absurd (show 4 < 2 from h) (by decide)) Q fZ g34 Q Q ?_;refine SA TK Q (TN (WK (WT (WN [0,1,4,5,6,7,16,17,18,24,25,26] Q Q (TG (GE hm λg35 hm=>SX Q Q (aY Q Q Q Q g35) (SA TK Q ?_)))))));refine TN (WT ?_);exact⟨_,[0,1,2,3,4],(SJ hm),Q,(kB Q),Q⟩
     replace hm:=JF h31 hm;refine TG ?_;iterate 6 (refine SA TK Q ?_)
     refine BE hm λr36 hr36 hm=>SX Q Q (RN Q Q (SC (.d _) (SC (.d _) (SC (.d _) SN))) (aS hr36)) (BE hm λr37 hr37 hm=>SX Q Q (RD Q Q Q (bU hr37)) (SX Q Q (dD (f:=Expr.encR) (xs:=([r37]:List Expr)) [.tmp 62] TK Q Q bE Q (dA Q (aE (Expr.encR_eq _) bM)) Q (bC Expr.encR_cells) Q) (GE hm λg38 hm=>?_)));refine gI (f:=Expr.encR) ([r37]:List Expr) TK Q Q bE Q Q Q Q Q (λh=>absurd (show 3 < 2 from h) (by decide)) Q fZ g38 Q Q ?_;refine SA TK Q (TN (WK (WT (WN [0,1,4,5,6,7,16,17,18,24,25,26] Q Q (TG (GE hm λg39 hm=>SX Q Q (aY Q Q Q Q g39) (SA TK Q ?_)))))));refine TN (WT ?_);exact⟨_,[0,1,2,3,4],(SJ hm),Q,(kB Q),Q⟩
    replace hm:=JF h26 hm;refine aI (WX (IE hm λv40 hm hz=>?_));rw [hz25 _ hz] at hm;refine WX (WH (WK (WT ?_)));exact⟨_,[0,1,2,3,4],(SJ hm),Q,(kB Q),Q⟩
   obtain⟨b13,b14⟩:=j;refine WN [0,1,4,5,6,16,17,18] Q Q (TG (GE hm λg41 hm=>SX Q Q (aY Q Q Q Q g41) (SA TK Q (TN (WT ?_)))));exact⟨_,[0,1,2,3,4],(SJ hm),Q,(kB Q),Q⟩
  replace hm:=JF h12 hm;refine aI (WX (IE hm λv42 hm hz=>?_));rw [hz11 _ hz] at hm;refine WX (WH (WT ?_));exact⟨_,[0,1,2,3,4],(SJ hm),Q,(kB Q),Q⟩
 obtain⟨b1,b2⟩:=j;refine WN [0,1,4,5,6] Q Q ?_;refine tC 6 4 [0,1,4,5] Q Q Q Q Q (by simp) Q Q ?_;refine tC 5 3 [0,1,4,6] Q Q Q Q Q (by simp) Q Q ?_;refine bO follows  (DA [0,1,2,3,4] TK Q (BE hm λr43 hr43 hm=>DX [0,1,2,3,4] Q Q (RD Q Q Q (dH hr43)) ?_));iterate 5 (refine DA [0,1,2,3,4] TK Q ?_)
 refine BE hm λr44 hr44 hm=>DX [0,1,2,3,4] Q Q (RN Q Q (SC (.d _) (SC (.d _) SN)) (iB hr44)) (BE hm λr45 hr45 hm=>DX [0,1,2,3,4] Q Q (RD Q Q Q (bU hr45)) (DA [0,1,2,3,4] TK Q (BE hm λr46 hr46 hm=>DX [0,1,2,3,4] Q Q (RD Q Q Q (dH hr46)) (BE hm λr47 hr47 hm=>DX [0,1,2,3,4] Q Q (RD Q Q Q (cQ hr47)) ?_))));refine DX [0,1,2,3,4] Q Q (dD (f:=Expr.encR) (xs:=([r45,r47]:List Expr)) [.tmp 75,.tmp 78] TK Q Q bE Q (dA Q (aE (Expr.encR_eq _) (aE (Expr.encR_eq _) bM))) Q (bC Expr.encR_cells) Q) (BE hm λr48 hr48 hm=>DX [0,1,2,3,4] Q Q (RD Q Q Q (cE hr48)) (DX [0,1,2,3,4] Q Q (dD (f:=Expr.encR) (xs:=([r43,r48]:List Expr)) [.tmp 68,.tmp 80] TK Q Q bE Q (dA Q (aE (Expr.encR_eq _) (aE (Expr.encR_eq _) bM))) Q (bC Expr.encR_cells) Q) (BE hm λr49 hr49 hm=>DX [0,1,2,3,4] Q Q (RD Q Q Q (dH hr49)) ?_)));refine DT ?_ (by kernel_rfl);refine SA TK Q (TN (WN [4] Q Q (TR ?_)));obtain rfl:=OJ hm;exact⟨_,[0,1],.mk _ (.cons (.agg (TK.lay Q) Q Q Q Q) .nil) Q,by decide,(kB Q),Q,Q⟩
theorem tT {p0:Table} {r0:Program} {r1:Int} (hm:jT p0=some (r0,r1)):RetT Tryz.prog 11 [p0.enc] [r0.enc,.int .i64 r1]:=by
 refine .of (mv:=λ_=>false) (uM zNC Tryz.func11 Q Tryz.ntmps11 Q Q (λwX gX=>?_));unfold jT at hm;refine WN [0] Q Q (RS (cZ 0 Q Q Q (cW 1 Q Q qGV Q (dK 1 [some 1,none,some 6] Q Q (SA TK Q (TN (WN [1,2] Q Q (RS ?_))))))));refine SA TK Q (BE hm λr1 hr1 hm=>?_);obtain⟨r2,r3⟩:=r1;refine SX Q Q (yH Q Q Q (pS hr1)) (SA TK Q (SA TK Q (SA TK Q (cW 2 Q Q wQ Q (dK 2 [some 14,some 1,some 1,none,none,none,some 1,none,none] Q Q (SA TK Q (SA TK Q (TN (WN [1,2,4,5] Q Q (TQ (RS ?_)))))))))));refine SA TK Q (SA TK Q (TN (WN [1,2,4,5,19] Q Q ?_)));refine TC _ Q (λh4=>?_) (λh4=>?_)
 ·replace hm:=dS h4 hm;refine RS (SX Q Q (cI Q zNX qGV Q Q Q Q) (qQK 20 [some 1,none,some 6] Q (SA TK Q (SA TK Q (SA TK Q (TN (WN [2,3] Q Q (TR (WR ?_)))))))));obtain⟨rfl,rfl⟩:=Prod.mk.inj (Option.some.inj hm);exact⟨_,.mk _ (.cons (.agg (TK.lay Q) Q Q Q Q) (.cons (.tmp 3) .nil)) Q,(.cons (.d _) (.refl _) (.cons (.d _) (.refl _) .nil))⟩
 replace hm:=dT h4 hm;refine TS (WT (WN [1,2,4] Q Q (RS (SA TK Q (SX Q Q (iF Q plc81 zBO Q Q Q Q) (cW 3 Q Q zBO Q (gN (f:=Rung.enc) 3 9 4 40 6 Q Q Q (dK 3 [some 14,some 1,some 1,none,none,none,some 1,none,none,none] Q Q ?_))))))));refine SA TK Q (gN (f:=Rung.enc) 3 9 5 40 6 Q Q Q (TN (WN [1,2,4,6] Q Q ?_)));refine aL hm (λb5=>([]:Fr)) (λb5=>([(3,.box 81 [.d (.sl 14 (r2.t.routes.map Route.enc)),.d (.sl 1 (r2.t.points.map (D.int .i64))),.d (.sl 1 (r2.t.homes.map (D.int .i64))),.d (.int .i64 r2.t.sections),.d (.int .i64 r2.t.signals),.d (.int .i64 r2.inputs),.d (.sl 1 (r2.bases.map (D.int .i64))),.d (.int .i64 r2.extra),.d (.int .i64 r2.count),.msl 5 6 0 b5.length]),(5,.flat 40 6 (b5.map Rung.enc))]:List (Nat×Blk))) [] [1,2,4,6] Q (λz6 hm=>?_) (λb5 hm=>?_)
 ·refine RS (SA TK Q (SA TK Q (SX Q Q (aP TK Q Q Q) (SA TK Q (TN (WN [1,2,4,6,26,27] Q Q (TB (aZ hm (λ(x10,b11)=>([(27,.d (.int .i64 x10))]:Fr)) (λ(x10,b11)=>([(3,.box 81 [.d (.sl 14 (r2.t.routes.map Route.enc)),.d (.sl 1 (r2.t.points.map (D.int .i64))),.d (.sl 1 (r2.t.homes.map (D.int .i64))),.d (.int .i64 r2.t.sections),.d (.int .i64 r2.t.signals),.d (.int .i64 r2.inputs),.d (.sl 1 (r2.bases.map (D.int .i64))),.d (.int .i64 r2.extra),.d (.int .i64 r2.count),.msl 5 6 0 b11.length]),(5,.flat 40 6 (b11.map Rung.enc))]:List (Nat×Blk))) [27] [1,2,4,6,26] [0,1,2,3,4,5] Q k0 Q Q Q Q Q (λs z12 hm hz12=>?_)))))))));obtain⟨x10,b11⟩:=s;refine WN [1,2,4,6,26,27] Q Q (RS (SA TK Q (TN (WN [1,2,4,6,26,27,28] Q Q (TQ ?_)))));refine TC _ Q (λh13=>?_) (λh13=>?_)
  ·replace hm:=JT h13 hm;refine TS (WT (WN [1,2,4,6,26,27] Q Q (TQ (TB (RS (SA TK Q (SA TK Q (TN (WN [1,2,4,6,7,26,27] Q Q ?_)))))))));refine TG (SA TK Q (BE hm λr14 hr14 hm=>?_));refine eS [3,5] (λj=>Nat.beq j 1) Q Q Q (by decide) Q Q Q Q (uA hr14) Q Q Q ?_;refine TN (WK (WT (WN [1,2,4,6,26,27] Q Q (TG (GE hm λg15 hm=>SX Q Q (aY Q Q Q Q g15) (SA TK Q (TN ?_)))))));refine WT ?_;exact⟨_,[0,1,2,3,4,5],(SJ hm),Q,k0,Q⟩
  replace hm:=JF h13 hm;refine aI (WX (IE hm λv16 hm hz=>?_));rw [hz12 _ hz] at hm;refine WX (WH (WT ?_));exact⟨_,[0,1,2,3,4,5],(SJ hm),Q,k0,Q⟩
 refine WN [1,2,4,6] Q Q ?_;refine aL hm (λb17=>([]:Fr)) (λb17=>([(3,.box 81 [.d (.sl 14 (r2.t.routes.map Route.enc)),.d (.sl 1 (r2.t.points.map (D.int .i64))),.d (.sl 1 (r2.t.homes.map (D.int .i64))),.d (.int .i64 r2.t.sections),.d (.int .i64 r2.t.signals),.d (.int .i64 r2.inputs),.d (.sl 1 (r2.bases.map (D.int .i64))),.d (.int .i64 r2.extra),.d (.int .i64 r2.count),.msl 5 6 0 b17.length]),(5,.flat 40 6 (b17.map Rung.enc))]:List (Nat×Blk))) [] [1,2,4,6] Q (λz18 hm=>?_) (λb17 hm=>?_)
 ·refine RS (SA TK Q (SA TK Q (SX Q Q (aP TK Q Q Q) (SA TK Q (TN (WN [1,2,4,6,35,36] Q Q (TB (aZ hm (λ(x22,b23)=>([(36,.d (.int .i64 x22))]:Fr)) (λ(x22,b23)=>([(3,.box 81 [.d (.sl 14 (r2.t.routes.map Route.enc)),.d (.sl 1 (r2.t.points.map (D.int .i64))),.d (.sl 1 (r2.t.homes.map (D.int .i64))),.d (.int .i64 r2.t.sections),.d (.int .i64 r2.t.signals),.d (.int .i64 r2.inputs),.d (.sl 1 (r2.bases.map (D.int .i64))),.d (.int .i64 r2.extra),.d (.int .i64 r2.count),.msl 5 6 0 b23.length]),(5,.flat 40 6 (b23.map Rung.enc))]:List (Nat×Blk))) [36] [1,2,4,6,35] [0,1,2,3,4,5] Q k0 Q Q Q Q Q (λs z24 hm hz24=>?_)))))))));obtain⟨x22,b23⟩:=s;refine WN [1,2,4,6,35,36] Q Q (RS (SA TK Q (TN (WN [1,2,4,6,35,36,37] Q Q (TQ ?_)))));refine TC _ Q (λh25=>?_) (λh25=>?_)
  ·replace hm:=JT h25 hm;refine TS (WT (WN [1,2,4,6,35,36] Q Q (TQ (TB (RS (SA TK Q (SA TK Q (TN (WN [1,2,4,6,8,35,36] Q Q ?_)))))))));refine TG (SA TK Q (BE hm λr26 hr26 hm=>?_));refine eS [3,5] (λj=>Nat.beq j 1) Q Q Q (by decide) Q Q Q Q (sY hr26) Q Q Q ?_;refine TN (WK (WT (WN [1,2,4,6,35,36] Q Q (TG (GE hm λg27 hm=>SX Q Q (aY Q Q Q Q g27) (SA TK Q (TN ?_)))))));refine WT ?_;exact⟨_,[0,1,2,3,4,5],(SJ hm),Q,k0,Q⟩
  replace hm:=JF h25 hm;refine aI (WX (IE hm λv28 hm hz=>?_));rw [hz24 _ hz] at hm;refine WX (WH (WT ?_));exact⟨_,[0,1,2,3,4,5],(SJ hm),Q,k0,Q⟩
 refine WN [1,2,4,6] Q Q ?_;refine aL hm (λb29=>([]:Fr)) (λb29=>([(3,.box 81 [.d (.sl 14 (r2.t.routes.map Route.enc)),.d (.sl 1 (r2.t.points.map (D.int .i64))),.d (.sl 1 (r2.t.homes.map (D.int .i64))),.d (.int .i64 r2.t.sections),.d (.int .i64 r2.t.signals),.d (.int .i64 r2.inputs),.d (.sl 1 (r2.bases.map (D.int .i64))),.d (.int .i64 r2.extra),.d (.int .i64 r2.count),.msl 5 6 0 b29.length]),(5,.flat 40 6 (b29.map Rung.enc))]:List (Nat×Blk))) [] [1,2,4,6] Q (λz30 hm=>?_) (λb29 hm=>?_)
 ·refine RS (SA TK Q (SA TK Q (SX Q Q (aP TK Q Q Q) (SA TK Q (TN (WN [1,2,4,6,44,45] Q Q (TB (aZ hm (λ(x34,b35)=>([(45,.d (.int .i64 x34))]:Fr)) (λ(x34,b35)=>([(3,.box 81 [.d (.sl 14 (r2.t.routes.map Route.enc)),.d (.sl 1 (r2.t.points.map (D.int .i64))),.d (.sl 1 (r2.t.homes.map (D.int .i64))),.d (.int .i64 r2.t.sections),.d (.int .i64 r2.t.signals),.d (.int .i64 r2.inputs),.d (.sl 1 (r2.bases.map (D.int .i64))),.d (.int .i64 r2.extra),.d (.int .i64 r2.count),.msl 5 6 0 b35.length]),(5,.flat 40 6 (b35.map Rung.enc))]:List (Nat×Blk))) [45] [1,2,4,6,44] [0,1,2,3,4,5] Q k0 Q Q Q Q Q (λs z36 hm hz36=>?_)))))))));obtain⟨x34,b35⟩:=s;refine WN [1,2,4,6,44,45] Q Q (RS (SA TK Q (TN (WN [1,2,4,6,44,45,46] Q Q (TQ ?_)))));refine TC _ Q (λh37=>?_) (λh37=>?_)
  ·replace hm:=JT h37 hm;refine TS (WT (WN [1,2,4,6,44,45] Q Q (TQ (TB (RS (SA TK Q (SA TK Q (TN (WN [1,2,4,6,9,44,45] Q Q ?_)))))))));refine TG (SA TK Q (BE hm λr38 hr38 hm=>?_));refine eS [3,5] (λj=>Nat.beq j 1) Q Q Q (by decide) Q Q Q Q (uU hr38) Q Q Q ?_;refine TN (WK (WT (WN [1,2,4,6,44,45] Q Q (TG (GE hm λg39 hm=>SX Q Q (aY Q Q Q Q g39) (SA TK Q (TN ?_)))))));refine WT ?_;exact⟨_,[0,1,2,3,4,5],(SJ hm),Q,k0,Q⟩
  replace hm:=JF h37 hm;refine aI (WX (IE hm λv40 hm hz=>?_));rw [hz36 _ hz] at hm;refine WX (WH (WT ?_));exact⟨_,[0,1,2,3,4,5],(SJ hm),Q,k0,Q⟩
 refine WN [1,2,4,6] Q Q ?_;refine aL hm (λb41=>([]:Fr)) (λb41=>([(3,.box 81 [.d (.sl 14 (r2.t.routes.map Route.enc)),.d (.sl 1 (r2.t.points.map (D.int .i64))),.d (.sl 1 (r2.t.homes.map (D.int .i64))),.d (.int .i64 r2.t.sections),.d (.int .i64 r2.t.signals),.d (.int .i64 r2.inputs),.d (.sl 1 (r2.bases.map (D.int .i64))),.d (.int .i64 r2.extra),.d (.int .i64 r2.count),.msl 5 6 0 b41.length]),(5,.flat 40 6 (b41.map Rung.enc))]:List (Nat×Blk))) [] [1,2,4,6] Q (λz42 hm=>?_) (λb41 hm=>?_)
 ·refine RS (SA TK Q (SA TK Q (SX Q Q (aP TK Q Q Q) (SA TK Q (TN (WN [1,2,4,6,53,54] Q Q (TB (aZ hm (λ(x46,b47)=>([(54,.d (.int .i64 x46))]:Fr)) (λ(x46,b47)=>([(3,.box 81 [.d (.sl 14 (r2.t.routes.map Route.enc)),.d (.sl 1 (r2.t.points.map (D.int .i64))),.d (.sl 1 (r2.t.homes.map (D.int .i64))),.d (.int .i64 r2.t.sections),.d (.int .i64 r2.t.signals),.d (.int .i64 r2.inputs),.d (.sl 1 (r2.bases.map (D.int .i64))),.d (.int .i64 r2.extra),.d (.int .i64 r2.count),.msl 5 6 0 b47.length]),(5,.flat 40 6 (b47.map Rung.enc))]:List (Nat×Blk))) [54] [1,2,4,6,53] [0,1,2,3,4,5] Q k0 Q Q Q Q Q (λs z48 hm hz48=>?_)))))))));obtain⟨x46,b47⟩:=s;refine WN [1,2,4,6,53,54] Q Q (RS (SA TK Q (TN (WN [1,2,4,6,53,54,55] Q Q (TQ ?_)))));refine TC _ Q (λh49=>?_) (λh49=>?_)
  ·replace hm:=JT h49 hm;refine TS (WT (WN [1,2,4,6,53,54] Q Q (TQ (TB (RS (SA TK Q (SA TK Q (TN (WN [1,2,4,6,10,53,54] Q Q ?_)))))))));refine TG (SA TK Q (SA TK Q (SA TK Q (BE hm λr50 hr50 hm=>SX Q Q (RN Q Q (SC (.d _) (SC (.d _) (SC (.d _) SN))) (aS hr50)) (SA TK Q (BE hm λr51 hr51 hm=>?_))))));refine SX Q Q (bA [3,5] ⟨Q,Q,λ_=>Q⟩ Q Q Q (by decide) Q (aQ Q) Q Q (uC hr51)) ?_;refine BE hm λr52 hr52 hm=>?_;refine eS [3,5] (λj=>Nat.beq j 1) Q Q Q (by decide) Q Q Q Q (cS hr52) Q Q Q ?_;refine TN (WK (WT (WN [1,2,4,6,53,54] Q Q (TG (GE hm λg53 hm=>SX Q Q (aY Q Q Q Q g53) (SA TK Q (TN ?_)))))));refine WT ?_;exact⟨_,[0,1,2,3,4,5],(SJ hm),Q,k0,Q⟩
  replace hm:=JF h49 hm;refine aI (WX (IE hm λv54 hm hz=>?_));rw [hz48 _ hz] at hm;refine WX (WH (WT ?_));exact⟨_,[0,1,2,3,4,5],(SJ hm),Q,k0,Q⟩
 refine WN [1,2,4,6] Q Q ?_;refine aL hm (λb55=>([]:Fr)) (λb55=>([(3,.box 81 [.d (.sl 14 (r2.t.routes.map Route.enc)),.d (.sl 1 (r2.t.points.map (D.int .i64))),.d (.sl 1 (r2.t.homes.map (D.int .i64))),.d (.int .i64 r2.t.sections),.d (.int .i64 r2.t.signals),.d (.int .i64 r2.inputs),.d (.sl 1 (r2.bases.map (D.int .i64))),.d (.int .i64 r2.extra),.d (.int .i64 r2.count),.msl 5 6 0 b55.length]),(5,.flat 40 6 (b55.map Rung.enc))]:List (Nat×Blk))) [] [1,2,4,6] Q (λz56 hm=>?_) (λb55 hm=>?_)
 ·refine RS (SA TK Q (SA TK Q (SX Q Q (aP TK Q Q Q) (SA TK Q (TN (WN [1,2,4,6,67,68] Q Q (TB (aZ hm (λ(x60,b61)=>([(68,.d (.int .i64 x60))]:Fr)) (λ(x60,b61)=>([(3,.box 81 [.d (.sl 14 (r2.t.routes.map Route.enc)),.d (.sl 1 (r2.t.points.map (D.int .i64))),.d (.sl 1 (r2.t.homes.map (D.int .i64))),.d (.int .i64 r2.t.sections),.d (.int .i64 r2.t.signals),.d (.int .i64 r2.inputs),.d (.sl 1 (r2.bases.map (D.int .i64))),.d (.int .i64 r2.extra),.d (.int .i64 r2.count),.msl 5 6 0 b61.length]),(5,.flat 40 6 (b61.map Rung.enc))]:List (Nat×Blk))) [68] [1,2,4,6,67] [0,1,2,3,4,5] Q k0 Q Q Q Q Q (λs z62 hm hz62=>?_)))))))));obtain⟨x60,b61⟩:=s;refine WN [1,2,4,6,67,68] Q Q (RS (SA TK Q (TN (WN [1,2,4,6,67,68,69] Q Q (TQ ?_)))));refine TC _ Q (λh63=>?_) (λh63=>?_)
  ·replace hm:=JT h63 hm;refine TS (WT (WN [1,2,4,6,67,68] Q Q (TQ (TB (RS (SA TK Q (SA TK Q (TN (WN [1,2,4,6,11,67,68] Q Q ?_)))))))));refine TG (SA TK Q (SA TK Q (SA TK Q (BE hm λr64 hr64 hm=>SX Q Q (RN Q Q (SC (.d _) (SC (.d _) SN)) (iB hr64)) (SA TK Q (BE hm λr65 hr65 hm=>?_))))));refine SX Q Q (bA [3,5] ⟨Q,Q,λ_=>Q⟩ Q Q Q (by decide) Q (aQ Q) Q Q (vW hr65)) ?_;refine BE hm λr66 hr66 hm=>?_;refine eS [3,5] (λj=>Nat.beq j 1) Q Q Q (by decide) Q Q Q Q (cS hr66) Q Q Q ?_;refine TN (WK (WT (WN [1,2,4,6,67,68] Q Q (TG (GE hm λg67 hm=>SX Q Q (aY Q Q Q Q g67) (SA TK Q (TN ?_)))))));refine WT ?_;exact⟨_,[0,1,2,3,4,5],(SJ hm),Q,k0,Q⟩
  replace hm:=JF h63 hm;refine aI (WX (IE hm λv68 hm hz=>?_));rw [hz62 _ hz] at hm;refine WX (WH (WT ?_));exact⟨_,[0,1,2,3,4,5],(SJ hm),Q,k0,Q⟩
 refine WN [1,2,4,6] Q Q ?_;refine aL hm (λb69=>([]:Fr)) (λb69=>([(3,.box 81 [.d (.sl 14 (r2.t.routes.map Route.enc)),.d (.sl 1 (r2.t.points.map (D.int .i64))),.d (.sl 1 (r2.t.homes.map (D.int .i64))),.d (.int .i64 r2.t.sections),.d (.int .i64 r2.t.signals),.d (.int .i64 r2.inputs),.d (.sl 1 (r2.bases.map (D.int .i64))),.d (.int .i64 r2.extra),.d (.int .i64 r2.count),.msl 5 6 0 b69.length]),(5,.flat 40 6 (b69.map Rung.enc))]:List (Nat×Blk))) [] [2,4,6] Q (λz70 hm=>?_) (λb69 hm=>?_)
 ·refine RS (SA TK Q (SA TK Q (SX Q Q (aP TK Q Q Q) (SA TK Q (TN (WN [2,4,6,81,82] Q Q (TB (aZ hm (λ(x74,b75)=>([(82,.d (.int .i64 x74))]:Fr)) (λ(x74,b75)=>([(3,.box 81 [.d (.sl 14 (r2.t.routes.map Route.enc)),.d (.sl 1 (r2.t.points.map (D.int .i64))),.d (.sl 1 (r2.t.homes.map (D.int .i64))),.d (.int .i64 r2.t.sections),.d (.int .i64 r2.t.signals),.d (.int .i64 r2.inputs),.d (.sl 1 (r2.bases.map (D.int .i64))),.d (.int .i64 r2.extra),.d (.int .i64 r2.count),.msl 5 6 0 b75.length]),(5,.flat 40 6 (b75.map Rung.enc))]:List (Nat×Blk))) [82] [2,4,6,81] [0,1,2,3,4,5] Q k0 Q Q Q Q Q (λs z76 hm hz76=>?_)))))))));obtain⟨x74,b75⟩:=s;refine WN [2,4,6,81,82] Q Q (RS (SA TK Q (TN (WN [2,4,6,81,82,83] Q Q (TQ ?_)))));refine TC _ Q (λh77=>?_) (λh77=>?_)
  ·replace hm:=JT h77 hm;refine TS (WT (WN [2,4,6,81,82] Q Q (TQ (TB (RS (SA TK Q (SA TK Q (TN (WN [2,4,6,12,81,82] Q Q ?_)))))))));refine cU follows  ?_;iterate 3 (refine DA [0,1,2,3,4,5] TK Q ?_)
   refine BE hm λr78 hr78 hm=>DX [0,1,2,3,4,5] Q Q (RN Q Q (SC (.d _) (SC (.d _) (SC (.d _) SN))) (cD hr78)) ?_;iterate 3 (refine DA [0,1,2,3,4,5] TK Q ?_)
   refine BE hm λr79 hr79 hm=>DX [0,1,2,3,4,5] Q Q (RN Q Q (SC (.d _) (SC (.d _) (SC (.d _) SN))) (aS hr79)) (BE hm λr80 hr80 hm=>DX [0,1,2,3,4,5] Q Q (RD Q Q Q (bU hr80)) ?_);iterate 3 (refine DA [0,1,2,3,4,5] TK Q ?_)
   refine BE hm λr81 hr81 hm=>DX [0,1,2,3,4,5] Q Q (RN Q Q (SC (.d _) (SC (.d _) (SC (.d _) SN))) (aS hr81)) (BE hm λr82 hr82 hm=>DX [0,1,2,3,4,5] Q Q (RD Q Q Q (bU hr82)) (DX [0,1,2,3,4,5] Q Q (dD (f:=Expr.encR) (xs:=([r80,r82]:List Expr)) [.tmp 93,.tmp 98] TK Q Q bE Q (dA Q (aE (Expr.encR_eq _) (aE (Expr.encR_eq _) bM))) Q (bC Expr.encR_cells) Q) (BE hm λr83 hr83 hm=>DX [0,1,2,3,4,5] Q Q (RD Q Q Q (dH hr83)) ?_)));refine DT ?_ (by kernel_rfl);refine BE hm λr84 hr84 hm=>?_;refine eS [3,5] (λj=>Nat.beq j 1) Q Q Q (by decide) Q Q Q Q (cS hr84) Q Q Q ?_;refine TN (WK (WT (WN [2,4,6,81,82] Q Q (TG (GE hm λg85 hm=>SX Q Q (aY Q Q Q Q g85) (SA TK Q (TN ?_)))))));refine WT ?_;exact⟨_,[0,1,2,3,4,5],(SJ hm),Q,k0,Q⟩
  replace hm:=JF h77 hm;refine aI (WX (IE hm λv86 hm hz=>?_));rw [hz76 _ hz] at hm;refine WX (WH (WT ?_));exact⟨_,[0,1,2,3,4,5],(SJ hm),Q,k0,Q⟩
 refine WN [2,4,6] Q Q (bO follows  (DA [0,1,2,3,4,5] TK Q (BE hm λr87 hr87 hm=>DX [0,1,2,3,4,5] Q Q (RD Q Q Q (tK hr87)) ?_)));iterate 4 (refine DA [0,1,2,3,4,5] TK Q ?_)
 refine DX [0,1,2,3,4,5] Q Q (iF Q zNX qGV Q Q Q Q) ?_;refine DT ?_ (by kernel_rfl);refine SA TK Q (SA TK Q (TN (WN [2,3] Q Q (TR ?_))));obtain⟨rfl,rfl⟩:=Prod.mk.inj (Option.some.inj hm);exact⟨_,.mk _ (.cons (.agg (TK.lay Q) Q Q Q Q) (.cons (.tmp 3) .nil)) Q,(.cons (iZ (.cons (.d _) Q (.cons (.d _) Q (.cons (dC Q) Q .nil)))) (.refl _) (.cons (.d _) (.refl _) .nil))⟩
theorem qKV:∀ (fu:Nat) {p0:Expr} {p1:Int} {p2:Int} {p3:Int} {r0:Bool} {r1:Int} (hm:iO fu p0 p1 p2 p3=some (r0,r1)),Ret Tryz.prog 155 [.box 3 [.d (.int .i64 p3)]] (λ_=>false) [.d (.ptr (p0.enc) 0),.d (.int .i64 p1),.d (.int .i64 p2),.mptr 0 0 0 0] (.d (.bool (r0))) [.box 3 [.d (.int .i64 r1)]]:=by
 intro fu
 induction fu with
 | zero=>
  intro p0 p1 p2 p3 r0 r1 hm;unfold iO at hm;cases hm
 | succ fu ih=>
  intro p0 p1 p2 p3 r0 r1 hm;refine dE zGG Tryz.func155 Q Tryz.ntmps155 Q Q (λwX gX=>?_);unfold iO at hm;refine WN [0,1,2,3] Q Q (RS (SA TK Q (TN (WN [0,1,2,3] Q Q (TQ ?_)))));refine kJ [(17,.d (.bool (((decide ((12:Int) < p2))||(decide (p3=(0:Int)))))))] [17] [0,1,2,3] Q ?_ ?_
  ·refine TG (SA TK Q (SA TK Q (SB TK Q (λq1 hq1=>?_))));cases q1
   ·iterate 5 (refine SA TK Q ?_)
    refine TN (WT ?_);exact⟨[0],Q,(kB Q),dJ (bK (bL (by simp [hq1])) Q) Q⟩
   iterate 5 (refine SA TK Q ?_)
   refine TN (WT ?_);exact⟨[0],Q,(kB Q),dJ (bK (bL (by simp [hq1])) Q) Q⟩
  refine WN [0,1,2,3,17] Q Q ?_;refine TC _ Q (λh2=>?_) (λh2=>?_)
  ·replace hm:=JA h2 hm;refine RS (SA TK Q (TN (WN [8] Q Q (TR (WR ?_)))));obtain⟨rfl,rfl⟩:=Prod.mk.inj (Option.some.inj hm);exact⟨_,[0],res Q,by decide,(kB Q),Q,Q⟩
  replace hm:=JB h2 hm;refine TS (WT (WN [0,1,2,3] Q Q (RS (SA TK Q (SA TK Q (SA TK Q (GE hm λg3 hm=>SX Q Q (aY Q Q Q Q g3) (SA TK Q (SA TK Q (TN ?_))))))))));refine WN [0,1,2,3] Q Q ?_;refine cM hm (λ_=>([]:Fr)) (λ_=>([]:List (Nat×Blk))) [] [0,1,2,3] Q (λz4 hm hz4=>?_) (λj hm=>?_)
  ·refine RS ?_;iterate 4 (refine SA TK Q ?_)
   refine TN (WN [0,1,2,3,26] Q Q (TB ?_));refine aL hm (λx5=>([(27,.d (.bool (x5)))]:Fr)) (λx5=>([]:List (Nat×Blk))) [27] [0,1,2,3,26] Q (λz6 hm=>?_) (λx5 hm=>?_)
   ·refine RS (SA TK Q (SA TK Q (TN (WN [0,1,2,3,26,27] Q Q ?_))));refine TC _ Q (λh7=>?_) (λh7=>?_)
    ·replace hm:=JT h7 hm;refine TS (WT ?_);exact⟨_,[0],(SJ hm),Q,(kB Q),Q⟩
    replace hm:=JF h7 hm;refine TG (SA TK Q (SA TK Q (TN (WT ?_))));exact⟨_,[0],(SJ hm),Q,(kB Q),Q⟩
   refine WN [0,1,2,3,26,27] Q Q ?_;refine TC _ Q (λh8=>?_) (λh8=>?_)
   ·replace hm:=JA h8 hm;refine kJ [(8,.d (.bool (((decide (p0.var=(0:Int)))&&(decide ((p0.args.length:Int)=(0:Int)))))))] [8] [] Q ?_ ?_
    ·refine TG ?_;iterate 5 (refine SA TK Q ?_)
     refine SB TK Q (λq9 hq9=>?_);cases q9
     ·iterate 8 (refine SA TK Q ?_)
      refine TN (WT ?_);exact⟨[0],Q,(kB Q),dJ (bK (bL (by simp [hq9])) Q) Q⟩
     iterate 4 (refine SA TK Q ?_)
     refine SX Q Q (aP TK Q Q Q) (SA TK Q (SA TK Q (SA TK Q (TN (WT ?_)))));exact⟨[0],Q,(kB Q),dJ (bK (bL (by simp [hq9])) Q) Q⟩
    refine WN [8] Q Q (TR (WB (IE hm λv10 hm hz=>?_)));rw [hz4 _ hz] at hm;refine WR ?_;obtain⟨rfl,rfl⟩:=Prod.mk.inj (Option.some.inj hm);exact⟨_,[0],res Q,by decide,(kB Q),Q,Q⟩
   replace hm:=JB h8 hm;refine RS (SA TK Q (SA TK Q (TN (WN [0,1,2,3,26,43] Q Q ?_))));refine TC _ Q (λh11=>?_) (λh11=>?_)
   ·replace hm:=JT h11 hm;refine kJ [(8,.d (.bool (((decide ((0:Int)≤p0.var))&&((decide (p0.var < p1))&&(decide ((p0.args.length:Int)=(0:Int))))))))] [8] [] Q ?_ ?_
    ·refine TG ?_;iterate 5 (refine SA TK Q ?_)
     refine SB TK Q (λq12 hq12=>?_);cases q12
     ·iterate 16 (refine SA TK Q ?_)
      refine TN (WT ?_);exact⟨[0],Q,(kB Q),dJ (bK (bL (by simp [hq12])) Q) Q⟩
     iterate 7 (refine SA TK Q ?_)
     refine SB TK Q (λq13 hq13=>?_);cases q13
     ·iterate 8 (refine SA TK Q ?_)
      refine TN (WT ?_);exact⟨[0],Q,(kB Q),dJ (bK (bL (by simp [hq12,hq13])) Q) Q⟩
     iterate 4 (refine SA TK Q ?_)
     refine SX Q Q (aP TK Q Q Q) (SA TK Q (SA TK Q (SA TK Q (TN (WT ?_)))));exact⟨[0],Q,(kB Q),dJ (bK (bL (by simp [hq12,hq13])) Q) Q⟩
    refine WN [8] Q Q (TR (WB (IE hm λv14 hm hz=>?_)));rw [hz4 _ hz] at hm;refine WR ?_;obtain⟨rfl,rfl⟩:=Prod.mk.inj (Option.some.inj hm);exact⟨_,[0],res Q,by decide,(kB Q),Q,Q⟩
   replace hm:=JF h11 hm;refine RS (SA TK Q (SA TK Q (TN (WN [0,1,2,3,26,66] Q Q ?_))));refine TC _ Q (λh15=>?_) (λh15=>?_)
   ·replace hm:=JT h15 hm;refine RS ?_;iterate 4 (refine SA TK Q ?_)
    refine SX Q Q (aP TK Q Q Q) (SA TK Q (TN (WN [0,1,2,3,73] Q Q ?_)));refine TC _ Q (λh16=>?_) (λh16=>?_)
    ·replace hm:=dS h16 hm;refine RS (SA TK Q (TN (WN [8] Q Q (TR (WB (IE hm λv17 hm hz=>?_))))));rw [hz4 _ hz] at hm;refine WR ?_;obtain⟨rfl,rfl⟩:=Prod.mk.inj (Option.some.inj hm);exact⟨_,[0],res Q,by decide,(kB Q),Q,Q⟩
    replace hm:=dT h16 hm;refine TS (WK (WT ?_));exact⟨_,[0],(SJ hm),Q,(kB Q),Q⟩
   replace hm:=JF h15 hm;refine TQ (RS (SA TK Q (SA TK Q (TN (WN [0,1,2,3,26,74] Q Q ?_)))));refine TC _ Q (λh18=>?_) (λh18=>?_)
   ·replace hm:=JT h18 hm;refine TS (WT (WN [0,1,2,3,74] Q Q (zIM Q true h18 (TS (WK (WT ?_))))));exact⟨_,[0],(SJ hm),Q,(kB Q),Q⟩
   replace hm:=JF h18 hm;refine TG (SA TK Q (SA TK Q (TN (WT (WN [0,1,2,3,74] Q Q ?_)))));refine TC _ Q (λh19=>?_) (λh19=>?_)
   ·replace hm:=JT h19 hm;refine TS (WK (WT ?_));exact⟨_,[0],(SJ hm),Q,(kB Q),Q⟩
   replace hm:=JF h19 hm;refine RS (SA TK Q (TN (WN [8] Q Q (TR (WB (IE hm λv20 hm hz=>?_))))));rw [hz4 _ hz] at hm;refine WR ?_;obtain⟨rfl,rfl⟩:=Prod.mk.inj (Option.some.inj hm);exact⟨_,[0],res Q,by decide,(kB Q),Q,Q⟩
  refine WN [0,1,2,3] Q Q (TQ (RS ?_));iterate 5 (refine SA TK Q ?_)
  refine TN (WN [0,1,2,3,81] Q Q ?_);refine TC _ Q (λh21=>?_) (λh21=>?_)
  ·replace hm:=dS h21 hm;refine RS (SA TK Q (TN (WN [8] Q Q (TR (WR ?_)))));obtain⟨rfl,rfl⟩:=Prod.mk.inj (Option.some.inj hm);exact⟨_,[0],res Q,by decide,(kB Q),Q,Q⟩
  replace hm:=dT h21 hm;refine TS (WT (WN [0,1,2,3] Q Q ?_));refine cM hm (λc22=>([]:Fr)) (λc22=>([(0,.box 3 [.d (.int .i64 c22)])]:List (Nat×Blk))) [] [] Q (λz23 hm hz23=>?_) (λc22 hm=>?_)
  ·refine RS ?_;iterate 4 (refine SA TK Q ?_)
   refine SX Q Q (aP TK Q Q Q) (SA TK Q (TN (WN [0,1,2,3,86,87] Q Q (TB (aZ hm (λ(x27,c28)=>([(87,.d (.int .i64 x27))]:Fr)) (λ(x27,c28)=>([(0,.box 3 [.d (.int .i64 c28)])]:List (Nat×Blk))) [87] [0,1,2,3,86] [0] Q (kB Q) Q Q Q Q Q (λs z29 hm hz29=>?_))))));obtain⟨x27,c28⟩:=s;refine WN [0,1,2,3,86,87] Q Q (RS (SA TK Q (TN (WN [0,1,2,3,86,87,88] Q Q (TQ ?_)))));refine TC _ Q (λh30=>?_) (λh30=>?_)
   ·replace hm:=JT h30 hm;refine TS (WT (WN [0,1,2,3,86,87] Q Q (TQ (TB (RS (SA TK Q (SA TK Q (TN (WN [0,1,2,3,9,86,87] Q Q ?_)))))))));refine RS ?_;iterate 5 (refine SA TK Q ?_)
    refine VE hm λe31 he31 hm=>SX Q Q (qWS TK Q Q Q Q he31 (Expr.encR_eq _)) (SA TK Q (SA TK Q (GE hm λg32 hm=>SX Q Q (aY Q Q Q Q g32) (SA TK Q (BE hm λr33 hr33 hm=>?_)))));obtain⟨r34,r35⟩:=r33;refine eS [0] (λ_=>false) Q Q Q (by decide) Q Q Q Q (ih hr33) Q Q Q ?_;refine SA TK Q (TN (WN [0,1,2,3,86,87,101] Q Q ?_));refine TC _ Q (λh36=>?_) (λh36=>?_)
    ·replace hm:=JA h36 hm;refine RS (SA TK Q (TN (WN [8] Q Q (TR (WB (WR (IE hm λv37 hm hz=>?_)))))));rw [hz29 _ hz] at hm;refine WR (WB (IE hm λv38 hm hz=>?_));rw [hz23 _ hz] at hm;refine WR ?_;obtain⟨rfl,rfl⟩:=Prod.mk.inj (Option.some.inj hm);exact⟨_,[0],res Q,by decide,(kB Q),Q,Q⟩
    replace hm:=JB h36 hm;refine TS (WK (WT (WN [0,1,2,3,86,87] Q Q (TG (GE hm λg39 hm=>SX Q Q (aY Q Q Q Q g39) (SA TK Q (TN ?_)))))));refine WT ?_;exact⟨_,[0],(SJ hm),Q,(kB Q),Q⟩
   replace hm:=JF h30 hm;refine aI (WX (IE hm λv40 hm hz=>?_));rw [hz29 _ hz] at hm;refine WX (WH (WT ?_));exact⟨_,[0],(SJ hm),Q,(kB Q),Q⟩
  refine WN [] Q Q (RS (SA TK Q (TN (WN [8] Q Q (TR ?_)))));obtain⟨rfl,rfl⟩:=Prod.mk.inj (Option.some.inj hm);exact⟨_,[0],res Q,by decide,(kB Q),Q,Q⟩
theorem qOT {p0:Expr} {p1:Int} {p2:Int} {p3:Int} {r0:Bool} {r1:Int} (hm:qAR p0 p1 p2 p3=some (r0,r1)):Ret Tryz.prog 155 [.box 3 [.d (.int .i64 p3)]] (λ_=>false) [.d (.ptr (p0.enc) 0),.d (.int .i64 p1),.d (.int .i64 p2),.mptr 0 0 0 0] (.d (.bool (r0))) [.box 3 [.d (.int .i64 r1)]]:=qKV kN hm
theorem qOV {p0:Expr} {p1:Int} {r:Bool} (hm:pQ p0 p1=some r):RetN Tryz.prog 116 [p0.enc,.int .i64 p1] (.bool (r)):=by
 refine .unit (aJ zHN Tryz.func116 Q Tryz.ntmps116 Q Q (λwX gX=>?_)) Q;unfold pQ at hm;refine WN [0,1] Q Q (RS (cZ 0 Q Q Q (SA TK Q (TN (WN [1,2] Q Q (RS (cW 1 Q Q lD Q (SA TK Q ?_))))))));refine TN (WN [1,2,5] Q Q (zHP 0 Q Q Q Q Q (RS (SA TK Q (BE hm λr1 hr1 hm=>?_)))));obtain⟨r2,r3⟩:=r1;refine eS [1] (λ_=>false) Q Q Q (by decide) Q Q Q Q (qOT hr1) Q Q Q ?_;refine SA TK Q (TN (WN [4] Q Q (TR ?_)));obtain rfl:=OJ hm;exact EndsS.one _ Q (.d _) (.refl _)
theorem qFT {p0:Program} {p1:Rung} {r:Bool} (hm:nE p0 p1=some r):RetN Tryz.prog 53 [p0.enc,p1.enc] (.bool (r)):=by
 refine .unit (aJ zMB Tryz.func53 Q Tryz.ntmps53 Q Q (λwX gX=>?_)) Q;unfold nE at hm;refine WN [0,1] Q Q (RS (cZ 0 Q Q Q (cZ 1 Q Q Q (SA TK Q (TN (WN [2,3] Q Q ?_))))));refine cM hm (λ_=>([]:Fr)) (λ_=>([]:List (Nat×Blk))) [] [2,3] Q (λz1 hm hz1=>?_) (λj hm=>?_)
 ·refine RS (SA TK Q (SA TK Q (TN (WN [2,3,6] Q Q (TB (RS (SA TK Q (SA TK Q (TN (WN [2,3,6,7] Q Q ?_))))))))));refine TC _ Q (λh2=>?_) (λh2=>?_)
  ·replace hm:=JT h2 hm;refine RS (SA TK Q (SA TK Q (SA TK Q (TN (WN [2,3,11] Q Q ?_)))));refine TC _ Q (λh3=>?_) (λh3=>?_)
   ·replace hm:=dS h3 hm;refine RS (SA TK Q (TN (WN [4] Q Q (TR (WB (IE hm λv4 hm hz=>?_))))));rw [hz1 _ hz] at hm;refine WR ?_;obtain rfl:=OJ hm;exact EndsS.one _ Q (.d _) (.refl _)
   replace hm:=dT h3 hm;refine TS (WK (WT ?_));exact⟨_,[0,1],(SJ hm),Q,k0,Q⟩
  replace hm:=JF h2 hm;refine RS (SA TK Q (SA TK Q (TN (WN [2,3,12] Q Q ?_))));refine TC _ Q (λh5=>?_) (λh5=>?_)
  ·replace hm:=JT h5 hm;refine kJ [(21,.d (.bool (((decide (p1.preset < (1:Int)))||(decide ((1073741824:Int) < p1.preset))))))] [21] [2,3] Q ?_ ?_
   ·refine TG (SA TK Q (SA TK Q (SA TK Q (SB TK Q (λq6 hq6=>?_)))));cases q6
    ·iterate 4 (refine SA TK Q ?_)
     refine TN (WT ?_);exact⟨[0,1],Q,k0,dJ (bK (bL (by simp [hq6])) Q) Q⟩
    iterate 4 (refine SA TK Q ?_)
    refine TN (WT ?_);exact⟨[0,1],Q,k0,dJ (bK (bL (by simp [hq6])) Q) Q⟩
   refine WN [2,3,21] Q Q ?_;refine TC _ Q (λh7=>?_) (λh7=>?_)
   ·replace hm:=JA h7 hm;refine RS (SA TK Q (TN (WN [4] Q Q (TR (WB (IE hm λv8 hm hz=>?_))))));rw [hz1 _ hz] at hm;refine WR ?_;obtain rfl:=OJ hm;exact EndsS.one _ Q (.d _) (.refl _)
   replace hm:=JB h7 hm;refine TS (WK (WT ?_));exact⟨_,[0,1],(SJ hm),Q,k0,Q⟩
  replace hm:=JF h5 hm;refine RS (SA TK Q (TN (WN [4] Q Q (TR (WB (IE hm λv9 hm hz=>?_))))));rw [hz1 _ hz] at hm;refine WR ?_;obtain rfl:=OJ hm;exact EndsS.one _ Q (.d _) (.refl _)
 refine WN [2,3] Q Q ?_;refine aL hm (λx10=>([(4,.d (.bool (x10)))]:Fr)) (λx10=>([]:List (Nat×Blk))) [4] [] Q (λz11 hm=>?_) (λx10 hm=>?_)
 ·refine TG ?_;iterate 5 (refine SA TK Q ?_)
  refine SB TK Q (λq12 hq12=>?_);cases q12
  ·replace hm:=JF hq12 hm;iterate 16 (refine SA TK Q ?_)
   refine TN (WT ?_);exact⟨_,[0,1],(SJ hm),Q,k0,Q⟩
  replace hm:=JT hq12 hm;iterate 4 (refine SA TK Q ?_)
  refine SX Q Q (aP TK Q Q Q) (SA TK Q (SA TK Q (SB TK Q (λq13 hq13=>?_))));cases q13
  ·replace hm:=JF hq13 hm;iterate 8 (refine SA TK Q ?_)
   refine TN (WT ?_);exact⟨_,[0,1],(SJ hm),Q,k0,Q⟩
  replace hm:=JT hq13 hm;iterate 4 (refine SA TK Q ?_)
  refine SX Q Q (aP TK Q Q Q) (BE hm λr14 hr14 hm=>SX Q Q (RN Q Q (SC (.d _) (SC (.d _) SN)) (qOV hr14)) (SA TK Q (SA TK Q (TN (WT ?_)))));exact⟨_,[0,1],(SJ hm),Q,k0,Q⟩
 refine WN [4] Q Q (TR ?_);obtain rfl:=OJ hm;exact EndsS.one _ Q (.d _) (.refl _)
theorem xK {p0:Program} {r:Int} (hm:rR p0=some r):RetN Tryz.prog 13 [p0.enc] (.int .i64 r):=by
 refine .unit (aJ zNB Tryz.func13 Q Tryz.ntmps13 Q Q (λwX gX=>?_)) Q;unfold rR at hm;refine WN [0] Q Q (RS (cZ 0 Q Q Q (SA TK Q (TN (WN [1] Q Q (TQ (RS (SA TK Q (SA TK Q ?_)))))))));refine SX Q Q (aP TK Q Q Q) (SA TK Q (TN (WN [1,11] Q Q ?_)));refine TC _ Q (λh1=>?_) (λh1=>?_)
 ·replace hm:=JT h1 hm;refine RS (SA TK Q (TN (WN [2] Q Q (TR (WR ?_)))));obtain rfl:=OJ hm;exact EndsS.one _ Q (.d _) (.refl _)
 replace hm:=JF h1 hm;refine TS (WT (WN [1] Q Q (TQ ?_)));refine kJ [(22,.d (.bool (((decide (p0.inputs < (0:Int)))||(decide ((p0.names.length:Int) < p0.inputs))))))] [22] [1] Q ?_ ?_
 ·refine TG (SA TK Q (SA TK Q (SA TK Q (SB TK Q (λq2 hq2=>?_)))));cases q2
  ·iterate 4 (refine SA TK Q ?_)
   refine SX Q Q (aP TK Q Q Q) (SA TK Q (SA TK Q (TN (WT ?_))));exact⟨[0],Q,k0,dJ (bK (bL (by simp [hq2])) Q) Q⟩
  iterate 7 (refine SA TK Q ?_)
  refine TN (WT ?_);exact⟨[0],Q,k0,dJ (bK (bL (by simp [hq2])) Q) Q⟩
 refine WN [1,22] Q Q ?_;refine TC _ Q (λh3=>?_) (λh3=>?_)
 ·replace hm:=JA h3 hm;refine RS (SA TK Q (TN (WN [2] Q Q (TR (WR ?_)))));obtain rfl:=OJ hm;exact EndsS.one _ Q (.d _) (.refl _)
 replace hm:=JB h3 hm;refine TS (WT (WN [1] Q Q ?_));refine cM hm (λ_=>([]:Fr)) (λ_=>([]:List (Nat×Blk))) [] [1] Q (λz4 hm hz4=>?_) (λj hm=>?_)
 ·refine RS (SA TK Q (SA TK Q (SX Q Q (aP TK Q Q Q) (SA TK Q (TN (WN [1,24,25,26] Q Q (TB (aZ hm (λx6=>([(26,.d (.int .i64 x6))]:Fr)) (λx6=>([]:List (Nat×Blk))) [26] [1,24,25] [0] Q k0 Q Q Q Q Q (λx6 z7 hm hz7=>WN [1,24,25,26] Q Q ?_)))))))));refine RS (SA TK Q (TN (WN [1,24,25,26,27] Q Q (TQ ?_))));refine TC _ Q (λh8=>?_) (λh8=>?_)
  ·replace hm:=JT h8 hm;refine TS (WT (WN [1,24,25,26] Q Q (TQ (TB (RS (VE hm λe9 he9 hm=>SX Q Q (bZ TK Q Q Q Q he9) (SA TK Q ?_)))))));refine cW 1 Q Q pK Q (dK 1 [none,none,none,none,none,some 3] Q Q (SA TK Q (TN (WN [1,4,24,25,26] Q Q (RS (SA TK Q (SA TK Q (BE hm λr10 hr10 hm=>SX Q Q (RN Q Q (SC (.d _) (SC (.d _) SN)) (qFT hr10)) ?_))))))));refine SA TK Q (TN (WN [1,24,25,26,33] Q Q ?_));refine TC _ Q (λh11=>?_) (λh11=>?_)
   ·replace hm:=JA h11 hm;refine RS (SA TK Q (TN (WN [2] Q Q (TR (WB (WR (IE hm λv12 hm hz=>?_)))))));rw [hz7 _ hz] at hm;refine WR (WB (IE hm λv13 hm hz=>?_));rw [hz4 _ hz] at hm;refine WR ?_;obtain rfl:=OJ hm;exact EndsS.one _ Q (.d _) (.refl _)
   replace hm:=JB h11 hm;refine TS (WK (WT (WN [1,24,25,26] Q Q (TG (GE hm λg14 hm=>SX Q Q (aY Q Q Q Q g14) (SA TK Q (TN ?_)))))));refine WT ?_;exact⟨_,[0],(SJ hm),Q,k0,Q⟩
  replace hm:=JF h8 hm;refine aI (WX (IE hm λv15 hm hz=>?_));rw [hz7 _ hz] at hm;refine WX (WH (WT ?_));exact⟨_,[0],(SJ hm),Q,k0,Q⟩
 refine WN [1] Q Q (RS (SA TK Q (SA TK Q (SX Q Q (aP TK Q Q Q) (GE hm λg16 hm=>zCO (f:=D.bool) (x:=false) 1 TK Q Q Q oK Q Q Q Q Q g16 Q (SA TK Q (TN (WN [1,5] Q Q ?_))))))));refine cM hm (λb17=>([]:Fr)) (λb17=>([(1,.flat 4 1 (b17.map D.bool))]:List (Nat×Blk))) [] [] Q (λz18 hm hz18=>?_) (λb17 hm=>?_)
 ·refine RS (SA TK Q (SA TK Q (SX Q Q (aP TK Q Q Q) (SA TK Q (TN (WN [5,40,41,42] Q Q (TB (aZ hm (λ(x22,b23)=>([(5,.msl 1 1 0 b23.length),(42,.d (.int .i64 x22))]:Fr)) (λ(x22,b23)=>([(1,.flat 4 1 (b23.map D.bool))]:List (Nat×Blk))) [5,42] [40,41] [0,1] Q k0 Q Q Q Q Q (λs z24 hm hz24=>?_)))))))));obtain⟨x22,b23⟩:=s;refine WN [5,40,41,42] Q Q (RS (SA TK Q (TN (WN [5,40,41,42,43] Q Q (TQ ?_)))));refine TC _ Q (λh25=>?_) (λh25=>?_)
  ·replace hm:=JT h25 hm;refine TS (WT (WN [5,40,41,42] Q Q (TQ (TB (RS (VE hm λe26 he26 hm=>SX Q Q (bZ TK Q Q Q Q he26) (SA TK Q ?_)))))));refine cW 2 Q Q pK Q (dK 2 [none,none,none,none,none,some 3] Q Q (SA TK Q (TN (WN [5,7,40,41,42] Q Q (TQ (RS (SA TK Q (SA TK Q (SA TK Q (VE hm λe27 he27 hm=>?_))))))))));refine SX Q Q (pF TK Q Q Q Q he27 Q) (SX Q Q (qGX TK Q Q Q Q he27.2 Q) (TN (WN [5,7,40,41,42,50] Q Q ?_)));refine TC _ Q (λh28=>?_) (λh28=>?_)
   ·replace hm:=JA h28 hm;refine RS (SA TK Q (TN (WN [2] Q Q (TR (WR (WB (WR (IE hm λv29 hm hz=>?_))))))));rw [hz24 _ hz] at hm;refine WR (WB (IE hm λv30 hm hz=>?_));rw [hz18 _ hz] at hm;refine WR ?_;obtain rfl:=OJ hm;exact EndsS.one _ Q (.d _) (.refl _)
   replace hm:=JB h28 hm;refine TS (WT (WN [5,7,40,41,42] Q Q (TG (SA TK Q (SA TK Q (SA TK Q (VE hm λe31 he31 hm=>SX Q Q (pF TK Q Q Q Q he31 Q) (wY (x':=true) TK Q Q Q Q Q he31.2 Q Q Q (mD 5 (b23.set e26.var.toNat true).length Q List.length_set.symm ?_)))))))));refine mD 51 (b23.set e26.var.toNat true).length Q List.length_set.symm (TN (WK (WT (WN [5,40,41,42] Q Q (TG (GE hm λg32 hm=>SX Q Q (aY Q Q Q Q g32) (SA TK Q ?_)))))));refine TN (WT ?_);exact⟨_,[0,1],(SJ hm),Q,k0,Q⟩
  replace hm:=JF h25 hm;refine aI (WX (IE hm λv33 hm hz=>?_));rw [hz24 _ hz] at hm;refine WX (WH (WT ?_));exact⟨_,[0,1],(SJ hm),Q,k0,Q⟩
 refine WN [] Q Q (RS (SA TK Q (TN (WN [2] Q Q (TR ?_)))));obtain rfl:=OJ hm;exact EndsS.one _ Q (.d _) (.refl _)
theorem qET {p0:Program} {r:Machine} (hm:mU p0=some r):RetD Tryz.prog 22 [p0.enc] (r.enc):=by
 refine .of (mv:=λ_=>false) (aJ qYP Tryz.func22 Q Tryz.ntmps22 Q Q (λwX gX=>?_));unfold mU at hm;refine WN [0] Q Q (RS (cZ 0 Q Q Q (cW 1 Q Q oJ Q (dK 1 [some 1,some 1,none] Q Q (TN (WN [1,2] Q Q (TQ (RS ?_))))))));refine SA TK Q (BE hm λr1 hr1 hm=>SX Q Q (RN Q Q (SC (.d _) SN) (xK hr1)) (SA TK Q (TN (WN [1,2,5] Q Q ?_))));refine TC _ Q (λh2=>?_) (λh2=>?_)
 ·replace hm:=dS h2 hm;refine RS (SX Q Q (cI Q qRC oJ Q Q Q Q) (qQK 6 [some 1,some 1,none] Q (SA TK Q (TN (WN [2] Q Q (TR (WR ?_)))))));obtain rfl:=OJ hm;exact EndsS.cellR _ TK Q Q Q Q Q (.d _)
 replace hm:=dT h2 hm;refine TS (WT (WN [1,2] Q Q (bO follows  ?_)));iterate 2 (refine DA [0,1] TK Q ?_)
 refine DX [0,1] Q Q (aP TK Q Q Q) (GE hm λg3 hm=>DX [0,1] Q Q (qAD (f:=D.bool) (x:=false) TK Q Q oK Q Q Q Q Q g3 Q) ?_);iterate 2 (refine DA [0,1] TK Q ?_)
 refine DX [0,1] Q Q (aP TK Q Q Q) (GE hm λg4 hm=>DX [0,1] Q Q (qAD (f:=(D.int .i64)) (x:=(0:Int)) TK Q Q lD Q Q Q Q Q g4 Q) (DX [0,1] Q Q (cI Q qRC oJ Q Q Q Q) ?_));refine DT ?_ (by kernel_rfl);refine SA TK Q (TN (WN [2] Q Q (TR ?_)));obtain rfl:=OJ hm;exact EndsS.cellR _ TK Q Q Q Q Q (.d _)
theorem kC {p0:(List Bool)} {p1:Int} {p2:Bool} {r:Bool} (hm:eV p0 p1 p2=some r):RetN Tryz.prog 55 [.sl 1 (p0.map D.bool),.int .i64 p1,.bool (p2)] (.bool (r)):=by
 refine .unit (aJ zLZ Tryz.func55 Q Tryz.ntmps55 Q Q (λwX gX=>?_)) Q;unfold eV at hm;refine WN [0,1,2] Q Q (RS (SA TK Q (TN (WN [0,1,2] Q Q ?_))));refine aL hm (λx1=>([(6,.d (.bool (x1)))]:Fr)) (λx1=>([]:List (Nat×Blk))) [6] [] Q (λz2 hm=>?_) (λx1 hm=>?_)
 ·refine TG (SA TK Q (SA TK Q (SX Q Q (aP TK Q Q Q) (SA TK Q (SB TK Q (λq3 hq3=>?_))))));cases q3
  ·replace hm:=JF hq3 hm;iterate 8 (refine SA TK Q ?_)
   refine TN (WT ?_);exact⟨_,[],(SJ hm),Q,k0,Q⟩
  replace hm:=JT hq3 hm;refine SA TK Q (SA TK Q (VE hm λe4 he4 hm=>SX Q Q (bZ TK Q Q Q Q he4) ?_));iterate 5 (refine SA TK Q ?_)
  refine TN (WT ?_);exact⟨_,[],(SJ hm),Q,k0,Q⟩
 refine WN [6] Q Q (TR ?_);obtain rfl:=OJ hm;exact EndsS.one _ Q (.d _) (.refl _)
theorem rC {p0:(List Int)} {p1:Int} {p2:Int} {r:Bool} (hm:iC p0 p1 p2=some r):RetN Tryz.prog 56 [.sl 1 (p0.map (D.int .i64)),.int .i64 p1,.int .i64 p2] (.bool (r)):=by
 refine .unit (aJ zLY Tryz.func56 Q Tryz.ntmps56 Q Q (λwX gX=>?_)) Q;unfold iC at hm;refine WN [0,1,2] Q Q (RS (SA TK Q (TN (WN [0,1,2] Q Q ?_))));refine aL hm (λx1=>([(6,.d (.bool (x1)))]:Fr)) (λx1=>([]:List (Nat×Blk))) [6] [] Q (λz2 hm=>?_) (λx1 hm=>?_)
 ·refine TG (SA TK Q (SA TK Q (SX Q Q (aP TK Q Q Q) (SA TK Q (SB TK Q (λq3 hq3=>?_))))));cases q3
  ·replace hm:=JF hq3 hm;iterate 8 (refine SA TK Q ?_)
   refine TN (WT ?_);exact⟨_,[],(SJ hm),Q,k0,Q⟩
  replace hm:=JT hq3 hm;refine SA TK Q (SA TK Q (VE hm λe4 he4 hm=>SX Q Q (bZ TK Q Q Q Q he4) ?_));iterate 5 (refine SA TK Q ?_)
  refine TN (WT ?_);exact⟨_,[],(SJ hm),Q,k0,Q⟩
 refine WN [6] Q Q (TR ?_);obtain rfl:=OJ hm;exact EndsS.one _ Q (.d _) (.refl _)
theorem pT {p0:Table} {p1:Inputs} {r:(List Bool)} (hm:hU p0 p1=some r):RetD Tryz.prog 15 [p0.enc,p1.enc] (.sl 1 (r.map D.bool)):=by
 refine .of (mv:=λ_=>false) (aJ zMZ Tryz.func15 Q Tryz.ntmps15 Q Q (λwX gX=>?_));unfold hU at hm;refine WN [0,1] Q Q (RS (cZ 0 Q Q Q (cZ 1 Q Q Q (SA TK Q (TN (WN [2,3] Q Q (TQ (RS ?_))))))));refine SA TK Q (BE hm λr1 hr1 hm=>SX Q Q (RN Q Q (SC (.d _) SN) (kE hr1)) (SA TK Q (TN (WN [2,3,11] Q Q ?_))));refine TC _ Q (λh2=>?_) (λh2=>?_)
 ·replace hm:=dS h2 hm;refine RS (SA TK Q (TN (qTG 4 [some 1] Q (WN [4] Q Q (TR (WR ?_))))));obtain rfl:=OJ hm;exact EndsS.one _ Q (.d _) (.refl _)
 replace hm:=dT h2 hm;refine TS (WT (WN [2,3] Q Q (RS (mC (f:=D.bool) 2 4 1 Q Q Q (TN (WN [2,3,5] Q Q ?_))))));refine aL hm (λb3=>([(5,.msl 2 1 0 b3.length)]:Fr)) (λb3=>([(2,.flat 4 1 (b3.map D.bool))]:List (Nat×Blk))) [5] [2,3] Q (λz4 hm=>?_) (λb3 hm=>?_)
 ·refine RS (SA TK Q (SA TK Q (SA TK Q (TN (WN [2,3,5,13,14] Q Q (TB (aZ hm (λ(x8,b9)=>([(5,.msl 2 1 0 b9.length),(14,.d (.int .i64 x8))]:Fr)) (λ(x8,b9)=>([(2,.flat 4 1 (b9.map D.bool))]:List (Nat×Blk))) [5,14] [2,3,13] [0,1,2] Q k0 Q Q Q Q Q (λs z10 hm hz10=>?_))))))));obtain⟨x8,b9⟩:=s;refine WN [2,3,5,13,14] Q Q (RS (SA TK Q (TN (WN [2,3,5,13,14,15] Q Q (TQ ?_)))));refine TC _ Q (λh11=>?_) (λh11=>?_)
  ·replace hm:=JT h11 hm;refine TS (WT (WN [2,3,5,13,14] Q Q (TQ (TB (RS (SA TK Q (SA TK Q (TN (WN [2,3,5,6,13,14] Q Q ?_)))))))));refine cU follows  ?_;iterate 4 (refine DA [0,1,2] TK Q ?_)
   refine BE hm λr12 hr12 hm=>DX [0,1,2] Q Q (RN Q Q (SC (.d _) (SC (.d _) (SC (.d _) SN))) (kC hr12)) ?_;iterate 3 (refine DA [0,1,2] TK Q ?_)
   refine BE hm λr13 hr13 hm=>DX [0,1,2] Q Q (RN Q Q (SC (.d _) (SC (.d _) (SC (.d _) SN))) (kC hr13)) (DX [0,1,2] Q Q (fX [.tmp 21,.tmp 25] TK Q Q oK Q Q Q Q Q) ?_);refine DT ?_ (by kernel_rfl);refine GE hm λg14 hm=>gI (f:=D.bool) ([r12,r13]:List Bool) TK Q Q oK Q Q Q Q Q (λh=>absurd h (zQV _)) Q fZ g14 Q Q (SA TK Q (TN (WK (WT (WN [2,3,5,13,14] Q Q (TG (GE hm λg15 hm=>?_)))))));refine SX Q Q (aY Q Q Q Q g15) (SA TK Q (TN (WT ?_)));exact⟨_,[0,1,2],(SJ hm),Q,k0,Q⟩
  replace hm:=JF h11 hm;refine aI (WX (IE hm λv16 hm hz=>?_));rw [hz10 _ hz] at hm;refine WX (WH (WT ?_));exact⟨_,[0,1,2],(SJ hm),Q,k0,Q⟩
 refine WN [2,3,5] Q Q ?_;refine aL hm (λb17=>([(5,.msl 2 1 0 b17.length)]:Fr)) (λb17=>([(2,.flat 4 1 (b17.map D.bool))]:List (Nat×Blk))) [5] [2,3] Q (λz18 hm=>?_) (λb17 hm=>?_)
 ·refine RS (SA TK Q (SA TK Q (SX Q Q (aP TK Q Q Q) (SA TK Q (TN (WN [2,3,5,31,32] Q Q (TB (aZ hm (λ(x22,b23)=>([(5,.msl 2 1 0 b23.length),(32,.d (.int .i64 x22))]:Fr)) (λ(x22,b23)=>([(2,.flat 4 1 (b23.map D.bool))]:List (Nat×Blk))) [5,32] [2,3,31] [0,1,2] Q k0 Q Q Q Q Q (λs z24 hm hz24=>?_)))))))));obtain⟨x22,b23⟩:=s;refine WN [2,3,5,31,32] Q Q (RS (SA TK Q (TN (WN [2,3,5,31,32,33] Q Q (TQ ?_)))));refine TC _ Q (λh25=>?_) (λh25=>?_)
  ·replace hm:=JT h25 hm;refine TS (WT (WN [2,3,5,31,32] Q Q (TQ (TB (RS (SA TK Q (SA TK Q (TN (WN [2,3,5,7,31,32] Q Q ?_)))))))));refine cU follows  ?_;iterate 4 (refine DA [0,1,2] TK Q ?_)
   refine BE hm λr26 hr26 hm=>DX [0,1,2] Q Q (RN Q Q (SC (.d _) (SC (.d _) (SC (.d _) SN))) (rC hr26)) ?_;iterate 3 (refine DA [0,1,2] TK Q ?_)
   refine BE hm λr27 hr27 hm=>DX [0,1,2] Q Q (RN Q Q (SC (.d _) (SC (.d _) (SC (.d _) SN))) (rC hr27)) (DX [0,1,2] Q Q (fX [.tmp 39,.tmp 43] TK Q Q oK Q Q Q Q Q) ?_);refine DT ?_ (by kernel_rfl);refine GE hm λg28 hm=>gI (f:=D.bool) ([r26,r27]:List Bool) TK Q Q oK Q Q Q Q Q (λh=>absurd h (zQV _)) Q fZ g28 Q Q (SA TK Q (TN (WK (WT (WN [2,3,5,31,32] Q Q (TG (GE hm λg29 hm=>?_)))))));refine SX Q Q (aY Q Q Q Q g29) (SA TK Q (TN (WT ?_)));exact⟨_,[0,1,2],(SJ hm),Q,k0,Q⟩
  replace hm:=JF h25 hm;refine aI (WX (IE hm λv30 hm hz=>?_));rw [hz24 _ hz] at hm;refine WX (WH (WT ?_));exact⟨_,[0,1,2],(SJ hm),Q,k0,Q⟩
 refine WN [2,3,5] Q Q ?_;refine aL hm (λb31=>([(5,.msl 2 1 0 b31.length)]:Fr)) (λb31=>([(2,.flat 4 1 (b31.map D.bool))]:List (Nat×Blk))) [5] [] Q (λz32 hm=>?_) (λb31 hm=>?_)
 ·refine RS (SA TK Q (SA TK Q (SX Q Q (aP TK Q Q Q) (SA TK Q (TN (WN [3,5,49,50] Q Q (TB (aZ hm (λ(x36,b37)=>([(5,.msl 2 1 0 b37.length),(50,.d (.int .i64 x36))]:Fr)) (λ(x36,b37)=>([(2,.flat 4 1 (b37.map D.bool))]:List (Nat×Blk))) [5,50] [3,49] [0,1,2] Q k0 Q Q Q Q Q (λs z38 hm hz38=>?_)))))))));obtain⟨x36,b37⟩:=s;refine WN [3,5,49,50] Q Q (RS (SA TK Q (TN (WN [3,5,49,50,51] Q Q (TQ ?_)))));refine TC _ Q (λh39=>?_) (λh39=>?_)
  ·replace hm:=JT h39 hm;refine TS (WT (WN [3,5,49,50] Q Q (TQ (TB (RS (SA TK Q (SA TK Q (TN (WN [3,5,8,49,50] Q Q ?_)))))))));refine cU follows  ?_;iterate 4 (refine DA [0,1,2] TK Q ?_)
   refine BE hm λr40 hr40 hm=>DX [0,1,2] Q Q (RN Q Q (SC (.d _) (SC (.d _) (SC (.d _) SN))) (kC hr40)) ?_;iterate 3 (refine DA [0,1,2] TK Q ?_)
   refine BE hm λr41 hr41 hm=>DX [0,1,2] Q Q (RN Q Q (SC (.d _) (SC (.d _) (SC (.d _) SN))) (kC hr41)) ?_;iterate 3 (refine DA [0,1,2] TK Q ?_)
   refine BE hm λr42 hr42 hm=>DX [0,1,2] Q Q (RN Q Q (SC (.d _) (SC (.d _) SN)) (cY hr42)) ?_;iterate 3 (refine DA [0,1,2] TK Q ?_)
   refine BE hm λr43 hr43 hm=>DX [0,1,2] Q Q (RN Q Q (SC (.d _) (SC (.d _) SN)) (cY hr43)) (DX [0,1,2] Q Q (fX [.tmp 57,.tmp 61,.tmp 65,.tmp 69] TK Q Q oK Q Q Q Q Q) ?_);refine DT ?_ (by kernel_rfl);refine GE hm λg44 hm=>gI (f:=D.bool) ([r40,r41,r42,r43]:List Bool) TK Q Q oK Q Q Q Q Q (λh=>absurd h (zQV _)) Q fZ g44 Q Q (SA TK Q (TN (WK (WT (WN [3,5,49,50] Q Q (TG (GE hm λg45 hm=>?_)))))));refine SX Q Q (aY Q Q Q Q g45) (SA TK Q (TN (WT ?_)));exact⟨_,[0,1,2],(SJ hm),Q,k0,Q⟩
  replace hm:=JF h39 hm;refine aI (WX (IE hm λv46 hm hz=>?_));rw [hz38 _ hz] at hm;refine WX (WH (WT ?_));exact⟨_,[0,1,2],(SJ hm),Q,k0,Q⟩
 refine WN [5] Q Q (RS (SA TK Q (SA TK Q (TN (WN [4] Q Q (TR ?_))))));obtain rfl:=OJ hm;exact EndsS.one _ Q (dC Q) (.refl _)
theorem qUZ {p0:Program} {p1:Machine} {r:Bool} (hm:uN p0 p1=some r):RetN Tryz.prog 62 [p0.enc,p1.enc] (.bool (r)):=by
 refine .unit (aJ zLU Tryz.func62 Q Tryz.ntmps62 Q Q (λwX gX=>?_)) Q;unfold uN at hm;refine WN [0,1] Q Q (RS (cZ 0 Q Q Q (cZ 1 Q Q Q (SA TK Q (TN (WN [2,3] Q Q (TQ ?_)))))));refine aL hm (λx1=>([(27,.d (.bool (x1)))]:Fr)) (λx1=>([]:List (Nat×Blk))) [27] [2,3] Q (λz2 hm=>?_) (λx1 hm=>?_)
 ·refine TG (SA TK Q (BE hm λr3 hr3 hm=>SX Q Q (RN Q Q (SC (.d _) SN) (xK hr3)) (SA TK Q (SB TK Q (λq4 hq4=>?_)))));cases q4
  ·replace hm:=dT hq4 hm;refine SA TK Q (SA TK Q (SX Q Q (aP TK Q Q Q) (SA TK Q (SA TK Q (SX Q Q (aP TK Q Q Q) (SA TK Q (SA TK Q (SB TK Q (λq5 hq5=>?_)))))))));cases q5
   ·replace hm:=dT hq5 hm;refine SA TK Q (SA TK Q (SX Q Q (aP TK Q Q Q) (SA TK Q (SA TK Q (SX Q Q (aP TK Q Q Q) (SA TK Q (SA TK Q (TN (WT ?_)))))))));exact⟨_,[0,1],(SJ hm),Q,k0,Q⟩
   replace hm:=dS hq5 hm;iterate 8 (refine SA TK Q ?_)
   refine TN (WT ?_);exact⟨_,[0,1],(SJ hm),Q,k0,Q⟩
  replace hm:=dS hq4 hm;iterate 17 (refine SA TK Q ?_)
  refine TN (WT ?_);exact⟨_,[0,1],(SJ hm),Q,k0,Q⟩
 refine WN [2,3,27] Q Q ?_;refine TC _ Q (λh6=>?_) (λh6=>?_)
 ·replace hm:=JA h6 hm;refine RS (SA TK Q (TN (WN [4] Q Q (TR (WR ?_)))));obtain rfl:=OJ hm;exact EndsS.one _ Q (.d _) (.refl _)
 replace hm:=JB h6 hm;refine TS (WT (WN [2,3] Q Q ?_));refine cM hm (λ_=>([]:Fr)) (λ_=>([]:List (Nat×Blk))) [] [] Q (λz7 hm hz7=>?_) (λj hm=>?_)
 ·refine RS (SA TK Q (SA TK Q (SX Q Q (aP TK Q Q Q) (SA TK Q (TN (WN [3,29,30,31] Q Q (TB (aZ hm (λx9=>([(31,.d (.int .i64 x9))]:Fr)) (λx9=>([]:List (Nat×Blk))) [31] [3,29,30] [0,1] Q k0 Q Q Q Q Q (λx9 z10 hm hz10=>WN [3,29,30,31] Q Q ?_)))))))));refine RS (SA TK Q (TN (WN [3,29,30,31,32] Q Q (TQ ?_))));refine TC _ Q (λh11=>?_) (λh11=>?_)
  ·replace hm:=JT h11 hm;refine TS (WT (WN [3,29,30,31] Q Q (TQ (TB (RS (SA TK Q (VE hm λe12 he12 hm=>SX Q Q (bZ TK Q Q Q Q he12) ?_)))))));refine SA TK Q (cW 2 Q Q pK Q (dK 2 [none,none,none,none,none,some 3] Q Q (SA TK Q (SA TK Q (TN (WN [3,5,6,29,30,31] Q Q ?_))))));refine aL hm (λx13=>([(51,.d (.bool (x13)))]:Fr)) (λx13=>([]:List (Nat×Blk))) [51] [3,29,30,31] Q (λz14 hm=>?_) (λx13 hm=>?_)
   ·refine cU follows  ?_;iterate 3 (refine DA [0,1,2] TK Q ?_)
    refine VE hm λe15 he15 hm=>DX [0,1,2] Q Q (bZ TK Q Q Q Q he15) ?_;iterate 2 (refine DA [0,1,2] TK Q ?_)
    refine d_b [0,1,2] TK Q (λq16 hq16=>?_);cases q16
    ·replace hm:=JF hq16 hm;iterate 3 (refine DA [0,1,2] TK Q ?_)
     refine VE hm λe17 he17 hm=>DX [0,1,2] Q Q (bZ TK Q Q Q Q he17) ?_;iterate 5 (refine DA [0,1,2] TK Q ?_)
     refine DT ?_ (by kernel_rfl);refine TN (WT ?_);exact⟨_,[0,1,2],(SJ hm),Q,k0,Q⟩
    replace hm:=JT hq16 hm;iterate 9 (refine DA [0,1,2] TK Q ?_)
    refine DT ?_ (by kernel_rfl);refine TN (WT ?_);exact⟨_,[0,1,2],(SJ hm),Q,k0,Q⟩
   refine WN [3,29,30,31,51] Q Q ?_;refine TC _ Q (λh18=>?_) (λh18=>?_)
   ·replace hm:=JA h18 hm;refine RS (SA TK Q (TN (WN [4] Q Q (TR (WB (WR (IE hm λv19 hm hz=>?_)))))));rw [hz10 _ hz] at hm;refine WR (WB (IE hm λv20 hm hz=>?_));rw [hz7 _ hz] at hm;refine WR ?_;obtain rfl:=OJ hm;exact EndsS.one _ Q (.d _) (.refl _)
   replace hm:=JB h18 hm;refine TS (WK (WT (WN [3,29,30,31] Q Q (TG (GE hm λg21 hm=>SX Q Q (aY Q Q Q Q g21) (SA TK Q (TN ?_)))))));refine WT ?_;exact⟨_,[0,1],(SJ hm),Q,k0,Q⟩
  replace hm:=JF h11 hm;refine aI (WX (IE hm λv22 hm hz=>?_));rw [hz10 _ hz] at hm;refine WX (WH (WT ?_));exact⟨_,[0,1],(SJ hm),Q,k0,Q⟩
 refine WN [] Q Q (RS (SA TK Q (TN (WN [4] Q Q (TR ?_)))));obtain rfl:=OJ hm;exact EndsS.one _ Q (.d _) (.refl _)
end Go.Proofs.YtcagmechagiclaaGreatDoor
