/- A part of the proof. No condition. -/
import Derived.Test.YtandcfplaooadaaGreatDoorRows
import Derived.Deep.DeepHandedRow
import Derived.Lib.LaidTab
import Derived.Orders
import Derived.Tactics
import Derived.Laws.World
import Derived.Laws.Cells
import Derived.Laws.Rows
import Derived.Laws.AppendOwn
import Derived.Laws.Build
import Derived.Laws.CopyRow
import Derived.Laws.Entries
import Derived.Laws.StructEq
import Derived.Laws.MakeOwn
import Derived.Laws.OwnMore
import Derived.Laws.Append
import Derived.Laws.Slices
import Derived.Great.BuildSlice
import Derived.Deep.LoopGhost
import Derived.SizedLaws
import Derived.ProofKit
import Derived.Deep.Slices
import Derived.Carry
import Derived.KernelRfl
import Derived.DeepKeys
import Derived.Laws.Small
import Derived.MapKept
import Derived.Laws.Strings
import Derived.Lib.AppendZeros
import Derived.Shelf.SlSortCmp.InsertionK
import Derived.Lib.SlicesCompact
import Derived.DeepKeys3
import Derived.Laws.BytesArg
import Derived.Laws.RangeString
import Derived.RangeFuncRecord
import Derived.ScopeJumps
import Derived.Defers
import Derived.Recover
import Derived.Lib.LaidU8
import Derived.Lib.ItoaNum
import Derived.Ground.NamesProg
import Derived.Shelf.SlSortCmp.NoneTotal
import Derived.Shelf.Slices.CompactI
import Derived.Shelf.Slices.In.SortNone
import Derived.Shelf.Sort.Plain
import Derived.Shelf.Strconv.Itoa3
import Derived.Laws.BytesString
import Derived.Deep.CondSized
import Derived.JoinedCond
set_option linter.unusedSimpArgs false
set_option linter.unusedVariables false
namespace Go.TL
variable {p:Prop}
theorem aB(h:p:=by omega):p:=h
theorem aZ(h:p:=by kernel_rfl):p:=h
theorem aP(h:p:=by decide):p:=h
theorem aN(h:p:=by simp):p:=h
theorem fN(h:p:=by simp[ho,Op.operands]):p:=h
theorem iD(h:p:=by dsimp only;rw[mF];rfl):p:=h
theorem iV(h:p:=by dsimp only;omega):p:=h
theorem iK(h:p:=by simp;omega):p:=h
theorem qL(h:p:=by unfold Qu;omega):p:=h
theorem C8(h:p:=by simp[ho,Op.operands,Call.operands]):p:=h
theorem kW(h:p:=by push_cast;rfl):p:=h
theorem oH(h:p:=by simp[Gh.new,upd]):p:=h
theorem nW(h:p:=by first|rfl|simp):p:=h
theorem uA(h:p:=by unfold bE;rw[hr]):p:=h
theorem pF(h:p:=by rw[xK];omega):p:=h
theorem sN(h:p:=by simpa using h1):p:=h
theorem tZ(h:p:=by simpa using hv):p:=h
theorem rB(h:p:=by rw[mF];rfl):p:=h
theorem pE(h:p:=by simp[idleX]):p:=h
theorem zaP19q(h:p:=by rw[hag x (by simp[ho,Op.operands]),hx]):p:=h
theorem zaP20q(h:p:=by rw[hag y (by simp[ho,Op.operands]),hy]):p:=h
theorem nV(h:p:=by simp at h):p:=h
theorem qNQ(h:p:=by simp only[ho,Op.operands,Call.operands];exact zal9q.2 (.inr (zal10q.1 (kK hy)))):p:=h
theorem zaP23q(h:p:=by first|rfl|(simp[wy,Bo];done)|(rw[<- List.map_drop,uG (by simp)])):p:=h
theorem Eb(h:p:=by simpa[Gh.new,upd,hji]using hp):p:=h
theorem Ea(h:p:=by subst hy;simp[ho,Op.operands]):p:=h
theorem yR(h:p:=by simpa using hy):p:=h
theorem Br(h:p:=by simp only[zal95q]<;>rfl):p:=h
theorem Bq(h:p:=by simp only[zQN]at *; grind):p:=h
theorem Bp(h:p:=by first|exact yt _|rfl):p:=h
theorem zaP30q(h:p:=by rw[Jp,Jo,if_pos (by omega)];simp[show t<vs.size by omega]):p:=h
theorem fe(h:p:=by simpa using hc):p:=h
theorem D9(h:p:=by simp[DataW.TrodAll]at h):p:=h
theorem fc(h:p:=by simpa using h):p:=h
theorem qNP(h:p:=by rw[show decide ((k:Int)<idleX.rel)=false from qGG k];simp):p:=h
theorem bg(h:p:=by decide+kernel):p:=h
theorem D8(h:p:=by simpa[hlen]using ht):p:=h
theorem qf(h:p:=by simpa using hl):p:=h
theorem zaP38q(h:p:=by simp only[ho,Op.operands,Call.operands];exact zal9q.2 (.inr (zal10q.1 (fQ hy)))):p:=h
theorem yd(h:p:=by simpa using hx):p:=h
theorem yc(h:p:=by simpa using h2):p:=h
theorem zaP41q(h:p:=by first|exact zl Q Em Q (by first|exact yt _|rfl)|exact pS Q Em Q):p:=h
theorem zaP42q(h:p:=by first|exact zl Q El Q (by first|exact yt _|rfl)|exact pS Q El Q):p:=h
theorem zaP43q(h:p:=by first|exact zl Q Ek Q (by first|exact yt _|rfl)|exact pS Q Ek Q):p:=h
theorem Ml(h:p:=by simp only[cV,xK];omega):p:=h
theorem xI(h:p:=by simp[hi]):p:=h
theorem Wb(h:p:=by simpa[Gh.new,upd,hne]using hb):p:=h
theorem Iq(h:p:=by simp[Region.wanted]):p:=h
theorem bf(h:p:=by simp[hlt]):p:=h
theorem zaP49q(h:p:=by simp only[ho,Op.operands];exact zal9q.2 (.inr (zal10q.1 (fQ hy)))):p:=h
theorem qDY(h:p:=by first|omega|(constructor<;>omega)):p:=h
theorem Ip(h:p:=by rw[qWR];rfl):p:=h
theorem zaP52q(h:p:=by simp only[pQ,lP,gH,qDL,decide_eq_false_iff_not];omega):p:=h
theorem zaP53q(h:p:=by split;exact J0 h (K3 hC hq x);exact h.mono (by omega)):p:=h
theorem yb(h:p:=by simp[qy]):p:=h
theorem qDX(h:p:=by rw[<- hlen];exact(zal72q.1 hc).1):p:=h
theorem zaP56q(h:p:=by simp[execOp,ho,Instr.alloc,zeroValue,typeInfo,hi,hz,newVar,newRow]):p:=h
theorem D7(h:p:=by simpa using hlt):p:=h
theorem zaP58q(h:p:=by simp only[ho,Op.operands,Call.operands];exact zal9q.2 (.inr hy)):p:=h
theorem qNO(h:p:=by unfold Op.equalIn;simp[run_underlying hu]):p:=h
theorem qDW(h:p:=by dsimp only;rw[mF,kH];rfl):p:=h
theorem Mk(h:p:=by constructor<;>omega):p:=h
theorem qNN(h:p:=by simp only[AV.mapRef,Nn ids n m cs]):p:=h
theorem qDV(h:p:=by rw[<- Int.natCast_mul];omega):p:=h
theorem Wa(h:p:=by simp at hd;subst hd;rfl):p:=h
theorem Io(h:p:=by simpa using hi):p:=h
theorem V9(h:p:=by unfold oM;omega):p:=h
theorem zaP67q(h:p:=by simpa using grownCap_ge w (es.length+ds.length) cap0 e):p:=h
theorem qDU(h:p:=by rw[List.length_zip];omega):p:=h
theorem ya(h:p:=by simp[hy]):p:=h
theorem Mj(h:p:=by simpa[g1]using hp):p:=h
theorem Mi(h:p:=by simp only[];omega):p:=h
theorem qNM(h:p:=by show cI 0/\cI 0;unfold cI;omega):p:=h
theorem qNL(h:p:=by simpa using((zal72q.1 hk).2).symm):p:=h
theorem be(h:p:=by simp[c]):p:=h
theorem zaP75q(h:p:=by simp[Gh.back,hpl,show ¬j<st.hp.length by omega]):p:=h
theorem qNK(h:p:=by rw[Vj]at *; simp at *; omega):p:=h
theorem zaP77q(h:p:=by first|rfl|simp[Fr.get,mV,sO]):p:=h
theorem Mh(h:p:=by simpa using hj):p:=h
theorem zaP79q(h:p:=by rw[hes0];simpa using grownCap_ge w ds.length 0 e):p:=h
theorem V8(h:p:=by simp[eI,hu]):p:=h
theorem qDT(h:p:=by show b.length<=i+1;omega):p:=h
theorem x8(h:p:=by simp[h1]):p:=h
theorem V7(h:p:=by rw[oF];omega):p:=h
theorem zaP84q(h:p:=by rw[zal114q];exact⟨i,by simp[Vx,ho]⟩):p:=h
theorem qDS(h:p:=by rw[Yw];omega):p:=h
theorem zaP86q(h:p:=by rw[qRI,ho]at ho';exact(bO ho').symm):p:=h
theorem V6(h:p:=by simpa using hc'):p:=h
theorem Mg(h:p:=by rw[hvl];omega):p:=h
theorem Mf(h:p:=by simp[pZ]):p:=h
theorem In(h:p:=by simp[kA]):p:=h
theorem qDR(h:p:=by simp only[cV,xK]):p:=h
theorem V5(h:p:=by simpa using hlen):p:=h
theorem V4(h:p:=by simp[g1,hm,hb]):p:=h
theorem qDQ(h:p:=by subst e;exact hd rfl):p:=h
theorem zaP95q(h:p:=by simp[tP,bL,aH,cI,hx,hy,aX]):p:=h
theorem qDP(h:p:=by simp[Gh.canon,hj]):p:=h
theorem V3(h:p:=by simp[cV,hs]):p:=h
theorem qDO(h:p:=by unfold Xy;omega):p:=h
theorem D6(h:p:=by rw[iG]):p:=h
theorem Q7(h:p:=by rw[Mc];omega):p:=h
theorem qEG(h:p:=by rw[Hf];exact hX):p:=h
theorem gt(h:p:=by simp[m]):p:=h
theorem gr(h:p:=by simp[e]):p:=h
theorem Q6(h:p:=by simpa using hsz):p:=h
theorem Q5(h:p:=by unfold cI;omega):p:=h
theorem qEF(h:p:=by rw[decide_eq_false hno]):p:=h
theorem Q4(h:p:=by rw[Ww];omega):p:=h
theorem qEE(h:p:=by simp only[xK];omega):p:=h
theorem Ju(h:p:=by rw[hs];simp):p:=h
theorem Q3(h:p:=by simp[cC]):p:=h
theorem wz(h:p:=by simp[g]):p:=h
theorem qED(h:p:=by show(0:Int)<=k;omega):p:=h
theorem qEC(h:p:=by unfold pZ;simp):p:=h
theorem qEB(h:p:=by simpa[g1]using hb):p:=h
theorem qEA(h:p:=by simp[cC,hj']):p:=h
theorem qDZ(h:p:=by simp[Op.operands]):p:=h
theorem Q2(h:p:=by simp[hsz,hi]):p:=h
theorem Q1(h:p:=by simp[g',upd]):p:=h
theorem Jt(h:p:=by simp at he):p:=h
theorem Js(h:p:=by simp at hx):p:=h
theorem Ge(h:p:=by simp[s]):p:=h
theorem Gd(h:p:=by simp[h]):p:=h
end Go.TL
namespace Go.TL
abbrev aA:List Nat:=[0,1,2]
abbrev aF:List Nat:=[0,1,2,3,4]
abbrev aG:List Nat:=[0,1,2,3]
abbrev aI:List Nat:=[0,1,2,3,4,5]
abbrev aW:List Nat:=[0,1,2,3,4,5,6]
abbrev aU:List Nat:=[0,1,2,3,4,5,6,7,8]
abbrev bP:List Nat:=[0,1,2,3,4,5,6,7]
abbrev bT:List Nat:=[0,1,2,3,4,5,6,7,8,9,10]
abbrev gR:List Nat:=[0,1,4,5]
abbrev iJ:List Nat:=[1,2,4,6]
abbrev mT:List Nat:=[2,3,4]
abbrev mU:List Nat:=[1,3,4]
abbrev jR:List Nat:=[0,1,4,5,6]
abbrev qK:List Nat:=[6,25,26,27]
abbrev fI:List Nat:=[3,8,9,10,11,12,13,14,78,79,80]
abbrev lN:List Nat:=[1,2,8,9,12,42,43,44]
abbrev jQ:List Nat:=[2,3,4,44,45,46,52,53,54]
abbrev iZ:List Nat:=[0,1,2,3,4,5,6,7,8,9,10,11]
abbrev nL:List Nat:=[0,1,4,5,18,19,20]
abbrev gN:List Nat:=[3,8,9,10,11,12,13,14,50,51,52]
abbrev mE:List Nat:=[3,9,12,13,14,114,115,116]
abbrev kD:List Nat:=[0,1,4,5,6,7,16,17,18,24,25,26]
abbrev oE:List Nat:=[0,2,3,12,13,36,37,38]
abbrev mQ:List Nat:=[0,2,3,13,14,15,24,25,26]
abbrev pV:List Nat:=[0,1,5,6,7,16,17,18]
abbrev nS:List Nat:=[1,5,7,8,9,10,11,53,54]
abbrev lL:List Nat:=[0,2,3,4,5,13,14,15,24,25,26,40,41,42]
end Go.TL
namespace Go.TL
theorem C7:type_of% @And.intro:=@And.intro
theorem qAM:type_of% @Array.append_empty:=@Array.append_empty
theorem Jp:type_of% @Array.getD_eq_getD_getElem?:=@Array.getD_eq_getD_getElem?
theorem Jo:type_of% @Array.getElem?_append:=@Array.getElem?_append
theorem Jn:type_of% @Array.getElem?_eq_getElem:=@Array.getElem?_eq_getElem
theorem zal5q:type_of% @Array.getElem?_eq_some_iff:=@Array.getElem?_eq_some_iff
theorem Vz:type_of% @Array.getElem?_modify:=@Array.getElem?_modify
theorem qRI:type_of% @Array.getElem?_toList:=@Array.getElem?_toList
theorem cy:type_of% @Array.length_toList:=@Array.length_toList
theorem zal9q:type_of% @Array.mem_append:=@Array.mem_append
theorem zal10q:type_of% @Array.mem_toList_iff:=@Array.mem_toList_iff
theorem Im:type_of% @Array.size_append:=@Array.size_append
theorem qDN:type_of% @Array.size_replicate:=@Array.size_replicate
theorem Me:type_of% @Array.toList_append:=@Array.toList_append
theorem fb:type_of% @Array.toList_map:=@Array.toList_map
theorem ez:type_of% @Bool.and_assoc:=@Bool.and_assoc
theorem tY:type_of% @Bool.and_eq_true:=@Bool.and_eq_true
theorem pD:type_of% @Bool.and_true:=@Bool.and_true
theorem zal18q:type_of% @Bool.eq_iff_iff:=@Bool.eq_iff_iff
theorem kV:type_of% @Bool.false_eq_true:=@Bool.false_eq_true
theorem fS:type_of% @Bool.false_ne_true:=@Bool.false_ne_true
theorem qDM:type_of% @Bool.not_eq_false':=@Bool.not_eq_false'
theorem zal22q:type_of% @Bool.not_eq_true:=@Bool.not_eq_true
theorem gH:type_of% @Bool.not_eq_true':=@Bool.not_eq_true'
theorem sJ:type_of% @Bool.not_false:=@Bool.not_false
theorem D5:type_of% @Bool.not_not:=@Bool.not_not
theorem tX:type_of% @Bool.not_true:=@Bool.not_true
theorem qDL:type_of% @Bool.or_eq_false_iff:=@Bool.or_eq_false_iff
theorem lP:type_of% @Bool.or_eq_true:=@Bool.or_eq_true
theorem wD:type_of% @Bool.or_false:=@Bool.or_false
theorem pX:type_of% @Bool.true_and:=@Bool.true_and
theorem Mc:type_of% @ByteArray.size_append:=@ByteArray.size_append
theorem yQ:type_of% @Int.eq_ofNat_of_zero_le:=@Int.eq_ofNat_of_zero_le
theorem tW:type_of% @Int.le_refl:=@Int.le_refl
theorem yP:type_of% @Int.toNat_natCast:=@Int.toNat_natCast
theorem Mb:type_of% @Int.toNat_of_nonneg:=@Int.toNat_of_nonneg
theorem qDK:type_of% @List.Nodup.length_le_of_subset:=@List.Nodup.length_le_of_subset
theorem Bd:type_of% @List.all_append:=@List.all_append
theorem pC:type_of% @List.all_cons:=@List.all_cons
theorem zal39q:type_of% @List.all_eq_true:=@List.all_eq_true
theorem Ma:type_of% @List.all_map:=@List.all_map
theorem nU:type_of% @List.all_nil:=@List.all_nil
theorem Il:type_of% @List.any_append:=@List.any_append
theorem pW:type_of% @List.any_cons:=@List.any_cons
theorem zal44q:type_of% @List.any_eq_false:=@List.any_eq_false
theorem D4:type_of% @List.any_map:=@List.any_map
theorem yO:type_of% @List.any_nil:=@List.any_nil
theorem nT:type_of% @List.append_assoc:=@List.append_assoc
theorem kU:type_of% @List.append_nil:=@List.append_nil
theorem jJ:type_of% @List.cons.injEq:=@List.cons.injEq
theorem D3:type_of% @List.cons_append:=@List.cons_append
theorem Bc:type_of% @List.contains_eq_mem:=@List.contains_eq_mem
theorem qDJ:type_of% @List.drop_drop:=@List.drop_drop
theorem V2:type_of% @List.drop_eq_getElem_cons:=@List.drop_eq_getElem_cons
theorem x7:type_of% @List.eq_nil_of_length_eq_zero:=@List.eq_nil_of_length_eq_zero
theorem uS:type_of% @List.ext_getElem?:=@List.ext_getElem?
theorem qDI:type_of% @List.filter_append:=@List.filter_append
theorem L9:type_of% @List.find?_eq_none:=@List.find?_eq_none
theorem Ik:type_of% @List.findIdx?_eq_none_iff:=@List.findIdx?_eq_none_iff
theorem D2:type_of% @List.findIdx?_eq_some_iff_getElem:=@List.findIdx?_eq_some_iff_getElem
theorem qe:type_of% @List.flatMap_append:=@List.flatMap_append
theorem Ij:type_of% @List.flatMap_cons:=@List.flatMap_cons
theorem xz:type_of% @List.foldl_append:=@List.foldl_append
theorem ey:type_of% @List.foldl_cons:=@List.foldl_cons
theorem wC:type_of% @List.getD_eq_getElem?_getD:=@List.getD_eq_getElem?_getD
theorem kN:type_of% @List.getElem?_append:=@List.getElem?_append
theorem Bb:type_of% @List.getElem?_append_left:=@List.getElem?_append_left
theorem xy:type_of% @List.getElem?_append_right:=@List.getElem?_append_right
theorem qDH:type_of% @List.getElem?_cons_zero:=@List.getElem?_cons_zero
theorem nC:type_of% @List.getElem?_drop:=@List.getElem?_drop
theorem jT:type_of% @List.getElem?_eq_getElem:=@List.getElem?_eq_getElem
theorem nB:type_of% @List.getElem?_eq_none:=@List.getElem?_eq_none
theorem zal72q:type_of% @List.getElem?_eq_some_iff:=@List.getElem?_eq_some_iff
theorem eS:type_of% @List.getElem?_map:=@List.getElem?_map
theorem bd:type_of% @List.getElem?_mapIdx:=@List.getElem?_mapIdx
theorem lO:type_of% @List.getElem?_of_mem:=@List.getElem?_of_mem
theorem ew:type_of% @List.getElem?_range:=@List.getElem?_range
theorem bc:type_of% @List.getElem?_replicate:=@List.getElem?_replicate
theorem iC:type_of% @List.getElem?_set:=@List.getElem?_set
theorem tV:type_of% @List.getElem?_set_ne:=@List.getElem?_set_ne
theorem qd:type_of% @List.getElem?_set_self:=@List.getElem?_set_self
theorem sI:type_of% @List.getElem?_take:=@List.getElem?_take
theorem Vy:type_of% @List.getElem?_toArray:=@List.getElem?_toArray
theorem Vx:type_of% @List.getElem?_zipIdx:=@List.getElem?_zipIdx
theorem zal84q:type_of% @List.getElem?_zip_eq_some:=@List.getElem?_zip_eq_some
theorem fV:type_of% @List.getElem_mem:=@List.getElem_mem
theorem sH:type_of% @List.length_append:=@List.length_append
theorem kM:type_of% @List.length_cons:=@List.length_cons
theorem D1:type_of% @List.length_drop:=@List.length_drop
theorem D0:type_of% @List.length_filter_le:=@List.length_filter_le
theorem uR:type_of% @List.length_map:=@List.length_map
theorem rA:type_of% @List.length_nil:=@List.length_nil
theorem zal92q:type_of% @List.length_pos_iff:=@List.length_pos_iff
theorem xx:type_of% @List.length_range:=@List.length_range
theorem Vw:type_of% @List.length_replicate:=@List.length_replicate
theorem zal95q:type_of% @List.length_set:=@List.length_set
theorem oF:type_of% @List.length_take:=@List.length_take
theorem L8:type_of% @List.mapM_cons:=@List.mapM_cons
theorem gS:type_of% @List.map_append:=@List.map_append
theorem iW:type_of% @List.map_cons:=@List.map_cons
theorem Bo:type_of% @List.map_drop:=@List.map_drop
theorem Gc:type_of% @List.map_map:=@List.map_map
theorem uH:type_of% @List.map_nil:=@List.map_nil
theorem Qz:type_of% @List.map_replicate:=@List.map_replicate
theorem wy:type_of% @List.map_take:=@List.map_take
theorem wX:type_of% @List.mem_append:=@List.mem_append
theorem kI:type_of% @List.mem_append_left:=@List.mem_append_left
theorem vI:type_of% @List.mem_append_right:=@List.mem_append_right
theorem ci:type_of% @List.mem_cons:=@List.mem_cons
theorem pP:type_of% @List.mem_cons_of_mem:=@List.mem_cons_of_mem
theorem jI:type_of% @List.mem_cons_self:=@List.mem_cons_self
theorem zal111q:type_of% @List.mem_filter:=@List.mem_filter
theorem zal112q:type_of% @List.mem_flatMap:=@List.mem_flatMap
theorem zal113q:type_of% @List.mem_iff_getElem:=@List.mem_iff_getElem
theorem zal114q:type_of% @List.mem_iff_getElem?:=@List.mem_iff_getElem?
theorem zal115q:type_of% @List.mem_map:=@List.mem_map
theorem wx:type_of% @List.mem_map_of_mem:=@List.mem_map_of_mem
theorem fQ:type_of% @List.mem_of_getElem?:=@List.mem_of_getElem?
theorem Bn:type_of% @List.mem_of_mem_drop:=@List.mem_of_mem_drop
theorem ww:type_of% @List.mem_of_mem_take:=@List.mem_of_mem_take
theorem zal120q:type_of% @List.mem_range:=@List.mem_range
theorem zal121q:type_of% @List.mem_singleton:=@List.mem_singleton
theorem zal122q:type_of% @List.mem_take_iff_getElem:=@List.mem_take_iff_getElem
theorem pO:type_of% @List.nil_append:=@List.nil_append
theorem zal124q:type_of% @List.nodup_append:=@List.nodup_append
theorem zal125q:type_of% @List.nodup_cons:=@List.nodup_cons
theorem Jr:type_of% @List.not_all_eq_any_not:=@List.not_all_eq_any_not
theorem eE:type_of% @List.not_mem_nil:=@List.not_mem_nil
theorem wv:type_of% @List.of_mem_zip:=@List.of_mem_zip
theorem zal129q:type_of% @List.pairwise_cons:=@List.pairwise_cons
theorem zal130q:type_of% @List.pairwise_iff_getElem:=@List.pairwise_iff_getElem
theorem oG:type_of% @List.range_succ:=@List.range_succ
theorem gq:type_of% @List.size_toArray:=@List.size_toArray
theorem iQ:type_of% @List.take_add_one:=@List.take_add_one
theorem Qy:type_of% @List.take_append_drop:=@List.take_append_drop
theorem Gb:type_of% @List.take_append_of_le_length:=@List.take_append_of_le_length
theorem kH:type_of% @List.take_length:=@List.take_length
theorem uG:type_of% @List.take_of_length_le:=@List.take_of_length_le
theorem Qx:type_of% @List.take_succ_eq_append_getElem:=@List.take_succ_eq_append_getElem
theorem gn:type_of% @Nat.add_assoc:=@Nat.add_assoc
theorem sM:type_of% @Nat.add_mul:=@Nat.add_mul
theorem cg:type_of% @Nat.add_zero:=@Nat.add_zero
theorem eU:type_of% @Nat.eq_of_beq_eq_true:=@Nat.eq_of_beq_eq_true
theorem Jq:type_of% @Nat.eq_zero_or_pos:=@Nat.eq_zero_or_pos
theorem iP:type_of% @Nat.le_of_ble_eq_true:=@Nat.le_of_ble_eq_true
theorem fY:type_of% @Nat.le_refl:=@Nat.le_refl
theorem eR:type_of% @Nat.le_trans:=@Nat.le_trans
theorem Bl:type_of% @Nat.lt_of_lt_of_le:=@Nat.lt_of_lt_of_le
theorem fU:type_of% @Nat.lt_or_ge:=@Nat.lt_or_ge
theorem Bh:type_of% @Nat.mul_add:=@Nat.mul_add
theorem Ga:type_of% @Nat.mul_comm:=@Nat.mul_comm
theorem gm:type_of% @Nat.mul_le_mul:=@Nat.mul_le_mul
theorem F9:type_of% @Nat.mul_le_mul_left:=@Nat.mul_le_mul_left
theorem sL:type_of% @Nat.mul_le_mul_right:=@Nat.mul_le_mul_right
theorem Bg:type_of% @Nat.mul_one:=@Nat.mul_one
theorem rL:type_of% @Nat.not_lt_zero:=@Nat.not_lt_zero
theorem Bf:type_of% @Nat.sub_self:=@Nat.sub_self
theorem F8:type_of% @Nat.sub_zero:=@Nat.sub_zero
theorem gl:type_of% @Nat.succ_mul:=@Nat.succ_mul
theorem iO:type_of% @Nat.zero_add:=@Nat.zero_add
theorem iF:type_of% @Nat.zero_le:=@Nat.zero_le
theorem F7:type_of% @Nat.zero_mul:=@Nat.zero_mul
theorem zal162q:type_of% @Option.bind_eq_some_iff:=@Option.bind_eq_some_iff
theorem sK:type_of% @Option.getD_some:=@Option.getD_some
theorem Be:type_of% @Option.map_eq_none_iff:=@Option.map_eq_none_iff
theorem zal165q:type_of% @Option.map_eq_some_iff:=@Option.map_eq_some_iff
theorem jB:type_of% @Option.map_some:=@Option.map_some
theorem bO:type_of% @Option.some.inj:=@Option.some.inj
theorem jA:type_of% @Option.some.injEq:=@Option.some.injEq
theorem ce:type_of% @Option.toList_some:=@Option.toList_some
theorem cX:type_of% @Prod.mk.inj:=@Prod.mk.inj
theorem wW:type_of% @Prod.mk.injEq:=@Prod.mk.injEq
end Go.TL
set_option maxRecDepth 100000
namespace Go.Proofs.YtandcfplaooadaaGreatDoor
open Go
noncomputable def laidWorld (os:Os):World:=
 { World.holding Tryz.prog os ⟨#[],#[],[]⟩with heap:=((((((World.holding Tryz.prog os ⟨#[],#[],[]⟩).heap.modify 3 fun
  |.cells _ t frozen=>.cells #[.int .u8 0,.int .u8 1,.int .u8 28,.int .u8 2,.int .u8 29,.int .u8 14,.int .u8 24,.int .u8 3,.int .u8 30,.int .u8 22,.int .u8 20,.int .u8 15,.int .u8 25,.int .u8 17,.int .u8 4,.int .u8 8,.int .u8 31,.int .u8 27,.int .u8 13,.int .u8 23,.int .u8 21,.int .u8 19,.int .u8 16,.int .u8 7,.int .u8 26,.int .u8 12,.int .u8 18,.int .u8 6,.int .u8 11,.int .u8 5,.int .u8 10,.int .u8 9] t frozen
  |o=>o).modify 4 fun
  |.cells _ t frozen=>.cells #[.int .u8 0,.int .u8 1,.int .u8 56,.int .u8 2,.int .u8 57,.int .u8 49,.int .u8 28,.int .u8 3,.int .u8 61,.int .u8 58,.int .u8 42,.int .u8 50,.int .u8 38,.int .u8 29,.int .u8 17,.int .u8 4,.int .u8 62,.int .u8 47,.int .u8 59,.int .u8 36,.int .u8 45,.int .u8 43,.int .u8 51,.int .u8 22,.int .u8 53,.int .u8 39,.int .u8 33,.int .u8 30,.int .u8 24,.int .u8 18,.int .u8 12,.int .u8 5,.int .u8 63,.int .u8 55,.int .u8 48,.int .u8 27,.int .u8 60,.int .u8 41,.int .u8 37,.int .u8 16,.int .u8 46,.int .u8 35,.int .u8 44,.int .u8 21,.int .u8 52,.int .u8 32,.int .u8 23,.int .u8 11,.int .u8 54,.int .u8 26,.int .u8 40,.int .u8 15,.int .u8 34,.int .u8 20,.int .u8 31,.int .u8 10,.int .u8 25,.int .u8 14,.int .u8 19,.int .u8 9,.int .u8 13,.int .u8 8,.int .u8 7,.int .u8 6] t frozen
  |o=>o).modify 2 fun
  |.cells _ t frozen=>.cells #[.int .u64 1,.int .u64 10,.int .u64 100,.int .u64 1000,.int .u64 10000,.int .u64 100000,.int .u64 1000000,.int .u64 10000000,.int .u64 100000000,.int .u64 1000000000,.int .u64 10000000000,.int .u64 100000000000,.int .u64 1000000000000,.int .u64 10000000000000,.int .u64 100000000000000,.int .u64 1000000000000000,.int .u64 10000000000000000,.int .u64 100000000000000000,.int .u64 1000000000000000000,.int .u64 10000000000000000000] t frozen
  |o=>o).modify 1 fun
  |.cells _ t frozen=>.cells #[.int .i64 0,.int .i64 2,.int .i64 3,.int .i64 4] t frozen
  |o=>o).modify 0 fun
  |.cells _ t frozen=>.cells #[.int .i64 1,.int .i64 0,.int .i64 1,.int .i64 0,.int .i64 1,.int .i64 1,.int .i64 0,.int .i64 0,.int .i64 2,.int .i64 0,.int .i64 1,.int .i64 1,.int .i64 2,.int .i64 0,.int .i64 2,.int .i64 2,.int .i64 2,.int .i64 1,.int .i64 0,.int .i64 1,.int .i64 2,.int .i64 2,.int .i64 0,.int .i64 2,.int .i64 3,.int .i64 0,.int .i64 1,.int .i64 0,.int .i64 3,.int .i64 1,.int .i64 0,.int .i64 0,.int .i64 3,.int .i64 2,.int .i64 3,.int .i64 0,.int .i64 3,.int .i64 3,.int .i64 2,.int .i64 0] t frozen
  |o=>o) }
end Go.Proofs.YtandcfplaooadaaGreatDoor
namespace Go.TL
inductive D where
  |bool (b:Bool)
  |int (k:IntKind) (n:Int)
  |str (s:ByteArray)
  |agg (cs:List D)
  |nilsl
  |sl (sz:Nat) (es:List D)
  |own (N ty sz:Nat) (es:List D)
  |nilptr
  |ptr (e:D) (off:Nat)
  |fn (f:FuncId)
  |clo (f:FuncId) (cs:List D)
  |nilfn
  |iface (t:TypeId) (d:D)
  |nilif
  |nilmap
  deriving Inhabited
def D.cells:D->List D
  |.agg cs=>cs
  |d=>[d]
def D.one:D->Bool
  |.agg _=>false
  |_=>true
inductive DRep (w:World) (X:Nat->Prop):D->Value->Prop
  |bool (b:Bool):DRep w X (.bool b) (.bool b)
  |int (k:IntKind) (n:Int):DRep w X (.int k n) (.int k n)
  |str (s:ByteArray):DRep w X (.str s) (.string s)
  |agg (cs:List D) (vs:Array Value) (hl:cs.length=vs.size) (h1:∀c∈cs,c.one=true) (h:∀(i:Nat)(c:D)(v:Value),cs[i]?=some c->vs[i]?=some v->DRep w X c v):DRep w X (.agg cs) (.agg vs)
  |nilsl (a:Option Addr):DRep w X .nilsl (.slice a 0 0)
  |sl0 (sz:Nat) (a:Option Addr) (cap:Nat):DRep w X (.sl sz []) (.slice a 0 cap)
  |sl (sz:Nat) (es:List D) (ad:Addr) (cap:Nat) (val:Nat->Nat->Value) (hX:X ad.block) (hc:es.length<=cap)
      (hs:∀(i:Nat)(e:D),es[i]?=some e->e.cells.length=sz)
      (h1:∀(i:Nat)(e:D)(j:Nat)(c:D),es[i]?=some e->e.cells[j]?=some c->c.one=true)
      (hv:∀(i:Nat)(e:D)(j:Nat)(c:D),es[i]?=some e->e.cells[j]?=some c->w.cell? (ad.add (i*sz+j))=some (val i j))
      (hr:∀(i:Nat)(e:D)(j:Nat)(c:D),es[i]?=some e->e.cells[j]?=some c->DRep w X c (val i j)):DRep w X (.sl sz es) (.slice (some ad) es.length cap)
  |own0 (N ty sz:Nat) (a:Option Addr):DRep w X (.own N ty sz []) (.slice a 0 0)
  |own (N ty sz:Nat) (es:List D) (b cap:Nat) (cells:Array Value) (val:Nat->Nat->Value) (hX:X b) (hN:N<=b) (hw:w.heap[b]?=some (.cells cells ty (0,0))) (hc:es.length<=cap) (hp:cap*sz<=cells.size)
      (hs:∀(i:Nat)(e:D),es[i]?=some e->e.cells.length=sz)
      (h1:∀(i:Nat)(e:D)(j:Nat)(c:D),es[i]?=some e->e.cells[j]?=some c->c.one=true)
      (hv:∀(i:Nat)(e:D)(j:Nat)(c:D),es[i]?=some e->e.cells[j]?=some c->cells[i*sz+j]?=some (val i j))
      (hr:∀(i:Nat)(e:D)(j:Nat)(c:D),es[i]?=some e->e.cells[j]?=some c->DRep w X c (val i j)):DRep w X (.own N ty sz es) (.slice (some ⟨b,0,none⟩) es.length cap)
  |nilptr:DRep w X .nilptr (.pointer none)
  |ptr (e:D) (off:Nat) (ad:Addr) (val:Nat->Value) (hX:X ad.block) (h1:∀c∈e.cells,c.one=true)
      (hv:∀(j:Nat)(c:D),e.cells[off+j]?=some c->w.cell? (ad.add j)=some (val j))
      (hr:∀(j:Nat)(c:D),e.cells[off+j]?=some c->DRep w X c (val j)):DRep w X (.ptr e off) (.pointer (some ad))
  |fn (f:FuncId):DRep w X (.fn f) (.func (.func f) #[] #[])
  |clo (f:FuncId) (cs:List D) (vs:Array Value) (hl:cs.length=vs.size) (h:∀(i:Nat)(c:D)(v:Value),cs[i]?=some c->vs[i]?=some v->DRep w X c v):DRep w X (.clo f cs) (.func (.func f) #[] vs)
  |nilfn:DRep w X .nilfn .nilFunc
  |iface (t:TypeId) (d:D) (v:Value) (h:DRep w X d v):DRep w X (.iface t d) (.iface t v)
  |nilif:DRep w X .nilif .nilIface
  |nilmap:DRep w X .nilmap (.map none)
variable {F:FuncId}{S S' mv:Nat->Bool}{X Y:Nat->Prop}{ad:Addr}{b bb:Bool}{by' f i id idx j n off s sz:Nat}{c:Code}{ds es:List D}{e t t':TypeId}{hi lo:Option Operand}{k:IntKind}{o:Oper}{parts:Array (Nat×Operand)}{ts:Array TypeId}{v z:Value}{vs:Array Value}{w':World}{x y:Operand}{xs:Array Operand}{α β:Type}
theorem cell?_of_heap{w:World}{a:Addr}(h:w'.heap[a.block]?=w.heap[a.block]?):w'.cell? a=w.cell? a:=by simp[World.cell?,h]
theorem Hf(a:Addr)(n:Nat):(a.add n).block=a.block:=by unfold Addr.add;split<;>rfl
theorem F5(a:Addr)(i j:Nat):(a.add i).add j=a.add (i+j):=by unfold Addr.add;by_cases hi:i=0<;>by_cases hj:j=0<;>simp[hi,hj,gn]
theorem zR(b o n:Nat):(⟨b,o,none⟩:Addr).add n=⟨b,o+n,none⟩:=by unfold Addr.add;by_cases h:n=0<;>simp[h]
theorem DRep.mono{w:World}{X':Nat->Prop}{d:D}(h:DRep w X d v)(hX:∀b,X b->X' b)(hw:∀b,X b->w'.heap[b]?=w.heap[b]?):DRep w' X' d v:=by induction h with|bool=>exact .bool _|int=>exact .int _ _|str=>exact .str _|agg cs vs hl h1 _ ih=>exact .agg cs vs hl h1 λi c v hc hv=>ih i c v hc hv|nilsl=>exact .nilsl _|sl0=>exact .sl0 _ _ _|sl sz es ad cap val hx hc hs h1 hv _ ih=>exact .sl sz es ad cap val (hX _ hx) hc hs h1 (λi e j c he hc=>(cell?_of_heap (by rw[Hf];exact hw _ hx)).trans (hv i e j c he hc)) λi e j c he hc=>ih i e j c he hc|own0=>exact .own0 _ _ _ _|own N ty sz es b cap cells val hx hN hw' hc hp hs h1 hv _ ih=>exact .own N ty sz es b cap cells val (hX _ hx) hN ((hw _ hx).trans hw') hc hp hs h1 hv λi e j c he hc=>ih i e j c he hc|nilptr=>exact .nilptr|ptr e off ad val hx h1 hv _ ih=>exact .ptr e off ad val (hX _ hx) h1 (λj c hc=>(cell?_of_heap (by rw[Hf];exact hw _ hx)).trans (hv j c hc)) λj c hc=>ih j c hc|fn=>exact .fn _|clo f cs vs hl _ ih=>exact .clo f cs vs hl λi c v hc hv=>ih i c v hc hv|nilfn=>exact .nilfn|iface t d v _ ih=>exact .iface t d v ih|nilif=>exact .nilif|nilmap=>exact .nilmap
theorem DRep.oneCell{w:World}{d:D}(h:DRep w X d v)(h1:d.one=true):v.oneCell'=true/\v.cells=#[v]:=by cases h<;>first|exact⟨rfl,rfl⟩|cases h1
theorem DRep.cells{w:World}{X:Nat->Prop}{d:D}{v:Value}(h:DRep w X d v):v.cells.size=d.cells.length/\(∀c∈d.cells,c.one=true)/\∀(j:Nat)(c:D),d.cells[j]?=some c->∃u,v.cells[j]?=some u/\DRep w X c u:=by have one:∀(d:D)(v:Value),DRep w X d v->d.cells=[d]->d.one=true->v.cells=#[v]->v.cells.size=d.cells.length/\(∀c∈d.cells,c.one=true)/\∀(j:Nat)(c:D),d.cells[j]?=some c->∃u,v.cells[j]?=some u/\DRep w X c u:=(by intro d v hd e1 e2 e3;rw[e1,e3];refine⟨rfl,by simpa using e2,λj c hc=>?_⟩;cases j with|zero=>simp at hc;subst hc;exact⟨v,aN,hd⟩|succ j=>simp at hc);cases h with|agg cs vs hl h1 hr=>refine⟨hl.symm,h1,λj c hc=>?_⟩;have hj:j<vs.size:=(by rw[<- hl];exact(zal72q.1 hc).1);exact⟨vs[j],by simp[Value.cells,hj],hr j c _ hc (by simp[hj])⟩|bool b=>exact one _ _ (.bool b) rfl rfl rfl|int k n=>exact one _ _ (.int k n) rfl rfl rfl|str s=>exact one _ _ (.str s) rfl rfl rfl|nilsl a=>exact one _ _ (.nilsl a) rfl rfl rfl|sl0 a b c=>exact one _ _ (.sl0 a b c) rfl rfl rfl|sl a b c d e f g h i j k=>exact one _ _ (.sl a b c d e f g h i j k) rfl rfl rfl|own0 a b c d=>exact one _ _ (.own0 a b c d) rfl rfl rfl|own a b c d e f g h i j k l m n o p q=>exact one _ _ (.own a b c d e f g h i j k l m n o p q) rfl rfl rfl|nilptr=>exact one _ _ .nilptr rfl rfl rfl|ptr a b c d e f g h=>exact one _ _ (.ptr a b c d e f g h) rfl rfl rfl|fn f=>exact one _ _ (.fn f) rfl rfl rfl|clo f cs vs hl h=>exact one _ _ (.clo f cs vs hl h) rfl rfl rfl|nilfn=>exact one _ _ .nilfn rfl rfl rfl|iface a b c d=>exact one _ _ (.iface a b c d) rfl rfl rfl|nilif=>exact one _ _ .nilif rfl rfl rfl|nilmap=>exact one _ _ .nilmap rfl rfl rfl
inductive AV where
  |junk
  |und
  |d (d:D)
  |msl (id sz off len:Nat)
  |mptr (id sz idx off:Nat)
  |mmap (id:Nat)
  |yld (id:Nat)
  |mmapN (id n:Nat)
  |agg (cs:List AV)
  |tup (vs:List AV)
  |fnc (f:FuncId) (cap:List AV)
  |ifc (t:TypeId) (v:AV)
  deriving Inhabited
inductive Blk where
  |dead
  |hole
  |flat (ty:TypeId) (sz:Nat) (es:List D)
  |box (ty:TypeId) (cs:List AV)
  |map (kt vt:TypeId) (es:List (D×D))
  |ob (o:Obj)
  |mapv (kt vt:TypeId) (es:List (D×AV))
  |lp (s:LoopState) (pd:Option Code) (ps:Array Tmp) (asg body:Code) (n:Nat) (fr:List (Nat×AV))
  deriving Inhabited
abbrev Fr:=List (Nat×AV)
def Fr.get:Fr->Nat->AV
  |[],_=>.junk
  |(k,v)::r,t=>if k=t then v else Fr.get r t
structure Gh where
  phi:Nat->Option Nat
  psi:Nat->Nat
  X:Nat->Prop
  df:List Deferred:=[]
def AV.one:AV->Bool
  |.d x=>x.one
  |.agg _|.tup _|.und|.junk=>false
  |_=>true
inductive ARep (w:World) (g:Gh):AV->Value->Prop
  |junk (v:Value):ARep w g .junk v
  |und:ARep w g .und undef
  |d (d:D) (v:Value) (h:DRep w g.X d v):ARep w g (.d d) v
  |msl0 (id sz off:Nat) (a:Option Addr):ARep w g (.msl id sz off 0) (.slice a 0 0)
  |msl (id sz off len cap b:Nat) (hb:g.phi id=some b) (hc:len<=cap) (hp:(off+cap)*sz<=g.psi id):ARep w g (.msl id sz off len) (.slice (some ⟨b,off*sz,none⟩) len cap)
  |mptr (id sz idx off b:Nat) (hb:g.phi id=some b):ARep w g (.mptr id sz idx off) (.pointer (some ⟨b,idx*sz+off,none⟩))
  |mmap (id b:Nat) (hb:g.phi id=some b):ARep w g (.mmap id) (.map (some b))
  |yld (id b:Nat) (hb:g.phi id=some b):ARep w g (.yld id) (.func (.yield b) #[] #[])
  |mmapN0 (id:Nat):ARep w g (.mmapN id 0) (.map none)
  |mmapN (id n b:Nat) (hb:g.phi id=some b):ARep w g (.mmapN id n) (.map (some b))
  |agg (cs:List AV) (vs:Array Value) (hl:cs.length=vs.size) (h:∀(i:Nat)(c:AV)(v:Value),cs[i]?=some c->vs[i]?=some v->ARep w g c v):ARep w g (.agg cs) (.agg vs)
  |tup (cs:List AV) (vs:Array Value) (hl:cs.length=vs.size) (h:∀(i:Nat)(c:AV)(v:Value),cs[i]?=some c->vs[i]?=some v->ARep w g c v):ARep w g (.tup cs) (.tuple vs)
  |fnc (f:FuncId) (cs:List AV) (vs:Array Value) (hl:cs.length=vs.size) (h:∀(i:Nat)(c:AV)(v:Value),cs[i]?=some c->vs[i]?=some v->ARep w g c v):ARep w g (.fnc f cs) (.func (.func f) #[] vs)
  |ifc (t:TypeId) (c:AV) (v:Value) (h:ARep w g c v):ARep w g (.ifc t c) (.iface t v)
structure Grow (w:World) (g:Gh) (w':World) (g':Gh):Prop where
  phi:∀i b,g.phi i=some b->g'.phi i=some b
  psi:∀i b,g.phi i=some b->g'.psi i=g.psi i
  X:∀b,g.X b->g'.X b
  mem:∀b,g.X b->w'.heap[b]?=w.heap[b]?
theorem ARep.mono{w w':World}{g g':Gh}{v:AV}{u:Value}(h:ARep w g v u)(hg:Grow w g w' g'):ARep w' g' v u:=by induction h with|junk=>exact .junk _|und=>exact .und|d d v h=>exact .d d v (h.mono hg.X hg.mem)|msl0=>exact .msl0 _ _ _ _|msl id sz off len cap b hb hc hp=>exact .msl id sz off len cap b (hg.phi _ _ hb) hc (by rw[hg.psi _ _ hb];exact hp)|mptr id sz idx off b hb=>exact .mptr id sz idx off b (hg.phi _ _ hb)|mmap id b hb=>exact .mmap id b (hg.phi _ _ hb)|yld id b hb=>exact .yld id b (hg.phi _ _ hb)|mmapN0=>exact .mmapN0 _|mmapN id n b hb=>exact .mmapN id n b (hg.phi _ _ hb)|agg cs vs hl _ ih=>exact .agg cs vs hl λi c v hc hv=>ih i c v hc hv|tup cs vs hl _ ih=>exact .tup cs vs hl λi c v hc hv=>ih i c v hc hv|fnc f cs vs hl _ ih=>exact .fnc f cs vs hl λi c v hc hv=>ih i c v hc hv|ifc t c v _ ih=>exact .ifc t c v ih
theorem ARep.oneCell{w:World}{g:Gh}{c:AV}{v:Value}(h:ARep w g c v)(h1:c.one=true):v.oneCell'=true/\v.cells=#[v]:=by cases h with|d d v h=>exact h.oneCell h1|junk=>cases h1|und=>cases h1|agg=>cases h1|tup=>cases h1|_=>exact⟨rfl,rfl⟩
def AV.cells:AV->List AV
  |.agg cs=>cs
  |.d x=>x.cells.map .d
  |v=>[v]
def AV.flat:AV->Bool
  |.tup _|.und|.junk=>false
  |.agg cs=>cs.all AV.one
  |_=>true
theorem ARep.cells{w:World}{g:Gh}{c:AV}{v:Value}(h:ARep w g c v)(hf:c.flat=true):v.cells.size=c.cells.length/\(∀x∈c.cells,x.one=true)/\∀(j:Nat)(x:AV),c.cells[j]?=some x->∃u,v.cells[j]?=some u/\ARep w g x u:=by have one:∀(c:AV)(v:Value),ARep w g c v->c.cells=[c]->c.one=true->v.cells=#[v]->v.cells.size=c.cells.length/\(∀x∈c.cells,x.one=true)/\∀(j:Nat)(x:AV),c.cells[j]?=some x->∃u,v.cells[j]?=some u/\ARep w g x u:=(by intro d v hd e1 e2 e3;rw[e1,e3];refine⟨rfl,by simpa using e2,λj c hc=>?_⟩;cases j with|zero=>simp at hc;subst hc;exact⟨v,aN,hd⟩|succ j=>simp at hc);cases h with|junk=>cases hf|und=>cases hf|tup=>cases hf|d d v h=>obtain⟨h1,h2,h3⟩:=h.cells;refine⟨by simpa[AV.cells]using h1,?_,λj x hx=>?_⟩;intro x hx;simp only[AV.cells,zal115q]at hx;obtain⟨c,hc,rfl⟩:=hx;exact h2 c hc;simp only[AV.cells,eS,zal165q]at hx;obtain⟨c,hc,rfl⟩:=hx;obtain⟨u,hu,hr⟩:=h3 j c hc;exact⟨u,hu,.d c u hr⟩|agg cs vs hl hr=>refine⟨hl.symm,by simpa[AV.flat,AV.cells]using hf,λj c hc=>?_⟩;have hj:j<vs.size:=(by rw[<- hl];exact(zal72q.1 hc).1);exact⟨vs[j],by simp[Value.cells,hj],hr j c _ hc (by simp[hj])⟩|msl0 a b c d=>exact one _ _ (.msl0 a b c d) rfl rfl rfl|msl a b c d e f g h i=>exact one _ _ (.msl a b c d e f g h i) rfl rfl rfl|mptr a b c d e f=>exact one _ _ (.mptr a b c d e f) rfl rfl rfl|mmap a b c=>exact one _ _ (.mmap a b c) rfl rfl rfl|yld a b c=>exact one _ _ (.yld a b c) rfl rfl rfl|mmapN0 a=>exact one _ _ (.mmapN0 a) rfl rfl rfl|mmapN a b c d=>exact one _ _ (.mmapN a b c d) rfl rfl rfl|fnc a b c d e=>exact one _ _ (.fnc a b c d e) rfl rfl rfl|ifc a b c d=>exact one _ _ (.ifc a b c d) rfl rfl rfl
def BRep(w:World)(g:Gh)(i:Nat):Blk->Prop
  |.dead=>True
  |.hole=>g.phi i=none
  |.flat ty sz es=>(es=[]/\g.phi i=none)\/∃b cells,g.phi i=some b/\w.heap[b]?=some (.cells cells ty (0,0))/\g.psi i=cells.size/\es.length*sz<=cells.size/\
      (∀(k:Nat)(e:D),es[k]?=some e->e.cells.length=sz)/\(∀(k:Nat)(e:D)(j:Nat)(c:D),es[k]?=some e->e.cells[j]?=some c->c.one=true)/\
      ∀(k:Nat)(e:D)(j:Nat)(c:D),es[k]?=some e->e.cells[j]?=some c->∃v,cells[k*sz+j]?=some v/\DRep w g.X c v
  |.box ty cs=>∃b cells,g.phi i=some b/\w.heap[b]?=some (.cells cells ty (0,0))/\g.psi i=cells.size/\cs.length=cells.size/\
      ∀(j:Nat)(c:AV)(v:Value),cs[j]?=some c->cells[j]?=some v->ARep w g c v
  |.map _ _ es=>(es=[]/\g.phi i=none)\/∃b ents clock,g.phi i=some b/\w.heap[b]?=some (.map ents clock)/\ents.size=es.length/\
      ∀(k:Nat)(e:D×D)(m:MapEntry),es[k]?=some e->ents[k]?=some m->DRep w g.X e.1 m.key/\DRep w g.X e.2 m.val
  |.ob o=>∃b,g.phi i=some b/\w.heap[b]?=some o
  |.mapv _ _ es=>∃b ents clock,g.phi i=some b/\w.heap[b]?=some (.map ents clock)/\ents.size=es.length/\
      ∀(k:Nat)(e:D×AV)(m:MapEntry),es[k]?=some e->ents[k]?=some m->DRep w g.X e.1 m.key/\ARep w g e.2 m.val
  |.lp s pd ps asg body n fr=>∃b r,g.phi i=some b/\w.heap[b]?=some (.loop r)/\r.state=s/\r.pending=pd/\r.params=ps/\r.assign=asg/\r.body=body/\r.tmps.size=n/\∀t,ARep w g (Fr.get fr t) (r.tmps.getD t undef)
theorem BRep.mono{w w':World}{g g':Gh}{i:Nat}{B:Blk}(h:BRep w g i B)(hg:Grow w g w' g')(hn:g.phi i=none->g'.phi i=none)(hb:∀b,g.phi i=some b->w'.heap[b]?=w.heap[b]?):BRep w' g' i B:=by cases B with|dead=>trivial|hole=>exact hn h|flat ty sz es =>(rcases h with⟨he,hp⟩|⟨b,cells,hp,hw,hs,hl,h0,h1,hr⟩;exact .inl ⟨he,hn hp⟩;refine .inr ⟨b,cells,hg.phi _ _ hp,(hb b hp).trans hw,(hg.psi _ _ hp).trans hs,hl,h0,h1,λk e j c he hc=>?_⟩;obtain⟨v,hv,hd⟩:=hr k e j c he hc;exact⟨v,hv,hd.mono hg.X hg.mem⟩)|box ty cs=>obtain⟨b,cells,hp,hw,hs,hl,hr⟩:=h;exact⟨b,cells,hg.phi _ _ hp,(hb b hp).trans hw,(hg.psi _ _ hp).trans hs,hl,λj c v hc hv=>(hr j c v hc hv).mono hg⟩|map kt vt es =>(rcases h with⟨he,hp⟩|⟨b,ents,clock,hp,hw,hs,hr⟩;exact .inl ⟨he,hn hp⟩;exact .inr ⟨b,ents,clock,hg.phi _ _ hp,(hb b hp).trans hw,hs,λk e m he hm=>⟨(hr k e m he hm).1.mono hg.X hg.mem,(hr k e m he hm).2.mono hg.X hg.mem⟩⟩)|ob o=>obtain⟨b,hp,hw⟩:=h;exact⟨b,hg.phi _ _ hp,(hb b hp).trans hw⟩|mapv kt vt es=>obtain⟨b,ents,clock,hp,hw,hs,hr⟩:=h;exact⟨b,ents,clock,hg.phi _ _ hp,(hb b hp).trans hw,hs,λk e m he hm=>⟨(hr k e m he hm).1.mono hg.X hg.mem,(hr k e m he hm).2.mono hg⟩⟩|lp s pd ps asg body n fr=>obtain⟨b,r,hp,hw,h1,h2,h3,h4,h5,h6,hr⟩:=h;exact⟨b,r,hg.phi _ _ hp,(hb b hp).trans hw,h1,h2,h3,h4,h5,h6,λt=>(hr t).mono hg⟩
structure St where
  fr:Fr
  hp:List Blk
structure Ctx where
  P:Program
  n:Nat
  w0:World
  k:Nat
  g0:Gh
  mv:Nat->Bool
abbrev Gz:List (Nat×List Value):=[(0,[.int .i64 1,.int .i64 0,.int .i64 1,.int .i64 0,.int .i64 1,.int .i64 1,.int .i64 0,.int .i64 0,.int .i64 2,.int .i64 0,.int .i64 1,.int .i64 1,.int .i64 2,.int .i64 0,.int .i64 2,.int .i64 2,.int .i64 2,.int .i64 1,.int .i64 0,.int .i64 1,.int .i64 2,.int .i64 2,.int .i64 0,.int .i64 2,.int .i64 3,.int .i64 0,.int .i64 1,.int .i64 0,.int .i64 3,.int .i64 1,.int .i64 0,.int .i64 0,.int .i64 3,.int .i64 2,.int .i64 3,.int .i64 0,.int .i64 3,.int .i64 3,.int .i64 2,.int .i64 0]),(1,[.int .i64 0,.int .i64 2,.int .i64 3,.int .i64 4]),(2,[.int .u64 1,.int .u64 10,.int .u64 100,.int .u64 1000,.int .u64 10000,.int .u64 100000,.int .u64 1000000,.int .u64 10000000,.int .u64 100000000,.int .u64 1000000000,.int .u64 10000000000,.int .u64 100000000000,.int .u64 1000000000000,.int .u64 10000000000000,.int .u64 100000000000000,.int .u64 1000000000000000,.int .u64 10000000000000000,.int .u64 100000000000000000,.int .u64 1000000000000000000,.int .u64 10000000000000000000])]
def qNG(w:World)(g:Gh):Prop:=∀x∈Gz,(∃t fz,w.heap[x.1]?=some (.cells x.2.toArray t fz))/\∀i,g.phi i≠some x.1
structure Sim (C:Ctx) (st:St) (g:Gh) (a:Act) (w:World):Prop where
  defers:a.defers=C.g0.df
  size:a.tmps.size=C.n
  fr:∀t,ARep w g (st.fr.get t) (a.tmps.getD t undef)
  hp:∀(i:Nat)(B:Blk),st.hp[i]?=some B->BRep w g i B
  lt:∀(i b:Nat),g.phi i=some b->b<w.heap.size/\i<st.hp.length/\¬g.X b
  inj:∀(i j b:Nat)(Bi Bj:Blk),st.hp[i]?=some Bi->st.hp[j]?=some Bj->Bi≠.dead->Bj≠.dead->g.phi i=some b->g.phi j=some b->i=j
  Xlt:∀b,g.X b->b<w.heap.size
  Xold:∀b,g.X b->b<C.w0.heap.size->C.g0.X b
  os:w.os=C.w0.os
  tape:w.tape=C.w0.tape
  output:w.output=C.w0.output
  drawn:C.w0.drawn<=w.drawn
  grown:C.w0.heap.size<=w.heap.size
  keep:∀b,b<C.w0.heap.size->(∀i,i<C.k->C.g0.phi i≠some b)->w.heap[b]?=C.w0.heap[b]?
  own:∀(i b:Nat),g.phi i=some b->b<C.w0.heap.size->i<C.k/\C.g0.phi i=some b
  stay:∀(i b:Nat),i<C.k->C.mv i=false->C.g0.phi i=some b->g.psi i=C.g0.psi i/\g.phi i=some b
  kle:C.k<=st.hp.length
  laid:qNG C.w0 C.g0
theorem Sim.laidW{C:Ctx}{st:St}{g:Gh}{a:Act}{w:World}(h:Sim C st g a w):qNG w g:=λx hx=>by obtain⟨⟨t,fz,e⟩,hn⟩:=h.laid x hx;have hlt:x.1<C.w0.heap.size:=(zal5q.1 e).1;exact⟨⟨t,fz,(h.keep x.1 hlt λi _=>hn i).trans e⟩,λi hi=>hn i (h.own i x.1 hi hlt).2⟩
variable {C:Ctx}{st:St}{g:Gh}{a:Act}{w:World}
theorem getD_set(xs:Array Value)(d t:Nat)(v:Value)(hd:d<xs.size):(xs.setIfInBounds d v).getD t undef=if d=t then v else xs.getD t undef:=by simp only[Jp,Array.getElem?_setIfInBounds];split;rename_i h;subst h;simp;rfl
theorem Sim.put(h:Sim C st g a w){d:Nat}(hd:d<C.n){x:AV}{v:Value}(hx:ARep w g x v):Sim C ⟨(d,x)::st.fr,st.hp⟩ g (a.put (some d) v) w:=by refine{ h with size:=?_,fr:=?_ };simpa[Act.put]using h.size;intro t;simp only[Act.put,Fr.get];rw[getD_set _ _ _ _ (by rw[h.size];exact hd)];split;exact hx;exact h.fr t
theorem Sim.forget(h:Sim C st g a w){fr:Fr}(hf:∀t,Fr.get fr t=st.fr.get t\/Fr.get fr t=.junk):Sim C ⟨fr,st.hp⟩ g a w:=by refine{ h with fr:=λt=>?_ };rcases hf t with e|e;simp only[e];exact h.fr t;simp only[e];exact .junk _
theorem Sim.sameHeap(h:Sim C st g a w)(hh:w'.heap=w.heap)(ho:w'.os=w.os)(ht:w'.tape=w.tape)(hout:w'.output=w.output)(hdr:w.drawn<=w'.drawn):Sim C st g a w':=by
  have hg:Grow w g w' g:=⟨λ_ _ h=>h,λ_ _ _=>rfl,λ_ h=>h,λ_ _=>by rw[hh]⟩
  exact { defers := h.defers, size := h.size, fr := fun t => (h.fr t).mono hg
          hp:=λi B hB=>(h.hp i B hB).mono hg id λb _=>by rw[hh]
          lt:=by rw[hh];exact h.lt
          inj:=h.inj,Xlt:=by rw[hh];exact h.Xlt,Xold:=h.Xold,os:=ho.trans h.os,tape:=ht.trans h.tape,output:=hout.trans h.output,drawn:=eR h.drawn hdr
          grown:=by rw[hh];exact h.grown
          keep:=by rw[hh];exact h.keep
          own:=h.own,stay:=h.stay,kle:=h.kle,laid:=h.laid }
theorem Sim.drew(h:Sim C st g a w):Sim C st g a w.drew:=h.sameHeap rfl rfl rfl rfl (Nat.le_succ _)
def upd(f:Nat->α)(i:Nat)(x:α):Nat->α:=λj=>if j=i then x else f j
def Gh.new(g:Gh)(i b n:Nat):Gh:={ g with phi:=upd g.phi i (some b),psi:=upd g.psi i n }
theorem iU(w:World)(o:Obj)(b:Nat)(hb:b<w.heap.size):(w.alloc o).heap[b]?=w.heap[b]?:=heap_alloc_old w o (h:=hb)
theorem Sim.phi_none(h:Sim C st g a w)(hi:st.hp.length<=i):g.phi i=none:=by cases hp:g.phi i with|none=>rfl|some b=>have:=(h.lt i b hp).2.1;omega
theorem Sim.grow_new(h:Sim C st g a w)(o:Obj)(n:Nat):Grow w g (w.alloc o) (g.new st.hp.length w.heap.size n):=by refine⟨λi b hp=>?_,λi b hp=>?_,λb hX=>hX,λb hX=>iU w o b (h.Xlt b hX)⟩;have:=(h.lt i b hp).2.1;simpa[Gh.new,upd,show i≠st.hp.length by omega]using hp;have:=(h.lt i b hp).2.1;simp[Gh.new,upd,show i≠st.hp.length by omega]
theorem Sim.alloc(h:Sim C st g a w){o:Obj}{n:Nat}{B:Blk}(hB:BRep (w.alloc o) (g.new st.hp.length w.heap.size n) st.hp.length B):Sim C ⟨st.fr,st.hp++[B]⟩ (g.new st.hp.length w.heap.size n) a (w.alloc o):=by have hg:=h.grow_new o n;have hkeep:∀i b,(g.new st.hp.length w.heap.size n).phi i=some b->(i=st.hp.length/\b=w.heap.size)\/(i≠st.hp.length/\g.phi i=some b):=(by intro i b hp;by_cases hi:i=st.hp.length;subst hi;simp[Gh.new,upd]at hp;exact .inl ⟨rfl,hp.symm⟩;simp[Gh.new,upd,hi]at hp;exact .inr ⟨hi,hp⟩);refine{ defers:=h.defers,size:=h.size,fr:=λt=>(h.fr t).mono hg,hp:=?_,lt:=?_,inj:=?_,Xlt:=?_,Xold:=h.Xold,os:=h.os,tape:=h.tape,output:=h.output,drawn:=h.drawn,grown:=?_,keep:=?_,own:=?_,stay:=?_,kle:=?_,laid:=h.laid };intro i B' hi;simp only[kN]at hi;split at hi;rename_i hlt;refine(h.hp i B' hi).mono hg (λhn=>by simpa[Gh.new,upd,show i≠st.hp.length by omega]using hn) λb hb=>iU w o b (h.lt i b hb).1;rename_i hge;have:i=st.hp.length:=(by rcases fU (i-st.hp.length) 1 with h1|h1;omega;rw[nB sN]at hi;cases hi);subst this;simp at hi;subst hi;exact hB;intro i b hp;simp only[World.size_alloc,sH,kM,rA];rcases hkeep i b hp with⟨rfl,rfl⟩|⟨_,hp'⟩;exact⟨aB,aB,λhX=>by have:=h.Xlt _ hX;omega⟩;have:=h.lt i b hp';exact⟨aB,aB,this.2.2⟩;intro i j b Bi Bj hBi hBj hdi hdj hi hj;rcases hkeep i b hi with⟨rfl,rfl⟩|⟨h1,hi'⟩<;>rcases hkeep j _ hj with⟨rfl,h2⟩|⟨h3,hj'⟩;rfl;have:=(h.lt _ _ hj').1;omega;have:=(h.lt _ _ hi').1;omega;have l1:=(h.lt _ _ hi').2.1;have l2:=(h.lt _ _ hj').2.1;rw[kN,if_pos l1]at hBi;rw[kN,if_pos l2]at hBj;exact h.inj i j b Bi Bj hBi hBj hdi hdj hi' hj';intro b hX;have:=h.Xlt b hX;simp only[World.size_alloc];omega;have:=h.grown;simp only[World.size_alloc];omega;intro b hb hk;rw[iU w o b (by have:=h.grown;omega)];exact h.keep b hb hk;intro i b hp hb;rcases hkeep i b hp with⟨rfl,rfl⟩|⟨_,hp'⟩;have:=h.grown;omega;exact h.own i b hp' hb;intro i b hi hm hp;have hne:i≠st.hp.length:=(by have:=h.kle;omega);have:=h.stay i b hi hm hp;simpa[Gh.new,upd,hne]using this;have:=h.kle;simp only[sH,kM,rA];omega
theorem Sim.virt(h:Sim C st g a w)(ty sz:Nat):Sim C ⟨st.fr,st.hp++[.flat ty sz []]⟩ g a w:=by refine{ h with hp:=?_,lt:=?_,inj:=?_,kle:=?_ };intro i B hi;simp only[kN]at hi;split at hi;exact h.hp i B hi;rename_i hge;have:i=st.hp.length:=(by rcases fU (i-st.hp.length) 1 with h1|h1;omega;rw[nB sN]at hi;cases hi);subst this;simp at hi;subst hi;exact .inl ⟨rfl,h.phi_none (fY _)⟩;intro i b hp;have:=h.lt i b hp;simp only[sH,kM,rA];exact⟨this.1,aB,this.2.2⟩;intro i j b Bi Bj hBi hBj hdi hdj hi hj;have l1:=(h.lt _ _ hi).2.1;have l2:=(h.lt _ _ hj).2.1;rw[kN,if_pos l1]at hBi;rw[kN,if_pos l2]at hBj;exact h.inj i j b Bi Bj hBi hBj hdi hdj hi hj;have:=h.kle;simp only[sH,kM,rA];omega
def Gh.wide(g:Gh)(b:Nat):Gh:={ g with X:=λc=>g.X c\/c=b }
theorem Sim.allocX(h:Sim C st g a w)(o:Obj):Sim C st (g.wide w.heap.size) a (w.alloc o)/\Grow w g (w.alloc o) (g.wide w.heap.size):=by
  have hg:Grow w g (w.alloc o) (g.wide w.heap.size):=⟨λ_ _ h=>h,λ_ _ _=>rfl,λ_ h=>.inl h,λb hX=>iU w o b (h.Xlt b hX)⟩
  refine ⟨{ defers := h.defers, size := h.size, fr := fun t => (h.fr t).mono hg
            hp:=λi B hB=>(h.hp i B hB).mono hg id λb hb=>iU w o b (h.lt i b hb).1
            lt:=?_,inj:=h.inj,Xlt:=?_,Xold:=?_,os:=h.os,tape:=h.tape,output:=h.output,drawn:=h.drawn,grown:=?_,keep:=?_,own:=h.own,stay:=h.stay,kle:=h.kle,laid:=h.laid },hg⟩
  intro i b hp;have:=h.lt i b hp;refine⟨by simp only[World.size_alloc];omega,this.2.1,λhX=>?_⟩;rcases hX with hX|hX
  exact this.2.2 hX;omega;intro b hX;simp only[World.size_alloc];rcases hX with hX|hX
  have:=h.Xlt b hX;omega;omega;intro b hX hb;rcases hX with hX|hX
  exact h.Xold b hX hb;have:=h.grown;omega;have:=h.grown;simp only[World.size_alloc];omega;intro b hb hk;rw[iU w o b (by have:=h.grown;omega)];exact h.keep b hb hk
variable {B:Blk}{Q:Exit->St->Prop}{cs:List AV}{fr0:Fr}{hp' hp0:List Blk}
theorem Sim.change(h:Sim C st g a w){b:Nat}{B0:Blk}(hB0:st.hp[i]?=some B0)(hd0:B0≠.dead)(hp:g.phi i=some b)(hsz:w'.heap.size=w.heap.size)(ho:w'.os=w.os)(ht:w'.tape=w.tape)(hout:w'.output=w.output)(hdr:w.drawn<=w'.drawn)(hoth:∀b',b'≠b->w'.heap[b']?=w.heap[b']?)(hB:BRep w' g i B):Sim C ⟨st.fr,st.hp.set i B⟩ g a w':=by have hnX:¬g.X b:=(h.lt i b hp).2.2;have hg:Grow w g w' g:=⟨λ_ _ h=>h,λ_ _ _=>rfl,λ_ h=>h,λc hX=>hoth c λe=>hnX (e ▸ hX)⟩;refine{ defers:=h.defers,size:=h.size,fr:=λt=>(h.fr t).mono hg,hp:=?_,lt:=?_,inj:=?_,Xlt:=?_,Xold:=h.Xold,os:=ho.trans h.os,tape:=ht.trans h.tape,output:=hout.trans h.output,drawn:=eR h.drawn hdr,grown:=?_,keep:=?_,own:=h.own,stay:=h.stay,kle:=?_,laid:=h.laid };intro j B' hj;rw[iC]at hj;split at hj;rename_i e;subst e;split at hj;cases hj;exact hB;cases hj;rename_i hne;by_cases hdj:B'=.dead;subst hdj;trivial;exact(h.hp j B' hj).mono hg id λc hc=>hoth c λe=>hne (h.inj i j b B0 B' hB0 hj hd0 hdj hp (e ▸ hc));rw[hsz];simpa using h.lt;have inv:∀(j:Nat)(Bj:Blk),(st.hp.set i B)[j]?=some Bj->Bj≠.dead->∃B',st.hp[j]?=some B'/\B'≠.dead:=(by intro j Bj hj hd;rw[iC]at hj;split at hj;rename_i e;subst e;exact⟨B0,hB0,hd0⟩;exact⟨Bj,hj,hd⟩);intro j j' c Bj Bj' h1 h2 h3 h4 h5 h6;obtain⟨B1,e1,d1⟩:=inv j Bj h1 h3;obtain⟨B2,e2,d2⟩:=inv j' Bj' h2 h4;exact h.inj j j' c B1 B2 e1 e2 d1 d2 h5 h6;rw[hsz];exact h.Xlt;rw[hsz];exact h.grown;intro c hc hk;have hne:c≠b:=(by intro e;subst e;obtain⟨hj,h0⟩:=h.own i c hp hc;exact hk i hj h0);rw[hoth c hne];exact h.keep c hc hk;simpa using h.kle
def AV.isRef:AV->Bool
  |.msl ..|.mptr ..|.mmap _|.yld _|.mmapN ..=>true
  |_=>false
mutual
def AV.mapRef(F:AV->AV):AV->AV
  |.junk=>.junk
  |.und=>.und
  |.d x=>.d x
  |.msl i s o l=>F (.msl i s o l)
  |.mptr i s x o=>F (.mptr i s x o)
  |.mmap i=>F (.mmap i)
  |.yld i=>F (.yld i)
  |.mmapN i n=>F (.mmapN i n)
  |.agg cs=>.agg (AV.mapRefs F cs)
  |.tup cs=>.tup (AV.mapRefs F cs)
  |.fnc f cs=>.fnc f (AV.mapRefs F cs)
  |.ifc t c=>.ifc t (AV.mapRef F c)
def AV.mapRefs(F:AV->AV):List AV->List AV
  |[]=>[]
  |c::r=>AV.mapRef F c::AV.mapRefs F r
end
theorem AV.mapRefs_eq(F:AV->AV):∀cs:List AV,AV.mapRefs F cs=cs.map (AV.mapRef F)
  |[]=>rfl
  |c::r=>by simp[AV.mapRefs,AV.mapRefs_eq F r]
theorem ARep.mapRef{w w':World}{g g':Gh}{F:AV->AV}(hD:∀d v,DRep w g.X d v->DRep w' g'.X d v)(hF:∀x v,ARep w g x v->x.isRef=true->ARep w' g' (F x) v){x:AV}{v:Value}(h:ARep w g x v):ARep w' g' (x.mapRef F) v:=by induction h with|junk=>exact .junk _|und=>exact .und|d d v h=>exact .d d v (hD d v h)|msl0 i s o a=>exact hF _ _ (.msl0 i s o a) rfl|msl i s o l c b h1 h2 h3=>exact hF _ _ (.msl i s o l c b h1 h2 h3) rfl|mptr i s x o b h=>exact hF _ _ (.mptr i s x o b h) rfl|mmap i b h=>exact hF _ _ (.mmap i b h) rfl|yld i b h=>exact hF _ _ (.yld i b h) rfl|mmapN0 i=>exact hF _ _ (.mmapN0 i) rfl|mmapN i n b h=>exact hF _ _ (.mmapN i n b h) rfl|agg cs vs hl _ ih=>simp only[AV.mapRef,AV.mapRefs_eq];refine .agg _ vs qf λi c v hc hv=>?_;simp only[eS,zal165q]at hc;obtain⟨c',hc',rfl⟩:=hc;exact ih i c' v hc' hv|tup cs vs hl _ ih=>simp only[AV.mapRef,AV.mapRefs_eq];refine .tup _ vs qf λi c v hc hv=>?_;simp only[eS,zal165q]at hc;obtain⟨c',hc',rfl⟩:=hc;exact ih i c' v hc' hv|fnc f cs vs hl _ ih=>simp only[AV.mapRef,AV.mapRefs_eq];refine .fnc f _ vs qf λi c v hc hv=>?_;simp only[eS,zal165q]at hc;obtain⟨c',hc',rfl⟩:=hc;exact ih i c' v hc' hv|ifc t c v _ ih=>exact .ifc t _ v ih
def Fr.mapRef(F:AV->AV):Fr->Fr
  |[]=>[]
  |(t,v)::r=>(t,v.mapRef F)::Fr.mapRef F r
theorem Fr.get_mapRef(F:AV->AV):∀(fr:Fr)(t:Nat),(Fr.mapRef F fr).get t=(fr.get t).mapRef F
  |[],_=>rfl
  |(k,v)::r,t=>by
    simp only[Fr.mapRef,Fr.get];split;rfl;exact Fr.get_mapRef F r t
def Blk.mapRef(F:AV->AV):Blk->Blk
  |.dead=>.dead
  |.hole=>.hole
  |.flat ty sz es=>.flat ty sz es
  |.box ty cs=>.box ty (AV.mapRefs F cs)
  |.map kt vt es=>.map kt vt es
  |.ob o=>.ob o
  |.mapv kt vt es=>.mapv kt vt (es.map λe=>(e.1,AV.mapRef F e.2))
  |.lp s pd ps asg body n fr=>.lp s pd ps asg body n (Fr.mapRef F fr)
theorem BRep.mapRef{w:World}{g g':Gh}{F:AV->AV}{i j:Nat}(hphi:g'.phi j=g.phi i)(hpsi:g'.psi j=g.psi i)(hX:∀b,g.X b->g'.X b)(hF:∀x v,ARep w g x v->x.isRef=true->ARep w g' (F x) v){B:Blk}(h:BRep w g i B):BRep w g' j (B.mapRef F):=by cases B with|dead=>trivial|hole=>exact hphi.trans h|flat ty sz es =>(rcases h with⟨he,hp⟩|⟨b,cells,hp,hw,hs,hl,h0,h1,hr⟩;exact .inl ⟨he,hphi.trans hp⟩;refine .inr ⟨b,cells,hphi.trans hp,hw,hpsi.trans hs,hl,h0,h1,λk e j c he hc=>?_⟩;obtain⟨v,hv,hd⟩:=hr k e j c he hc;exact⟨v,hv,hd.mono hX λ_ _=>rfl⟩)|box ty cs=>obtain⟨b,cells,hp,hw,hs,hl,hr⟩:=h;refine⟨b,cells,hphi.trans hp,hw,hpsi.trans hs,by simpa[AV.mapRefs_eq]using hl,λj c v hc hv=>?_⟩;simp only[AV.mapRefs_eq,eS,zal165q]at hc;obtain⟨c',hc',rfl⟩:=hc;exact(hr j c' v hc' hv).mapRef (λd v h=>h.mono hX λ_ _=>rfl) hF|map kt vt es =>(rcases h with⟨he,hp⟩|⟨b,ents,clock,hp,hw,hs,hr⟩;exact .inl ⟨he,hphi.trans hp⟩;exact .inr ⟨b,ents,clock,hphi.trans hp,hw,hs,λk e m he hm=>⟨(hr k e m he hm).1.mono hX λ_ _=>rfl,(hr k e m he hm).2.mono hX λ_ _=>rfl⟩⟩)|ob o=>obtain⟨b,hp,hw⟩:=h;exact⟨b,hphi.trans hp,hw⟩|mapv kt vt es=>obtain⟨b,ents,clock,hp,hw,hs,hr⟩:=h;refine⟨b,ents,clock,hphi.trans hp,hw,by simpa using hs,λk e m he hm=>?_⟩;simp only[eS,zal165q]at he;obtain⟨e',he',rfl⟩:=he;exact⟨(hr k e' m he' hm).1.mono hX λ_ _=>rfl,(hr k e' m he' hm).2.mapRef (λd v h=>h.mono hX λ_ _=>rfl) hF⟩|lp s pd ps asg body n fr=>obtain⟨b,r,hp,hw,h1,h2,h3,h4,h5,h6,hr⟩:=h;exact⟨b,r,hphi.trans hp,hw,h1,h2,h3,h4,h5,h6,λt=>by rw[Fr.get_mapRef];exact(hr t).mapRef (λd v h=>h.mono hX λ_ _=>rfl) hF⟩
def toName(f:Nat->Option Nat):AV->AV
  |.msl i s o l=>match f i with|some j=>.msl j s o l|none=>.junk
  |.mptr i s x o=>match f i with|some j=>.mptr j s x o|none=>.junk
  |.mmap i=>match f i with|some j=>.mmap j|none=>.junk
  |.yld i=>match f i with|some j=>.yld j|none=>.junk
  |.mmapN i n=>match f i with|some j=>.mmapN j n|none=>.junk
  |v=>v
theorem ARep.toName{w:World}{g g':Gh}{f:Nat->Option Nat}(hf:∀i j,f i=some j->g'.phi j=g.phi i/\g'.psi j=g.psi i)(_hX:∀b,g.X b->g'.X b)(x:AV)(v:Value)(h:ARep w g x v)(hr:x.isRef=true):ARep w g' (TL.toName f x) v:=by cases h with|msl0 id sz off a=>simp only[TL.toName];split;exact .msl0 _ _ _ _;exact .junk _|msl id sz off len cap b hb hc hp=>simp only[TL.toName];split;rename_i j hj;exact .msl _ _ _ _ _ b ((hf _ _ hj).1.trans hb) hc (by rw[(hf _ _ hj).2];exact hp);exact .junk _|mptr id sz idx off b hb=>simp only[TL.toName];split;rename_i j hj;exact .mptr _ _ _ _ b ((hf _ _ hj).1.trans hb);exact .junk _|mmap id b hb=>simp only[TL.toName];split;rename_i j hj;exact .mmap _ b ((hf _ _ hj).1.trans hb);exact .junk _|yld id b hb=>simp only[TL.toName];split;rename_i j hj;exact .yld _ b ((hf _ _ hj).1.trans hb);exact .junk _|mmapN0 id=>simp only[TL.toName];split;exact .mmapN0 _;exact .junk _|mmapN id n b hb=>simp only[TL.toName];split;rename_i j hj;exact .mmapN _ _ b ((hf _ _ hj).1.trans hb);exact .junk _|_=>cases hr
theorem k7:∀{l:List Nat},l.Nodup->∀{i j x:Nat},l[i]?=some x->l[j]?=some x->i=j
  |[],_,i,_,_,hi,_=>by simp at hi
  |y::r,hn,i,j,x,hi,hj=>by
    simp only[zal125q]at hn
    cases i with
    |zero=>
      cases j with
      |zero=>rfl
      |succ j=>simp at hi hj;subst hi;exact absurd (fQ hj) hn.1
    |succ i=>
      cases j with
      |zero=>simp at hi hj;subst hj;exact absurd (fQ hi) hn.1
      |succ j=>simp at hi hj;rw[k7 hn.2 hi hj]
def bI:List Nat->Nat->Option Nat
  |[],_=>none
  |x::r,i=>if x=i then some 0 else(bI r i).map (·+1)
theorem dM:∀(l:List Nat)(i j:Nat),bI l i=some j->l[j]?=some i
  |[],_,_,h=>by cases h
  |x::r,i,j,h=>by
    simp only[bI]at h;split at h;rename_i e;cases h;simp[e];simp only[zal165q]at h;obtain⟨k,hk,rfl⟩:=h;simpa using dM r i k hk
def Fr.keep(ks:List Nat)(fr:Fr):Fr:=ks.map λt=>(t,fr.get t)
theorem Fr.get_keep(fr:Fr):∀(ks:List Nat)(t:Nat),(Fr.keep ks fr).get t=fr.get t\/(Fr.keep ks fr).get t=.junk
  |[],_=>.inr rfl
  |k::r,t=>by
    simp only[Fr.keep,iW,Fr.get];split;rename_i e;subst e;exact .inl rfl;exact Fr.get_keep fr r t
def St.canon(ks ids:List Nat)(st:St):St:=⟨Fr.mapRef (toName (bI ids)) (Fr.keep ks st.fr),ids.map λi=>(st.hp.getD i .dead).mapRef (toName (bI ids))⟩
def Gh.canon(ids:List Nat)(g:Gh):Gh:={ phi:=λj=>(ids[j]?).bind g.phi,psi:=λj=>((ids[j]?).map g.psi).getD 0,X:=g.X }
theorem Sim.canon(h:Sim C st g a w)(ks ids:List Nat)(hnd:ids.Nodup)(hk:∀i,i<C.k->ids[i]?=some i):Sim C (st.canon ks ids) (g.canon ids) a w:=by have hphi:∀i b,(g.canon ids).phi i=some b->∃j,ids[i]?=some j/\g.phi j=some b:=(by intro i b hp;simp only[Gh.canon,zal162q]at hp;exact hp);have hf:∀i j,bI ids i=some j->(g.canon ids).phi j=g.phi i/\(g.canon ids).psi j=g.psi i:=(by intro i j hij;have:=dM ids i j hij;simp[Gh.canon,this]);refine{ defers:=h.defers,size:=h.size,fr:=?_,hp:=?_,lt:=?_,inj:=?_,Xlt:=h.Xlt,Xold:=h.Xold,os:=h.os,tape:=h.tape,output:=h.output,drawn:=h.drawn,grown:=h.grown,keep:=h.keep,own:=?_,stay:=?_,kle:=?_,laid:=h.laid };intro t;simp only[St.canon,Fr.get_mapRef];refine ARep.mapRef (w:=w) (g:=g) (g':=g.canon ids) (λd v hd=>hd) (ARep.toName hf λ_ hb=>hb) ?_;rcases Fr.get_keep st.fr ks t with e|e<;>rw[e];exact h.fr t;exact .junk _;intro i B hi;simp only[St.canon,eS,zal165q]at hi;obtain⟨j,hj,rfl⟩:=hi;(cases hB:st.hp[j]? with|none=>simp[List.getD,hB,Blk.mapRef,BRep]|some B=>rw[wC,hB];exact BRep.mapRef (i:=j) (g:=g) (g':=g.canon ids) qDP qDP (λ_ hb=>hb) (ARep.toName hf λ_ hb=>hb) (h.hp j B hB));intro i b hp;obtain⟨j,hj,hp'⟩:=hphi i b hp;have:=h.lt j b hp';exact⟨this.1,by simpa[St.canon]using(zal72q.1 hj).1,this.2.2⟩;intro i j b Bi Bj hBi hBj hdi hdj hi hj;obtain⟨i',hi',hpi⟩:=hphi i b hi;obtain⟨j',hj',hpj⟩:=hphi j b hj;have inv:∀(m m':Nat)(Bm:Blk),ids[m]?=some m'->(st.canon ks ids).hp[m]?=some Bm->Bm≠.dead->∃B',st.hp[m']?=some B'/\B'≠.dead:=(by intro m m' Bm hm hB hd;simp only[St.canon,eS,hm,jB,jA]at hB;cases hh:st.hp[m']? with|none=>rw[wC,hh]at hB;subst hB;exact absurd rfl hd|some B'=>refine⟨B',rfl,λe=>?_⟩;subst e;rw[wC,hh]at hB;subst hB;exact hd rfl);obtain⟨B1,e1,d1⟩:=inv i i' Bi hi' hBi hdi;obtain⟨B2,e2,d2⟩:=inv j j' Bj hj' hBj hdj;have e:=h.inj i' j' b B1 B2 e1 e2 d1 d2 hpi hpj;subst e;exact k7 hnd hi' hj';intro i b hp hb;obtain⟨j,hj,hp'⟩:=hphi i b hp;obtain⟨h1,h2⟩:=h.own j b hp' hb;have e:i=j:=k7 hnd hj (hk j h1);subst e;exact⟨h1,h2⟩;intro i b hi hm hp;have:=h.stay i b hi hm hp;simpa[Gh.canon,hk i hi]using this;simp only[St.canon,uR];rcases fU ids.length C.k with hlt|hge;have:=hk ids.length hlt;simp at this;exact hge
def purge(i:Nat):AV->AV
  |.msl j s o l=>if j=i then .junk else .msl j s o l
  |.mptr j s x o=>if j=i then .junk else .mptr j s x o
  |.mmap j=>if j=i then .junk else .mmap j
  |.yld j=>if j=i then .junk else .yld j
  |.mmapN j n=>if j=i then .junk else .mmapN j n
  |v=>v
def St.purge(i:Nat)(st:St):St:=⟨Fr.mapRef (TL.purge i) st.fr,st.hp.map (Blk.mapRef (TL.purge i))⟩
theorem Gr(h:(st.purge i).hp[j]?=some B)(hd:B≠.dead):∃B',st.hp[j]?=some B'/\B'≠.dead:=by simp only[St.purge,eS,zal165q]at h;obtain⟨B',hB',rfl⟩:=h;exact⟨B',hB',λe=>qDQ⟩
theorem Sim.purge(h:Sim C st g a w)(i:Nat):Sim C (st.purge i) g a w:=by have hF:∀(x:AV)(v:Value),ARep w g x v->x.isRef=true->ARep w g (TL.purge i x) v:=(by intro x v hx _;cases x<;>simp only[TL.purge]<;>(try exact hx)<;>split<;>first|exact .junk _|exact hx);refine{ h with fr:=λt=>?_,hp:=?_,lt:=?_,inj:=?_,kle:=?_ };simp only[St.purge,Fr.get_mapRef];exact(h.fr t).mapRef (λd v hd=>hd) hF;intro j B hj;simp only[St.purge,eS,zal165q]at hj;obtain⟨B',hB',rfl⟩:=hj;exact BRep.mapRef rfl rfl (λ_ hb=>hb) hF (h.hp j B' hB');simpa[St.purge]using h.lt;intro j j' b Bj Bj' h1 h2 h3 h4 h5 h6;obtain⟨B1,e1,d1⟩:=Gr h1 h3;obtain⟨B2,e2,d2⟩:=Gr h2 h4;exact h.inj j j' b B1 B2 e1 e2 d1 d2 h5 h6;simpa[St.purge]using h.kle
theorem Sim.move(h:Sim C st g a w)(hi:i<st.hp.length)(hm:i<C.k->C.mv i=true){o:Obj}(hB:BRep (w.alloc o) (g.new i w.heap.size n) i B):Sim C ⟨(st.purge i).fr,(st.purge i).hp.set i B⟩ (g.new i w.heap.size n) a (w.alloc o):=by have hF:∀(x:AV)(v:Value),ARep w g x v->x.isRef=true->ARep (w.alloc o) (g.new i w.heap.size n) (TL.purge i x) v:=(by intro x v hx _;have hD:∀b,g.X b->(w.alloc o).heap[b]?=w.heap[b]?:=λb hb=>iU w o b (h.Xlt b hb);cases hx with|msl0 =>(simp only[TL.purge];split<;>first|exact .junk _|exact .msl0 _ _ _ _)|msl id sz off len cap b hb hc hp=>simp only[TL.purge];split;exact .junk _;rename_i hne;exact .msl _ _ _ _ _ b Wb hc (by simpa[Gh.new,upd,hne]using hp)|mptr id sz idx off b hb=>simp only[TL.purge];split;exact .junk _;rename_i hne;exact .mptr _ _ _ _ b Wb|mmap id b hb=>simp only[TL.purge];split;exact .junk _;rename_i hne;exact .mmap _ b Wb|yld id b hb=>simp only[TL.purge];split;exact .junk _;rename_i hne;exact .yld _ b Wb|mmapN0 =>(simp only[TL.purge];split<;>first|exact .junk _|exact .mmapN0 _)|mmapN id n b hb=>simp only[TL.purge];split;exact .junk _;rename_i hne;exact .mmapN _ _ b Wb|d d v hd=>exact .d _ _ (hd.mono (λ_ hb=>hb) hD)|_=>contradiction);have hD:∀(d:D)(v:Value),DRep w g.X d v->DRep (w.alloc o) (g.new i w.heap.size n).X d v:=λd v hd=>hd.mono (λ_ hb=>hb) λb hb=>iU w o b (h.Xlt b hb);have hphi:∀j b,(g.new i w.heap.size n).phi j=some b->(j=i/\b=w.heap.size)\/(j≠i/\g.phi j=some b):=(by intro j b hp;by_cases hj:j=i;subst hj;simp[Gh.new,upd]at hp;exact .inl ⟨rfl,hp.symm⟩;simp[Gh.new,upd,hj]at hp;exact .inr ⟨hj,hp⟩);refine{ defers:=h.defers,size:=h.size,fr:=λt=>?_,hp:=?_,lt:=?_,inj:=?_,Xlt:=?_,Xold:=h.Xold,os:=h.os,tape:=h.tape,output:=h.output,drawn:=h.drawn,grown:=?_,keep:=?_,own:=?_,stay:=?_,kle:=?_,laid:=h.laid };simp only[St.purge,Fr.get_mapRef];exact(h.fr t).mapRef hD hF;intro j B' hj;by_cases hji:j=i;subst hji;simp only[St.purge]at hj;rw[iC,if_pos rfl]at hj;split at hj;cases hj;exact hB;cases hj;rw[iC,if_neg (λe=>hji e.symm)]at hj;simp only[St.purge,eS,zal165q]at hj;obtain⟨B0,hB0,rfl⟩:=hj;have h0:=h.hp j B0 hB0;(cases B0 with|dead=>trivial|hole=>have h0:g.phi j=none:=h0;show(g.new i w.heap.size n).phi j=none;simpa[Gh.new,upd,hji]using h0|flat ty sz es =>(rcases h0 with⟨he,hp⟩|⟨b,cells,hp,hw,hs,hl,h00,h1,hr⟩;exact .inl ⟨he,Eb⟩;refine .inr ⟨b,cells,Eb,(iU w o b (h.lt j b hp).1).trans hw,by simpa[Gh.new,upd,hji]using hs,hl,h00,h1,λk e jj c he hc=>?_⟩;obtain⟨v,hv,hd⟩:=hr k e jj c he hc;exact⟨v,hv,hD _ _ hd⟩)|box ty cs=>obtain⟨b,cells,hp,hw,hs,hl,hr⟩:=h0;refine⟨b,cells,Eb,(iU w o b (h.lt j b hp).1).trans hw,by simpa[Gh.new,upd,hji]using hs,by simpa[AV.mapRefs_eq]using hl,λjj c v hc hv=>?_⟩;simp only[AV.mapRefs_eq,eS,zal165q]at hc;obtain⟨c',hc',rfl⟩:=hc;exact(hr jj c' v hc' hv).mapRef hD hF|map kt vt es =>(rcases h0 with⟨he,hp⟩|⟨b,ents,clock,hp,hw,hs,hr⟩;exact .inl ⟨he,Eb⟩;exact .inr ⟨b,ents,clock,Eb,(iU w o b (h.lt j b hp).1).trans hw,hs,λk e m he hm=>⟨hD _ _ (hr k e m he hm).1,hD _ _ (hr k e m he hm).2⟩⟩)|ob q=>obtain⟨b,hp,hw⟩:=h0;exact⟨b,Eb,(iU w o b (h.lt j b hp).1).trans hw⟩|mapv kt vt es=>obtain⟨b,ents,clock,hp,hw,hs,hr⟩:=h0;refine⟨b,ents,clock,Eb,(iU w o b (h.lt j b hp).1).trans hw,by simpa using hs,λk e m he hm=>?_⟩;simp only[eS,zal165q]at he;obtain⟨e',he',rfl⟩:=he;exact⟨hD _ _ (hr k e' m he' hm).1,(hr k e' m he' hm).2.mapRef hD hF⟩|lp s pd ps asg body n' fr=>obtain⟨b,r,hp,hw,h1,h2,h3,h4,h5,h6,hr⟩:=h0;exact⟨b,r,Eb,(iU w o b (h.lt j b hp).1).trans hw,h1,h2,h3,h4,h5,h6,λt=>by rw[Fr.get_mapRef];exact(hr t).mapRef hD hF⟩);intro j b hp;simp only[World.size_alloc,zal95q,St.purge,uR];rcases hphi j b hp with⟨rfl,rfl⟩|⟨_,hp'⟩;exact⟨aB,hi,λhX=>by have:=h.Xlt _ hX;omega⟩;have:=h.lt j b hp';exact⟨aB,this.2.1,this.2.2⟩;intro j j' b Bj Bj' hBj hBj' hdj hdj' hj hj';rcases hphi j b hj with⟨rfl,rfl⟩|⟨h1,h1'⟩<;>rcases hphi j' _ hj' with⟨rfl,h2⟩|⟨h3,h3'⟩;rfl;have:=(h.lt _ _ h3').1;omega;have:=(h.lt _ _ h1').1;omega;rw[iC,if_neg (λe=>h1 e.symm)]at hBj;rw[iC,if_neg (λe=>h3 e.symm)]at hBj';obtain⟨B1,e1,d1⟩:=Gr hBj hdj;obtain⟨B2,e2,d2⟩:=Gr hBj' hdj';exact h.inj j j' b B1 B2 e1 e2 d1 d2 h1' h3';intro b hX;have:=h.Xlt b hX;simp only[World.size_alloc];omega;have:=h.grown;simp only[World.size_alloc];omega;intro b hb hk;rw[iU w o b (by have:=h.grown;omega)];exact h.keep b hb hk;intro j b hp hb;rcases hphi j b hp with⟨rfl,rfl⟩|⟨_,hp'⟩;have:=h.grown;omega;exact h.own j b hp' hb;intro j b hj hmj hp;have hne:j≠i:=(by intro e;subst e;rw[hm hj]at hmj;cases hmj);have:=h.stay j b hj hmj hp;simpa[Gh.new,upd,hne]using this;have:=h.kle;simpa[St.purge]using this
theorem Sim.hole(h:Sim C st g a w):Sim C ⟨st.fr,st.hp++[.hole]⟩ g a w:=by refine{ h with hp:=?_,lt:=?_,inj:=?_,kle:=?_ };intro i B hi;simp only[kN]at hi;split at hi;exact h.hp i B hi;rename_i hge;have:i=st.hp.length:=(by rcases fU (i-st.hp.length) 1 with h1|h1;omega;rw[nB sN]at hi;cases hi);subst this;simp at hi;subst hi;exact h.phi_none (fY _);intro i b hp;have:=h.lt i b hp;simp only[sH,kM,rA];exact⟨this.1,aB,this.2.2⟩;intro i j b Bi Bj hBi hBj hdi hdj hi hj;have l1:=(h.lt _ _ hi).2.1;have l2:=(h.lt _ _ hj).2.1;rw[kN,if_pos l1]at hBi;rw[kN,if_pos l2]at hBj;exact h.inj i j b Bi Bj hBi hBj hdi hdj hi hj;have:=h.kle;simp only[sH,kM,rA];omega
theorem Sim.grow_at(h:Sim C st g a w)(o:Obj)(n:Nat)(hi:g.phi i=none):Grow w g (w.alloc o) (g.new i w.heap.size n):=by refine⟨λj b hp=>?_,λj b hp=>?_,λb hX=>hX,λb hX=>iU w o b (h.Xlt b hX)⟩;have hj:j≠i:=λe=>(by subst e;rw[hi]at hp;cases hp);simpa[Gh.new,upd,hj]using hp;have hj:j≠i:=λe=>(by subst e;rw[hi]at hp;cases hp);simp[Gh.new,upd,hj]
theorem Sim.fill(h:Sim C st g a w)(hh:st.hp[i]?=some .hole){o:Obj}(hB:BRep (w.alloc o) (g.new i w.heap.size n) i B):Sim C ⟨st.fr,st.hp.set i B⟩ (g.new i w.heap.size n) a (w.alloc o):=by have hno:g.phi i=none:=h.hp i _ hh;have hi:i<st.hp.length:=(zal72q.1 hh).1;have hg:=h.grow_at o n hno;have hphi:∀j b,(g.new i w.heap.size n).phi j=some b->(j=i/\b=w.heap.size)\/(j≠i/\g.phi j=some b):=(by intro j b hp;by_cases hj:j=i;subst hj;simp[Gh.new,upd]at hp;exact .inl ⟨rfl,hp.symm⟩;simp[Gh.new,upd,hj]at hp;exact .inr ⟨hj,hp⟩);refine{ defers:=h.defers,size:=h.size,fr:=λt=>(h.fr t).mono hg,hp:=?_,lt:=?_,inj:=?_,Xlt:=?_,Xold:=h.Xold,os:=h.os,tape:=h.tape,output:=h.output,drawn:=h.drawn,grown:=?_,keep:=?_,own:=?_,stay:=?_,kle:=?_,laid:=h.laid };intro j B' hj;rw[iC]at hj;split at hj;rename_i e;subst e;cases hj;exact hB;rename_i hne;refine(h.hp j B' hj).mono hg (λhn=>?_) λb hb=>iU w o b (h.lt j b hb).1;simpa[Gh.new,upd,show j≠i from λe=>hne e.symm]using hn;intro j b hp;simp only[World.size_alloc,zal95q];rcases hphi j b hp with⟨rfl,rfl⟩|⟨_,hp'⟩;exact⟨aB,hi,λhX=>by have:=h.Xlt _ hX;omega⟩;have:=h.lt j b hp';exact⟨aB,this.2.1,this.2.2⟩;intro j j' b Bj Bj' hBj hBj' hdj hdj' hj hj';rcases hphi j b hj with⟨rfl,rfl⟩|⟨h1,h1'⟩<;>rcases hphi j' _ hj' with⟨rfl,h2⟩|⟨h3,h3'⟩;rfl;have:=(h.lt _ _ h3').1;omega;have:=(h.lt _ _ h1').1;omega;rw[iC,if_neg (λe=>h1 e.symm)]at hBj;rw[iC,if_neg (λe=>h3 e.symm)]at hBj';exact h.inj j j' b Bj Bj' hBj hBj' hdj hdj' h1' h3';intro b hX;have:=h.Xlt b hX;simp only[World.size_alloc];omega;have:=h.grown;simp only[World.size_alloc];omega;intro b hb hk;rw[iU w o b (by have:=h.grown;omega)];exact h.keep b hb hk;intro j b hp hb;rcases hphi j b hp with⟨rfl,rfl⟩|⟨_,hp'⟩;have:=h.grown;omega;exact h.own j b hp' hb;intro j b hj hmj hp;have hne:j≠i:=λe=>(by subst e;have:=(h.stay j b hj hmj hp).2;rw[hno]at this;cases this);have:=h.stay j b hj hmj hp;simpa[Gh.new,upd,hne]using this;have:=h.kle;simpa using this
variable {C:Ctx}{st:St}{g:Gh}{a:Act}{w:World}{P:Program}
def vC(n:Nat):Option Nat->Bool
  |none=>true
  |some d=>decide (d<n)
def St.put(st:St)(d:Option Nat)(x:AV):St:=match d with|none=>st|some d=>⟨(d,x)::st.fr,st.hp⟩
theorem Sim.put'(h:Sim C st g a w){d:Option Nat}(hd:vC C.n d=true){x:AV}(hx:ARep w g x v):Sim C (st.put d x) g (a.put d v) w:=by cases d with|none=>exact h|some d=>exact h.put (by simpa[vC]using hd) hx
def I9:Value->Option D
  |.bool b=>some (.bool b)
  |.int k n=>some (.int k n)
  |.string s=>some (.str s)
  |.slice none 0 0=>some .nilsl
  |.pointer none=>some .nilptr
  |.map none=>some .nilmap
  |.nilFunc=>some .nilfn
  |.nilIface=>some .nilif
  |_=>none
theorem I8{d:D}(h:I9 v=some d)(w:World)(X:Nat->Prop):DRep w X d v/\d.one=true:=by cases v with|bool b=>cases h;exact⟨.bool _,rfl⟩|int k n=>cases h;exact⟨.int _ _,rfl⟩|string s=>cases h;exact⟨.str _,rfl⟩|slice a l c=>cases a<;>cases l<;>cases c<;>simp[I9]at h;subst h;exact⟨.nilsl _,rfl⟩|pointer a=>cases a<;>simp[I9]at h;subst h;exact⟨.nilptr,rfl⟩|map a=>cases a<;>simp[I9]at h;subst h;exact⟨.nilmap,rfl⟩|nilFunc=>cases h;exact⟨.nilfn,rfl⟩|nilIface=>cases h;exact⟨.nilif,rfl⟩|_=>simp[I9]at h
def Vd:List Value->Option (List D)
  |[]=>some []
  |v::r=>match I9 v,Vd r with
    |some d,some ds=>some (d::ds)
    |_,_=>none
theorem Oj(w:World)(X:Nat->Prop):∀(vs:List Value)(ds:List D),Vd vs=some ds->
    ds.length=vs.length/\(∀d∈ds,d.one=true)/\∀(i:Nat)(d:D)(v:Value),ds[i]?=some d->vs[i]?=some v->DRep w X d v
  |[],ds,h=>by cases h;simp
  |v::r,ds,h=>by
    simp only[Vd]at h;split at h;rename_i d ds' hd hr;cases h;obtain⟨h1,h2,h3⟩:=Oj w X r ds' hr;refine⟨x8,?_,?_⟩;intro x hx;simp only[ci]at hx;rcases hx with rfl|hx
    exact(I8 hd w X).2;exact h2 x hx;intro i x u hx hu
    cases i with
    |zero=>simp at hx hu;subst hx;subst hu;exact(I8 hd w X).1
    |succ i=>simp at hx hu;exact h3 i x u hx hu
    cases h
def ofOne(v:Value):AV:=match I9 v with|some d=>.d d|none=>.junk
def gP(v:Value):AV:=
  match v with
  |.agg cs=>match Vd cs.toList with
    |some ds=>.d (.agg ds)
    |none=>.junk
  |v=>ofOne v
theorem oY(w:World)(g:Gh)(v:Value):ARep w g (gP v) v:=by have one:∀v,ARep w g (ofOne v) v:=(by intro v;unfold ofOne;split;rename_i d hd;exact .d _ _ (I8 hd w g.X).1;exact .junk _);unfold gP;split;split;rename_i ds hds;obtain⟨h1,h2,h3⟩:=Oj w g.X _ _ hds;exact .d _ _ (.agg ds _ sN h2 λi c v hc hv=>h3 i c v hc tZ);exact .junk _;exact one _
def Fr.ev(fr:Fr):Operand->AV
  |.tmp t=>fr.get t
  |.const v=>gP v
  |.global _=>.junk
  |.func f=>.d (.fn f)
theorem Sim.ev(h:Sim C st g a w)(x:Operand):ARep w g (st.fr.ev x) (a.eval x):=by cases x with|tmp t=>exact h.fr t|const v=>exact oY w g v|global g=>exact .junk _|func f=>exact .d _ _ (.fn f)
def Sat(C:Ctx)(K:St->Prop)(a:Act)(w:World):Prop:=∃st g,K st/\Sim C st g a w
def OpOk(C:Ctx)(o:Oper)(st:St)(K:St->Prop):Prop:=∀g a w (Q:Exit->Act->World->Prop),Sim C st g a w->o.wp C.P a w (Sat C K) Q
def HpLe(hp hp':List Blk):Prop:=∀(i:Nat)(B:Blk),hp[i]?=some B->B≠.dead->hp'[i]?=some B
theorem HpLe.refl(hp:List Blk):HpLe hp hp:=λ_ _ h _=>h
def RdOk(C:Ctx)(o:Oper)(ev:Operand->AV)(hp:List Blk)(x:AV):Prop:=∀st:St,HpLe hp st.hp->(∀y∈o.op.operands,st.fr.ev y=ev y)->∀g a w,Sim C st g a w->∀(Q:Exit->Act->World->Prop)(K':Act->World->Prop),(∀v w' g',Sim C st g' a w'->ARep w' g' x v->K' (a.put o.dst v) w')->o.wp C.P a w K' Q
theorem RdOk.mk{ev:Operand->AV}{hp:List Blk}{x:AV}(h:∀st:St,HpLe hp st.hp->(∀y∈o.op.operands,st.fr.ev y=ev y)->∀g a w,Sim C st g a w->∃v,(execOp a.eval o).run C.P w=.ok (.value v) w/\ARep w g x v):RdOk C o ev hp x:=by intro st h1 h2 g a w hs Q K' hK;obtain⟨v,hr,hx⟩:=h st h1 h2 g a w hs;simp only[Oper.wp,hr,Oper.upon_value];exact hK v w g hs hx
theorem RdOk.ok{x:AV}{K:St->Prop}(h:RdOk C o st.fr.ev st.hp x)(hd:vC C.n o.dst=true)(hK:K (st.put o.dst x)):OpOk C o st K:=λg a w Q hs=>h st (HpLe.refl _) (λ_ _=>rfl) g a w hs Q _ λ_ _ g' hs' hx=>⟨_,g',hK,hs'.put' hd hx⟩
theorem OpOk.change{K:St->Prop}(h:∀g a w,Sim C st g a w->∃v w',(execOp a.eval o).run C.P w=.ok (.value v) w'/\Sat C K (a.put o.dst v) w'):OpOk C o st K:=by intro g a w Q hs;obtain⟨v,w',hr,hx⟩:=h g a w hs;simp only[Oper.wp,hr,Oper.upon_value];exact hx
theorem OpOk.skip{o:Oper}{K:St->Prop}(h:∀g a w,Sim C st g a w->∃w',(execOp a.eval o).run C.P w=.ok .skip w'/\Sat C K (a.put o.dst undef) w'):OpOk C o st K:=by intro g a w Q hs;obtain⟨w',hr,hx⟩:=h g a w hs;simp only[Oper.wp,hr,Oper.upon_skip];exact hx
theorem Ka{ev:Operand->AV}{hp:List Blk}(ho:o.op=.move x\/o.op=.assign x):RdOk C o ev hp (ev x):=RdOk.mk λst hhp hag g a w hs=>⟨a.eval x,by rcases ho with ho|ho<;>simp[execOp,ho],by rw[<- hag x (by rcases ho with ho|ho<;>simp[ho,Op.operands])];exact hs.ev x⟩
theorem qSA{ev:Operand->AV}{hp:List Blk}{c:Operand}(t:Bool)(u:AV)(ho:o.op=.pick c x y)(hc:ev c=.d (.bool t))(hu:u=if t then ev x else ev y):RdOk C o ev hp u:=RdOk.mk λst hhp hag g a w hs=>by have h:=hs.ev c;rw[hag c fN,hc]at h;generalize he:a.eval c=vc at *;cases h with|d _ _ h=>cases h;subst hu;refine⟨if t then a.eval x else a.eval y,by simp only[execOp,ho,he];cases t<;>simp[asBool],?_⟩;cases t;have:=hs.ev y;rw[hag y fN]at this;simpa using this;have:=hs.ev x;rw[hag x fN]at this;simpa using this
def lay(P:Program)(t:TypeId):Option (Bool×Nat):=match P.underlying t,P.info? t with|some (.struct _),some i=>some (true,i.size)|some (.array _ _),some i=>some (true,i.size)|some _,some i=>some (false,i.size)|_,_=>none
theorem gz(h:lay P t=some (b,s))(w:World):(isAgg t).run P w=.ok b w/\(sizeOf t).run P w=.ok s w:=by unfold lay at h;cases hu:P.underlying t with|none=>simp[hu]at h|some u=>cases hi:P.info? t with|none=>cases u<;>simp[hu,hi]at h|some i=>constructor;cases u<;>simp[hu,hi]at h<;>simp[isAgg,underlying,hu,h.1];cases u<;>simp[hu,hi]at h<;>simp[sizeOf,typeInfo,hi,h.2]
theorem tH(h:lay P t=some (false,s))(w:World)(a:Addr)(v:Value)(hc:w.cell? a=some v):(loadVar t a).run P w=.ok v w:=by obtain⟨h1,h2⟩:=gz h w;simp[loadVar,h1,hc]
theorem tI(h:lay P t=some (true,s))(w:World)(a:Addr)(vs:List Value)(hs:vs.length=s)(hc:∀(j:Nat)(v:Value),vs[j]?=some v->w.cell? (a.add j)=some v):(loadVar t a).run P w=.ok (.agg vs.toArray) w:=by obtain⟨h1,h2⟩:=gz h w;have h3:=run_loadCells_list (P:=P) w a vs hc;rw[hs]at h3;simp[loadVar,h1,h2,h3]
theorem qXI(a:Addr):a.add 0=a:=by simp[Addr.add]
theorem Vb{R:α->Value->Prop}(cs:List α)(f:Nat->Option Value)(h:∀(j:Nat)(c:α),cs[j]?=some c->∃v,f j=some v/\R c v):∃vs:List Value,vs.length=cs.length/\(∀(j:Nat)(v:Value),vs[j]?=some v->f j=some v)/\∀(j:Nat)(c:α)(v:Value),cs[j]?=some c->vs[j]?=some v->R c v:=by refine⟨(List.range cs.length).map λj=>(f j).getD undef,aN,?_,?_⟩;intro j v hv;simp only[eS,zal165q]at hv;obtain⟨k,hk,rfl⟩:=hv;have hj:j<cs.length:=(by simpa using(zal72q.1 hk).1);have:k=j:=qNL;subst this;obtain⟨v,hv,_⟩:=h k _ (jT hj);simp[hv];intro j c v hc hv;simp only[eS,zal165q]at hv;obtain⟨k,hk,rfl⟩:=hv;have:k=j:=qNL;subst this;obtain⟨v,hv,hr⟩:=h k c hc;simpa[hv]using hr
def D.part(e:D)(off s:Nat):D:=.agg ((e.cells.drop off).take s)
theorem ptr_agg{e:D}(h:DRep w X (.ptr e off) v)(hs:off+s<=e.cells.length):
    ∃ad,v=.pointer (some ad)/\∃vs:List Value,vs.length=s/\(∀(j:Nat)(u:Value),vs[j]?=some u->w.cell? (ad.add j)=some u)/\DRep w X (e.part off s) (.agg vs.toArray):=by
  cases h with
  |ptr _ _ ad val hX h1 hv hr=>
    refine⟨ad,rfl,?_⟩;have hlen:((e.cells.drop off).take s).length=s:=iK
    obtain⟨vs,hl,h2,h3⟩:=Vb (R:=DRep w X) ((e.cells.drop off).take s) (λj=>w.cell? (ad.add j)) (λj c hc=>by
      rw[sI]at hc;split at hc;rw [nC] at hc;exact⟨_,hv j c hc,hr j c hc⟩
      cases hc)
    refine⟨vs,hl.trans hlen,h2,.agg _ _ (by simp[hl]) (λc hc=>h1 c (Bn (ww hc))) λi c v hc hv=>h3 i c v hc tZ⟩
theorem qOP(t:TypeId)(ad:Addr)(w:World):(Instr.loadAt t (.pointer (some ad))).run P w=(loadVar t ad).run P w:=by simp[Instr.loadAt,Instr.sureAddr]
theorem qJE(t:TypeId)(ad:Addr)(v:Value)(w:World):(Instr.storeAt t (.pointer (some ad)) v).run P w=(storeVar t ad v).run P w:=by simp[Instr.storeAt,Instr.sureAddr]
theorem oX(ho:o.op=.load t x)(he:a.eval x=.pointer (some ad))(hr:(loadVar t ad).run P w=.ok v w):(execOp a.eval o).run P w=.ok (.value v) w:=by simp only[execOp,ho,he,Sem.run_bind,qOP,hr,Result.andThen_ok,Sem.run_pure]
theorem N6{ev:Operand->AV}{hp:List Blk}(e c:D)(off s:Nat)(ho:o.op=.load t x)(hl:lay C.P t=some (false,s))(hx:ev x=.d (.ptr e off))(hc:e.cells[off]?=some c):RdOk C o ev hp (.d c):=RdOk.mk λst hhp hag g a w hs=>by have h:=hs.ev x;rw[hag x fN,hx]at h;generalize he:a.eval x=vx at *;cases h with|d _ _ h=>cases h with|ptr _ _ ad val hX h1 hv hr=>have h2:=hv 0 c fe;rw[qXI]at h2;exact⟨val 0,oX ho he (tH hl w ad _ h2),.d _ _ (hr 0 c fe)⟩
theorem Eu{ev:Operand->AV}{hp:List Blk}(e:D)(off s:Nat)(ho:o.op=.load t x)(hl:lay C.P t=some (true,s))(hx:ev x=.d (.ptr e off))(hc:off+s<=e.cells.length):RdOk C o ev hp (.d (e.part off s)):=RdOk.mk λst hhp hag g a w hs=>by have h:=hs.ev x;rw[hag x fN,hx]at h;generalize he:a.eval x=vx at *;cases h with|d _ _ h=>obtain⟨ad,rfl,vs,hvs,h2,h3⟩:=ptr_agg h hc;exact⟨_,oX ho he (tI hl w ad vs hvs h2),.d _ _ h3⟩
theorem rX(h:ARep w g (.mptr id sz idx off) v):∃b,g.phi id=some b/\v=.pointer (some ⟨b,idx*sz+off,none⟩):=by cases h with|mptr _ _ _ _ b hb=>exact⟨b,hb,rfl⟩
theorem qJR{ev:Operand->AV}{hp:List Blk}{ty:TypeId}(id off s:Nat)(cs:List AV)(c:AV)(ho:o.op=.load t x)(hl:lay C.P t=some (false,s))(hx:ev x=.mptr id 0 0 off)(hb:hp[id]?=some (.box ty cs))(hc:cs[off]?=some c):RdOk C o ev hp c:=RdOk.mk λst hhp hag g a w hs=>by have hb:=hhp _ _ hb (λe=>by cases e);have h:=hs.ev x;rw[hag x fN,hx]at h;obtain⟨b,hp,he⟩:=rX h;obtain⟨b',cells,hp',hw,_,hlen,hr⟩:=hs.hp id _ hb;cases hp.symm.trans hp';have hoff:off<cells.size:=qDX;have hcell:w.cell? ⟨b,0*0+off,none⟩=some cells[off]:=(by rw[show 0*0+off=off by omega,cell_of_row w b off cells ty (0,0) hw,Jn hoff]);exact⟨cells[off],oX ho he (tH hl w _ _ hcell),hr off c _ hc (by simp[hoff])⟩
def qXH:List AV->Option (List D)
  |[]=>some []
  |.d x::r=>if x.one=true then(match qXH r with|some xs=>some (x::xs)|none=>none)else none
  |_::_=>none
theorem Hd:∀(cs:List AV)(ds:List D),qXH cs=some ds->cs=ds.map .d/\∀x∈ds,x.one=true
  |[],ds,h=>by cases h;simp
  |c::r,ds,h=>by
    cases c<;>simp only[qXH]at h<;>(try (cases h;done));rename_i x;split at h;rename_i h1;split at h;rename_i xs hxs;cases h;obtain⟨e,h2⟩:=Hd r xs hxs;refine⟨gr,λy hy=>?_⟩;simp only[ci]at hy;rcases hy with rfl|hy
    exact h1;exact h2 y hy;cases h;cases h
def zg(cs:List AV):AV:=match qXH cs with
  |some ds=>.d (.agg ds)
  |none=>.agg cs
theorem zf(hl:cs.length=vs.size)(h:∀(i:Nat)(c:AV)(v:Value),cs[i]?=some c->vs[i]?=some v->ARep w g c v):ARep w g (zg cs) (.agg vs):=by unfold zg;split;rename_i ds hds;obtain⟨rfl,h1⟩:=Hd _ _ hds;refine .d _ _ (.agg ds vs qf h1 λi c v hc hv=>?_);have:=h i (.d c) v (by simp[hc]) hv;(cases this with|d _ _ h=>exact h);exact .agg _ _ hl h
theorem Xe{ev:Operand->AV}{hp:List Blk}{ty:TypeId}(id off s:Nat)(cs:List AV)(ho:o.op=.load t x)(hl:lay C.P t=some (true,s))(hx:ev x=.mptr id 0 0 off)
    (hb:hp[id]?=some (.box ty cs)) (hc:off+s<=cs.length):RdOk C o ev hp (zg ((cs.drop off).take s)):=
  RdOk.mk λst hhp hag g a w hs=>by
    have hb:=hhp _ _ hb (λe=>by cases e);have h:=hs.ev x;rw[hag x fN,hx]at h;obtain⟨b,hp,he⟩:=rX h;obtain⟨b',cells,hp',hw,_,hlen,hr⟩:=hs.hp id _ hb;cases hp.symm.trans hp';have hlen':((cs.drop off).take s).length=s:=iK
    obtain⟨vs,hvl,h2,h3⟩:=Vb (R:=ARep w g) ((cs.drop off).take s) (λj=>cells[off+j]?) (λj c hc=>by
      rw[sI]at hc;split at hc;rw [nC] at hc;have hlt:off+j<cells.size:=qDX
      exact⟨cells[off+j],bf,hr _ c _ hc bf⟩
      cases hc)
    refine⟨.agg vs.toArray,?_,zf (by simp[hvl]) λi c v hc hv=>h3 i c v hc tZ⟩
    exact oX ho he (tI hl w ⟨b,0*0+off,none⟩ vs (hvl.trans hlen') (λj v hv=>by
      rw[zR,cell_of_row w b _ cells ty (0,0) hw];simpa using h2 j v hv))
theorem qFI{ev:Operand->AV}{hp:List Blk}{ty:TypeId}(id sz idx off s:Nat)(es:List D)(e c:D)(ho:o.op=.load t x)(hl:lay C.P t=some (false,s))(hx:ev x=.mptr id sz idx off)(hb:hp[id]?=some (.flat ty sz es))(he:es[idx]?=some e)(hc:e.cells[off]?=some c):RdOk C o ev hp (.d c):=RdOk.mk λst hhp hag g a w hs=>by have hb:=hhp _ _ hb (λe=>by cases e);have h:=hs.ev x;rw[hag x fN,hx]at h;obtain⟨b,hp,hv⟩:=rX h;rcases hs.hp id _ hb with⟨h0,_⟩|⟨b',cells,hp',hw,_,hlen,h0,h1,hr⟩;subst h0;simp at he;cases hp.symm.trans hp';obtain⟨v,hcv,hdv⟩:=hr idx e off c he hc;have hcell:w.cell? ⟨b,idx*sz+off,none⟩=some v:=(by rw[cell_of_row w b _ cells ty (0,0) hw];exact hcv);exact⟨v,oX ho hv (tH hl w _ _ hcell),.d _ _ hdv⟩
theorem Dh{ev:Operand->AV}{hp:List Blk}{ty:TypeId}(id sz idx off s:Nat)(es:List D)(e:D)(ho:o.op=.load t x)(hl:lay C.P t=some (true,s))(hx:ev x=.mptr id sz idx off)
    (hb:hp[id]?=some (.flat ty sz es)) (he:es[idx]?=some e) (hc:off+s<=e.cells.length):RdOk C o ev hp (.d (e.part off s)):=
  RdOk.mk λst hhp hag g a w hs=>by
    have hb:=hhp _ _ hb (λe=>by cases e);have h:=hs.ev x;rw[hag x fN,hx]at h;obtain⟨b,hp,hv⟩:=rX h;rcases hs.hp id _ hb with⟨h0,_⟩|⟨b',cells,hp',hw,_,hlen,h0,h1,hr⟩
    subst h0;simp at he;cases hp.symm.trans hp';have hlen':((e.cells.drop off).take s).length=s:=iK
    obtain⟨vs,hvl,h2,h3⟩:=Vb (R:=DRep w g.X) ((e.cells.drop off).take s) (λj=>cells[idx*sz+(off+j)]?) (λj c hc=>by
      rw[sI]at hc;split at hc;rw [nC] at hc;exact hr idx e _ c he hc
      cases hc)
    refine⟨.agg vs.toArray,?_,.d _ _ (.agg _ _ (by simp[hvl]) (λc hc=>?_) λi c v hc hv=>h3 i c v hc tZ)⟩
    exact oX ho hv (tI hl w ⟨b,idx*sz+off,none⟩ vs (hvl.trans hlen') (λj v hv=>by
      rw[zR,cell_of_row w b _ cells ty (0,0) hw,gn];exact h2 j v hv))
    obtain⟨j,hj⟩:=lO (Bn (ww hc));exact h1 idx e j c he hj
variable {C:Ctx}{st:St}{g:Gh}{a:Act}{w:World}{P:Program}
def Pw(R:α->β->Prop)(xs:List α)(ys:List β):Prop:=xs.length=ys.length/\∀(i:Nat)(x:α)(y:β),xs[i]?=some x->ys[i]?=some y->R x y
theorem Pw.append{R:α->β->Prop}{xs xs':List α}{ys ys':List β}(h:Pw R xs ys)(h':Pw R xs' ys'):Pw R (xs++xs') (ys++ys'):=by refine⟨by simp[h.1,h'.1],λi x y hx hy=>?_⟩;rw[kN]at hx hy;split at hx;rename_i hlt;rw[if_pos (by rw[<- h.1];exact hlt)]at hy;exact h.2 i x y hx hy;rename_i hge;rw[if_neg (by rw[<- h.1];exact hge),<- h.1]at hy;exact h'.2 _ x y hx hy
theorem Pw.take{α β:Type}{R:α->β->Prop}{xs:List α}{ys:List β}(h:Pw R xs ys)(n:Nat):Pw R (xs.take n) (ys.take n):=by refine⟨by simp[h.1],λi x y hx hy=>?_⟩;rw[sI]at hx hy;split at hx;rename_i hlt;rw[if_pos hlt]at hy;exact h.2 i x y hx hy;cases hx
theorem Pw.drop{α β:Type}{R:α->β->Prop}{xs:List α}{ys:List β}(h:Pw R xs ys)(n:Nat):Pw R (xs.drop n) (ys.drop n):=⟨by simp[h.1],λi x y hx hy=>by rw[nC]at hx hy;exact h.2 _ x y hx hy⟩
def spl(L:List α)(off:Nat)(cs:List α):List α:=L.take off++(cs++L.drop (off+cs.length))
theorem Pw.spl{α β:Type}{R:α->β->Prop}{xs zs:List α}{ys us:List β}(h:Pw R xs ys)(off:Nat)(h':Pw R zs us):Pw R (spl xs off zs) (spl ys off us):=by unfold TL.spl;rw[h'.1];exact(h.take _).append (h'.append (h.drop _))
theorem ARep.pw{w:World}{g:Gh}{c:AV}(h:ARep w g c v)(hf:c.flat=true):Pw (ARep w g) c.cells v.cells.toList/\∀u∈v.cells.toList,u.oneCell'=true:=by obtain⟨h1,h2,h3⟩:=h.cells hf;have hp:Pw (ARep w g) c.cells v.cells.toList:=⟨by simpa using h1.symm,λi x y hx hy=>by obtain⟨u,hu,hr⟩:=h3 i x hx;have:u=y:=(by have:v.cells.toList[i]?=some u:=(by simpa using hu);rw[hy]at this;cases this;rfl);exact this ▸ hr⟩;refine⟨hp,λu hu=>?_⟩;obtain⟨i,hi⟩:=lO hu;have hlt:i<c.cells.length:=(by rw[hp.1];exact(zal72q.1 hi).1);exact((hp.2 i _ u (jT hlt) hi).oneCell (h2 _ (fV hlt))).1
theorem y7(hl:lay P t=some (bb,s))(w:World)(b off:Nat)(ty:TypeId)(cur:Array Value)(v:Value)(hg:w.heap[b]?=some (.cells cur ty (0,0)))(hs:v.cells.size=s)(h1:∀u∈v.cells.toList,u.oneCell'=true)(hfit:off+s<=cur.size):(storeVar t ⟨b,off,none⟩ v).run P w=.ok () (w.setRow b (spl cur.toList off v.cells.toList).toArray):=by obtain⟨_,h2⟩:=gz hl w;have h3:=run_storeCells_at P b off ty v.cells.toList 0 cur w hg (by simpa[hs]using hfit) h1;simp only[cg]at h3;simp[storeVar,h2,hs,h3,spl]
theorem Eo(ho:o.op=.store t x y)(he:a.eval x=.pointer (some ad))(hr:(storeVar t ad (a.eval y)).run P w=.ok () w'):(execOp a.eval o).run P w=.ok .skip w':=by simp only[execOp,ho,he,Sem.run_bind,qJE,hr,Result.andThen_ok,Sem.run_pure]
theorem eg(w:World)(b:Nat)(cs:Array Value):(w.setRow b cs).heap.size=w.heap.size:=by simp[World.setRow]
theorem F1{ty:TypeId}(id off s:Nat)(bb:Bool)(cs:List AV)(v:AV)(ho:o.op=.store t x y)(hd:o.dst=none)(hl:lay C.P t=some (bb,s))(hx:st.fr.ev x=.mptr id 0 0 off)(hy:st.fr.ev y=v)(hf:v.flat=true)(hs:v.cells.length=s)(hb:st.hp[id]?=some (.box ty cs))(hc:off+s<=cs.length)(hsim:Sim C st g a w):∃w',(execOp a.eval o).run C.P w=.ok .skip w'/\Sim C ⟨st.fr,st.hp.set id (.box ty (spl cs off v.cells))⟩ g (a.put o.dst undef) w':=by have h:=hsim.ev x;rw[hx]at h;obtain⟨b,hp,he⟩:=rX h;rw[show 0*0+off=off by omega]at he;have hv:=hsim.ev y;rw[hy]at hv;obtain⟨hpw,h1⟩:=hv.pw hf;obtain⟨b',cells,hp',hw,hpsi,hlen,hr⟩:=hsim.hp id _ hb;cases hp.symm.trans hp';have hvs:(a.eval y).cells.size=s:=(by have:=hpw.1;simp only[cy]at this;omega);refine⟨_,Eo ho he (y7 hl w b off ty cells _ hw hvs h1 aB),?_⟩;rw[hd];have hX:∀b',g.X b'->b'≠b:=λb' hX e=>(hsim.lt id b hp).2.2 (e ▸ hX);have hgr:Grow w g (w.setRow b (spl cells.toList off (a.eval y).cells.toList).toArray) g:=⟨λ_ _ h=>h,λ_ _ _=>rfl,λ_ h=>h,λb' hb'=>setRow_other w b b' _ (hX b' hb')⟩;have hpw2:Pw (ARep w g) cs cells.toList:=⟨V5,λi c v hc hv=>hr i c v hc tZ⟩;have hpw3:=hpw2.spl off hpw;refine hsim.change hb (λe=>by cases e) hp (eg _ _ _) rfl rfl rfl (fY _) (λb' hb'=>setRow_other w b b' _ hb') ⟨b,_,hp,setRow_heap w b cells _ ty (0,0) hw,?_,by simpa using hpw3.1,λj c v hc hv=>(hpw3.2 j c v hc tZ).mono hgr⟩;have hlen3:=hpw3.1;simp only[spl,sH,oF,D1,cy]at hlen3;simp only[hpsi,gq,spl,sH,oF,D1,cy];omega
theorem qFY{K:St->Prop}{ty:TypeId}(id off s:Nat)(bb:Bool)(cs:List AV)(v:AV)(ho:o.op=.store t x y)(hd:o.dst=none)(hl:lay C.P t=some (bb,s))(hx:st.fr.ev x=.mptr id 0 0 off)(hy:st.fr.ev y=v)(hf:v.flat=true)(hs:v.cells.length=s)(hb:st.hp[id]?=some (.box ty cs))(hc:off+s<=cs.length)(hK:K ⟨st.fr,st.hp.set id (.box ty (spl cs off v.cells))⟩):OpOk C o st K:=OpOk.skip λ_ _ _ hsim=>by obtain⟨w',h1,h2⟩:=F1 id off s bb cs v ho hd hl hx hy hf hs hb hc hsim;exact⟨w',h1,_,_,hK,h2⟩
def D.upd(e:D)(off:Nat)(v:D):D:=match e with|.agg cs=>.agg (spl cs off v.cells)|_=>v
theorem spl_one(x y:α):spl [x] 0 [y]=[y]:=by simp[spl]
theorem D.cells_one{e:D}(h:e.one=true):e.cells=[e]:=by cases e<;>first|rfl|cases h
theorem D.cells_upd{e v:D}(h:e.one=true->v.one=true)(hfit:off+v.cells.length<=e.cells.length):(e.upd off v).cells=spl e.cells off v.cells:=by have main:e.one=true->e.upd off v=v->(e.upd off v).cells=spl e.cells off v.cells:=(by intro he hu;have hv:=h he;rw[hu,D.cells_one he,D.cells_one hv];rw[D.cells_one he,D.cells_one hv]at hfit;have:off=0:=(by simpa using hfit);subst this;exact(spl_one _ _).symm);cases e with|agg cs=>rfl|_=>exact main rfl rfl
theorem qET{es:List α}{k:Nat}{x y:α}(h:(es.set idx x)[k]?=some y):(k=idx/\y=x)\/(k≠idx/\es[k]?=some y):=by rw[iC]at h;by_cases e:idx=k;rw[if_pos e]at h;split at h;cases h;exact .inl ⟨e.symm,rfl⟩;cases h;rw[if_neg e]at h;exact .inr ⟨λe'=>e e'.symm,h⟩
theorem Dm{ty:TypeId}(id sz idx off s:Nat)(bb:Bool)(es:List D)(e v:D)(ho:o.op=.store t x y)(hd:o.dst=none)(hl:lay C.P t=some (bb,s))(hx:st.fr.ev x=.mptr id sz idx off)(hy:st.fr.ev y=.d v)(hs:v.cells.length=s)(hb:st.hp[id]?=some (.flat ty sz es))(hidx:es[idx]?=some e)(hone:e.one=false\/v.one=true)(hc:off+s<=e.cells.length)(hsim:Sim C st g a w):∃w',(execOp a.eval o).run C.P w=.ok .skip w'/\Sim C ⟨st.fr,st.hp.set id (.flat ty sz (es.set idx (e.upd off v)))⟩ g (a.put o.dst undef) w':=by have h:=hsim.ev x;rw[hx]at h;obtain⟨b,hp,he⟩:=rX h;have hv:=hsim.ev y;rw[hy]at hv;obtain⟨hpw,h1⟩:=hv.pw rfl;rcases hsim.hp id _ hb with⟨h0,_⟩|⟨b',cells,hp',hw,hpsi,hlen,h0,hones,hr⟩;subst h0;simp at hidx;cases hp.symm.trans hp';have hvs:(a.eval y).cells.size=s:=(by have:=hpw.1;simp only[cy,AV.cells,uR]at this;omega);have hesz:=h0 idx e hidx;have hilt:=(zal72q.1 hidx).1;have hmul:(idx+1)*sz<=es.length*sz:=sL _ hilt;rw[sM,Nat.one_mul]at hmul;refine⟨_,Eo ho he (y7 hl w b (idx*sz+off) ty cells _ hw hvs h1 aB),?_⟩;rw[hd];have hX:∀b',g.X b'->b'≠b:=λb' hX e=>(hsim.lt id b hp).2.2 (e ▸ hX);have hdm:∀{d:D}{u:Value},DRep w g.X d u->DRep (w.setRow b (spl cells.toList (idx*sz+off) (a.eval y).cells.toList).toArray) g.X d u:=λhd=>hd.mono (λ_ h=>h) λb' hb'=>setRow_other w b b' _ (hX b' hb');have hcu:(e.upd off v).cells=spl e.cells off v.cells:=D.cells_upd (λhe=>hone.resolve_left (by simp[he])) aB;have hvd:DRep w g.X v (a.eval y):=(by cases hv with|d _ _ h=>exact h);obtain⟨hvc1,hvc2,hvc3⟩:=hvd.cells;have hul:(e.upd off v).cells.length=sz:=(by rw[hcu];simp[spl];omega);refine hsim.change hb (λe=>by cases e) hp (eg _ _ _) rfl rfl rfl (fY _) (λb' hb'=>setRow_other w b b' _ hb') (.inr ⟨b,_,hp,setRow_heap w b cells _ ty (0,0) hw,?_,?_,?_,?_,?_⟩);simp only[hpsi,gq,spl,sH,oF,D1,cy];omega;simp only[zal95q,gq,spl,sH,oF,D1,cy];omega;intro k e' hk;rcases qET hk with⟨_,rfl⟩|⟨_,hk⟩;exact hul;exact h0 k e' hk;intro k e' j c hk hj;rcases qET hk with⟨_,rfl⟩|⟨_,hk⟩;rw[hcu]at hj;have hm:=fQ hj;simp only[spl,wX]at hm;rcases hm with hm|hm|hm;obtain⟨j',hj'⟩:=lO (ww hm);exact hones idx e j' c hidx hj';exact hvc2 c hm;obtain⟨j',hj'⟩:=lO (Bn hm);exact hones idx e j' c hidx hj';exact hones k e' j c hk hj;intro k e' j c hk hj;have hjlt:j<sz:=(by have hl':e'.cells.length=sz:=(by rcases qET hk with⟨_,rfl⟩|⟨_,hk⟩;exact hul;exact h0 k e' hk);rw[<- hl'];exact(zal72q.1 hj).1);have hget:∀m,(spl cells.toList (idx*sz+off) (a.eval y).cells.toList).toArray[m]?=if m<idx*sz+off then cells[m]? else if m<idx*sz+off+s then(a.eval y).cells[m-(idx*sz+off)]? else cells[m]?:=(by intro m;simp only[Vy,spl,kN,oF,cy,sI,nC,qRI,hvs];have hmin:min (idx*sz+off) cells.size=idx*sz+off:=aB;rw[hmin];by_cases m1:m<idx*sz+off;simp[m1];rw[if_neg m1,if_neg m1];by_cases m2:m<idx*sz+off+s;rw[if_pos aB,if_pos m2];rw[if_neg aB,if_neg m2];congr 1;omega);rw[hget];by_cases hki:k=idx;subst hki;rw[iC,if_pos rfl,if_pos hilt]at hk;cases hk;rw[hcu]at hj;simp only[spl,kN,oF,sI,nC]at hj;have hmin:min off e.cells.length=off:=aB;rw[hmin]at hj;by_cases j1:j<off;rw[if_pos aB];rw[if_pos j1,if_pos j1]at hj;obtain⟨u,hu,hd⟩:=hr k e j c hidx hj;exact⟨u,hu,hdm hd⟩;rw[if_neg aB];rw[if_neg j1]at hj;by_cases j2:j<off+s;rw[if_pos aB];rw[if_pos aB]at hj;obtain⟨u,hu,hd⟩:=hvc3 _ c hj;exact⟨u,by rw[show k*sz+j-(k*sz+off)=j-off by omega];exact hu,hdm hd⟩;rw[if_neg aB];rw[if_neg aB]at hj;obtain⟨u,hu,hd⟩:=hr k e j c hidx (by rw[<- hj];congr 1;omega);exact⟨u,hu,hdm hd⟩;rw[iC,if_neg (λe=>hki e.symm)]at hk;obtain⟨u,hu,hd⟩:=hr k e' j c hk hj;refine⟨u,?_,hdm hd⟩;have hne:k*sz+j<idx*sz+off\/idx*sz+off+s<=k*sz+j:=(by rcases fU k idx with hlt|hge;have:=sL sz hlt;rw[gl]at this;omega;have hlt:idx<k:=aB;have:=sL sz hlt;rw[gl]at this;omega);rcases hne with h'|h';rw[if_pos h'];exact hu;rw[if_neg aB,if_neg aB];exact hu
theorem Z4{K:St->Prop}{ty:TypeId}(id sz idx off s:Nat)(bb:Bool)(es:List D)(e v:D)(ho:o.op=.store t x y)(hd:o.dst=none)(hl:lay C.P t=some (bb,s))(hx:st.fr.ev x=.mptr id sz idx off)(hy:st.fr.ev y=.d v)(hs:v.cells.length=s)(hb:st.hp[id]?=some (.flat ty sz es))(hidx:es[idx]?=some e)(hone:e.one=false\/v.one=true)(hc:off+s<=e.cells.length)(hK:K ⟨st.fr,st.hp.set id (.flat ty sz (es.set idx (e.upd off v)))⟩):OpOk C o st K:=OpOk.skip λ_ _ _ hsim=>by obtain⟨w',h1,h2⟩:=Dm id sz idx off s bb es e v ho hd hl hx hy hs hb hidx hone hc hsim;exact⟨w',h1,_,_,hK,h2⟩
theorem newBox(t:TypeId)(hsim:Sim C st g a w)(hpw:Pw (ARep w g) cs vs.toList):Sim C ⟨st.fr,st.hp++[.box t cs]⟩ (g.new st.hp.length w.heap.size vs.size) a (w.alloc (.cells vs t))/\ARep (w.alloc (.cells vs t)) (g.new st.hp.length w.heap.size vs.size) (.mptr st.hp.length 0 0 0) (.pointer (some ⟨w.heap.size,0,none⟩)):=by have hgr:=hsim.grow_new (.cells vs t) vs.size;refine⟨hsim.alloc ⟨w.heap.size,vs,oH,heap_alloc_new w _,oH,by simpa using hpw.1,λj c v hc hv=>(hpw.2 j c v hc tZ).mono hgr⟩,?_⟩;exact .mptr _ 0 0 0 w.heap.size oH
theorem ok_alloc{K:St->Prop}(z:Value)(ho:o.op=.alloc t)(hd:vC C.n o.dst=true)(hz:(C.P.info? t).bind (·.zero)=some z)(hf:(gP z).flat=true)(hK:K (St.put ⟨st.fr,st.hp++[.box t (gP z).cells]⟩ o.dst (.mptr st.hp.length 0 0 0))):OpOk C o st K:=OpOk.change λg a w hs=>by cases hi:C.P.info? t with|none=>simp[hi]at hz|some i=>simp[hi]at hz;obtain⟨h1,h2⟩:=newBox t hs ((oY w g z).pw hf).1;exact⟨_,_,zaP56q,_,_,hK,h1.put' hd h2⟩
theorem ok_box{K:St->Prop}(v:AV)(ho:o.op=.box t x)(hd:vC C.n o.dst=true)(hx:st.fr.ev x=v)(hf:v.flat=true)(hK:K (St.put ⟨st.fr,st.hp++[.box t v.cells]⟩ o.dst (.mptr st.hp.length 0 0 0))):OpOk C o st K:=OpOk.change λg a w hs=>by have hv:=hs.ev x;rw[hx]at hv;obtain⟨h1,h2⟩:=newBox t hs (hv.pw hf).1;exact⟨_,_,by simp[execOp,ho,Instr.box,newVar,newRow],_,_,hK,h1.put' hd h2⟩
def fld(P:Program)(s:TypeId)(f:Nat):Option Nat:=
  match P.underlying s with
  |some (.struct fs)=>match fs[f]? with
    |some fl=>match P.info? fl.type with
      |some i=>if i.size=0 then none else some fl.offset
      |none=>none
    |none=>none
  |_=>none
theorem qJG{s:TypeId}(h:fld P s f=some off)(w:World)(ad:Addr):(Instr.fieldAt s (.pointer (some ad)) f).run P w=.ok (.pointer (some (ad.add off))) w:=by unfold fld at h;split at h;rename_i fs hu;split at h;rename_i fl hf;split at h;rename_i i hi;split at h;cases h;rename_i h0;cases h;simp[Instr.fieldAt,run_underlying hu,hf,Instr.sureAddr,fieldPlace,sizeOf,typeInfo,hi,h0];cases h;cases h;cases h
theorem qq{s:TypeId}(ho:o.op=.fieldAddr s x f)(hl:fld P s f=some off)(he:a.eval x=.pointer (some ad)):(execOp a.eval o).run P w=.ok (.value (.pointer (some (ad.add off)))) w:=by simp only[execOp,ho,he,Sem.run_bind,qJG hl,Result.andThen_ok,Sem.run_pure]
theorem My{ev:Operand->AV}{hp:List Blk}{s:TypeId}(e:D)(off fo:Nat)(ho:o.op=.fieldAddr s x f)(hl:fld C.P s f=some fo)(hx:ev x=.d (.ptr e off)):RdOk C o ev hp (.d (.ptr e (off+fo))):=RdOk.mk λst hhp hag g a w hs=>by have h:=hs.ev x;rw[hag x fN,hx]at h;generalize he:a.eval x=vx at *;cases h with|d _ _ h=>cases h with|ptr _ _ ad val hX h1 hv hr=>refine⟨_,qq ho hl he,.d _ _ (.ptr e (off+fo) (ad.add fo) (λj=>val (fo+j)) qEG h1 (λj c hc=>?_) λj c hc=>?_)⟩;rw[F5];exact hv (fo+j) c (by rw[<- Nat.add_assoc];exact hc);exact hr (fo+j) c (by rw[<- Nat.add_assoc];exact hc)
theorem Kb{ev:Operand->AV}{hp:List Blk}{s:TypeId}(id sz idx off fo:Nat)(ho:o.op=.fieldAddr s x f)(hl:fld C.P s f=some fo)(hx:ev x=.mptr id sz idx off):RdOk C o ev hp (.mptr id sz idx (off+fo)):=RdOk.mk λst hhp hag g a w hs=>by have h:=hs.ev x;rw[hag x fN,hx]at h;obtain⟨b,hp,he⟩:=rX h;refine⟨_,qq ho hl he,?_⟩;rw[zR,gn];exact .mptr id sz idx (off+fo) b hp
def sel(P:Program)(t:TypeId):Option (TypeId×Nat×Nat):=
  match P.underlying t with
  |some (.slice e)=>match P.info? e with
    |some i=>some (e,i.size,i.bytes)
    |none=>none
  |_=>none
theorem zB(h:sel P t=some (e,s,by')):∃i,P.underlying t=some (.slice e)/\P.info? e=some i/\i.size=s/\i.bytes=by':=by unfold sel at h;split at h;rename_i e' hu;split at h;rename_i i hi;cases h;exact⟨i,hu,hi,rfl,rfl⟩;cases h;cases h
theorem W8(h:sel P t=some (e,s,by'))(w:World)(ad:Addr)(len cap:Nat)(k:IntKind)(i:Int)(h0:0<=i)(h1:i<len):(Instr.indexAt t (.slice (some ad) len cap) (.int k i)).run P w=.ok (.pointer (some (ad.add (i.toNat*s)))) w:=by obtain⟨inf,hu,hi,hs,_⟩:=zB h;simp[Instr.indexAt,run_underlying hu,asIntOf,h0,h1,sizeOf,typeInfo,hi,hs]
theorem qp(ho:o.op=.indexAddr t x y)(hl:sel P t=some (e,s,by')){len cap:Nat}{i:Int}(he:a.eval x=.slice (some ad) len cap)(hi:a.eval y=.int k i)(h0:0<=i)(h1:i<len):(execOp a.eval o).run P w=.ok (.value (.pointer (some (ad.add (i.toNat*s))))) w:=by simp only[execOp,ho,he,hi,Sem.run_bind,W8 hl w ad len cap k i h0 h1,Result.andThen_ok,Sem.run_pure]
theorem int_inv{n:Int}(h:ARep w g (.d (.int k n)) v):v=.int k n:=by cases h with|d _ _ h=>cases h;rfl
theorem bool_inv(h:ARep w g (.d (.bool b)) v):v=.bool b:=by cases h with|d _ _ h=>cases h;rfl
theorem str_inv{s:ByteArray}(h:ARep w g (.d (.str s)) v):v=.string s:=by cases h with|d _ _ h=>cases h;rfl
theorem Qd{ev:Operand->AV}{hp:List Blk}(sz by':Nat)(es:List D)(k:IntKind)(i:Int)(d:D)(ho:o.op=.indexAddr t x y)(hl:sel C.P t=some (e,sz,by'))(hx:ev x=.d (.sl sz es))(hy:ev y=.d (.int k i))(h0:0<=i)(he:es[i.toNat]?=some d):RdOk C o ev hp (.d (.ptr d 0)):=RdOk.mk λst hhp hag g a w hs=>by have h:=hs.ev x;rw[hag x fN,hx]at h;have hi:=hs.ev y;rw[hag y fN,hy]at hi;generalize hev:a.eval x=vx at *;have hlt:=(zal72q.1 he).1;cases h with|d _ _ h=>cases h with|sl0=>simp at he|sl _ _ ad cap val hX hc hs' h1 hv hr=>refine⟨_,qp ho hl hev (int_inv hi) h0 aB,.d _ _ (.ptr d 0 _ (val i.toNat) qEG (λc hc'=>?_) (λj c hj=>?_) λj c hj=>hr i.toNat d j c he Mh)⟩;obtain⟨j,hj⟩:=lO hc';exact h1 i.toNat d j c he hj;rw[F5];exact hv i.toNat d j c he Mh
theorem Mw{ev:Operand->AV}{hp:List Blk}(id sz by' off len:Nat)(k:IntKind)(i:Int)(ho:o.op=.indexAddr t x y)(hl:sel C.P t=some (e,sz,by'))(hx:ev x=.msl id sz off len)(hy:ev y=.d (.int k i))(h0:0<=i)(h1:i<len):RdOk C o ev hp (.mptr id sz (off+i.toNat) 0):=RdOk.mk λst hhp hag g a w hs=>by have h:=hs.ev x;rw[hag x fN,hx]at h;have hi:=hs.ev y;rw[hag y fN,hy]at hi;generalize hev:a.eval x=vx at *;cases h with|msl0=>omega|msl _ _ _ _ cap b hb hc hp=>refine⟨_,qp ho hl hev (int_inv hi) h0 h1,?_⟩;rw[zR,<- Nat.add_mul];exact .mptr id sz (off+i.toNat) 0 b hb
def qNC(P:Program)(t:TypeId):Option (Nat×Nat):=
  match P.underlying t with
  |some (.array n e)=>match P.info? e with
    |some i=>some (n,i.size)
    |none=>none
  |_=>none
theorem qNB(h:qNC P t=some (n,s)):∃e i,P.underlying t=some (.array n e)/\P.info? e=some i/\i.size=s:=by unfold qNC at h;split at h;rename_i n' e hu;split at h;rename_i i hi;cases h;exact⟨e,i,hu,hi,rfl⟩;cases h;cases h
theorem Mx{ev:Operand->AV}{hp:List Blk}(id sz idx off n s:Nat)(k:IntKind)(i:Int)(ho:o.op=.indexAddr t x y)(hl:qNC C.P t=some (n,s))(hx:ev x=.mptr id sz idx off)(hy:ev y=.d (.int k i))(h0:0<=i)(h1:i<n):RdOk C o ev hp (.mptr id sz idx (off+i.toNat*s)):=RdOk.mk λst hhp hag g a w hs=>by have h:=hs.ev x;rw[hag x fN,hx]at h;obtain⟨b,hp,he⟩:=rX h;have hi:=hs.ev y;rw[hag y fN,hy]at hi;obtain⟨e,inf,hu,hinf,hsz⟩:=qNB hl;refine⟨.pointer (some ((⟨b,idx*sz+off,none⟩:Addr).add (i.toNat*s))),?_,?_⟩;simp only[execOp,ho,he,int_inv hi];simp[Instr.indexAt,run_underlying hu,asIntOf,h0,h1,sizeOf,typeInfo,hinf,hsz,Instr.sureAddr];rw[zR,gn];exact .mptr id sz idx _ b hp
def AV.isAgg:AV->Bool
  |.agg _|.d (.agg _)=>true
  |_=>false
theorem qJS{ev:Operand->AV}{hp:List Blk}{s:TypeId}(fo fs:Nat)(bb:Bool)(ft:TypeId)(u v:AV)(flds:Array Field)(fl:Field)(ho:o.op=.field s x f)(hu:C.P.underlying s=some (.struct flds))(hfl:flds[f]?=some fl)(hft:fl.type=ft)(hfo:fl.offset=fo)(hl:lay C.P ft=some (bb,fs))(hx:ev x=u)(hagg:u.isAgg=true)(hv:if bb=true then fo+fs<=u.cells.length/\v=zg ((u.cells.drop fo).take fs)else u.cells[fo]?=some v):RdOk C o ev hp v:=RdOk.mk λst hhp hag g a w hs=>by have h:=hs.ev x;rw[hag x fN,hx]at h;generalize hev:a.eval x=vx at *;have hagg:∃vs:Array Value,vx=.agg vs/\Pw (ARep w g) u.cells vs.toList:=(by cases h with|agg cs vs hl h=>exact⟨vs,rfl,by simpa[AV.cells]using hl,λi c v hc hv=>h i c v (by simpa[AV.cells]using hc) tZ⟩|d d v h =>(cases h with|agg cs vs hl h1 h=>refine⟨vs,rfl,by simpa[AV.cells,D.cells]using hl,λi c v hc hv=>?_⟩;simp only[AV.cells,D.cells,eS,zal165q]at hc;obtain⟨c',hc',rfl⟩:=hc;exact .d _ _ (h i c' v hc' tZ)|_=>cases hagg)|_=>cases hagg);obtain⟨vs,rfl,hpw⟩:=hagg;obtain⟨h1,h2⟩:=gz hl w;subst hft hfo;cases bb with|true=>simp only[if_true]at hv;obtain⟨hle,rfl⟩:=hv;have hlen:=hpw.1;simp only[cy]at hlen;refine⟨.agg (vs.extract fl.offset (fl.offset+fs)),?_,?_⟩;simp only[execOp,ho,hev];simp[Instr.field,run_underlying hu,hfl,asAgg,part,h1,h2];have hp2:=(hpw.drop fl.offset).take fs;refine zf ?_ λi c v hc hv=>hp2.2 i c v hc ?_;simp;omega;simp only[Array.getElem?_extract]at hv;split at hv;rename_i hlt;rw[sI,nC,if_pos aB];simpa using hv;cases hv|false=>simp only[kV,if_false]at hv;have hlt:fl.offset<vs.size:=(by have:=hpw.1;simp only[cy]at this;rw[<- this];exact(zal72q.1 hv).1);refine⟨vs[fl.offset],?_,hpw.2 _ _ _ hv bf⟩;simp only[execOp,ho,hev];simp[Instr.field,run_underlying hu,hfl,asAgg,part,h1,hlt]
def qHK(op:BinOp)(x y:Int):Option Bool:=match op with|.eql=>some (decide (x=y))|.neq=>some (!decide (x=y))|.lss=>some (decide (x<y))|.leq=>some (decide (x<=y))|.gtr=>some (decide (y<x))|.geq=>some (decide (y<=x))|_=>none
theorem rd_cmp{ev:Operand->AV}{hp:List Blk}{op:BinOp}(k:IntKind)(m n:Int)(b:Bool)(ho:o.op=.binOp op t x y t')(hx:ev x=.d (.int k m))(hy:ev y=.d (.int k n))(hb:qHK op m n=some b):RdOk C o ev hp (.d (.bool b)):=RdOk.mk λst hhp hag g a w hs=>by have h:=hs.ev x;rw[hag x fN,hx]at h;have hi:=hs.ev y;rw[hag y fN,hy]at hi;refine⟨.bool b,?_,.d _ _ (.bool b)⟩;simp only[execOp,ho,int_inv h,int_inv hi];cases op<;>simp only[qHK]at hb<;>cases hb<;>simp[eqGuard,binOp,Op.intCmp,bne]<;>rfl
def arInt(op:BinOp)(k:IntKind)(x y:Int):Option Int:=match op with|.add=>some (k.wrap (x+y))|.sub=>some (k.wrap (x-y))|.mul=>some (k.wrap (x*y))|_=>none
theorem rd_arith{ev:Operand->AV}{hp:List Blk}{op:BinOp}(k:IntKind)(m n r:Int)(ho:o.op=.binOp op t x y t')(hx:ev x=.d (.int k m))(hy:ev y=.d (.int k n))(hr:arInt op k m n=some r):RdOk C o ev hp (.d (.int k r)):=RdOk.mk λst hhp hag g a w hs=>by have h:=hs.ev x;rw[hag x fN,hx]at h;have hi:=hs.ev y;rw[hag y fN,hy]at hi;refine⟨.int k r,?_,.d _ _ (.int k r)⟩;simp only[execOp,ho,int_inv h,int_inv hi];cases op<;>simp[arInt]at hr<;>subst hr<;>simp[eqGuard,binOp,Op.intArith]
theorem rd_not{ev:Operand->AV}{hp:List Blk}(b:Bool)(ho:o.op=.unOp .not t x)(hx:ev x=.d (.bool b)):RdOk C o ev hp (.d (.bool (!b))):=RdOk.mk λst hhp hag g a w hs=>by have h:=hs.ev x;rw[hag x fN,hx]at h;exact⟨.bool (!b),by simp only[execOp,ho,bool_inv h];simp[Op.unary],.d _ _ (.bool _)⟩
def AV.notNil:AV->Bool
  |.mptr ..|.fnc ..|.ifc ..=>true
  |.d (.ptr ..)|.d (.fn _)|.d (.iface ..)=>true
  |_=>false
theorem qJN{ev:Operand->AV}{hp:List Blk}(u:AV)(ho:o.op=.nilCheck x)(hx:ev x=u)(hn:u.notNil=true):RdOk C o ev hp u:=RdOk.mk λst hhp hag g a w hs=>by have h:=hs.ev x;rw[hag x fN,hx]at h;refine⟨a.eval x,?_,h⟩;simp only[execOp,ho];generalize a.eval x=vx at *;cases h with|d d' v' h' =>(cases h'<;>first|rfl|cases hn)|mptr=>rfl|fnc=>rfl|ifc=>rfl|_=>cases hn
theorem qOZ{ev:Operand->AV}{hp:List Blk}(vs:List AV)(v:AV)(ho:o.op=.extract x i)(hx:ev x=.tup vs)(hv:vs[i]?=some v):RdOk C o ev hp v:=RdOk.mk λst hhp hag g a w hs=>by have h:=hs.ev x;rw[hag x fN,hx]at h;generalize he:a.eval x=vx at *;cases h with|tup _ us hl h=>have hi:i<us.size:=(by rw[<- hl];exact(zal72q.1 hv).1);exact⟨us[i],by simp only[execOp,ho,he];simp[Instr.extract,hi],h i v _ hv xI⟩
def AV.slLen:AV->Option Nat
  |.d (.sl _ es)=>some es.length
  |.d .nilsl=>some 0
  |.msl _ _ _ l=>some l
  |_=>none
theorem Mv{ev:Operand->AV}{hp:List Blk}(u:AV)(s by' n:Nat)(ho:o.op=.call { callee:=.builtin .len,args:=#[x],argTypes:=#[t] })(hl:sel C.P t=some (e,s,by'))(hx:ev x=u)(hn:u.slLen=some n):RdOk C o ev hp (.d (.int .i64 n)):=RdOk.mk λst hhp hag g a w hs=>by have h:=hs.ev x;rw[hag x C8,hx]at h;obtain⟨inf,hu,hi,_,_⟩:=zB hl;have hv:∃ad cap,a.eval x=.slice ad n cap:=(by generalize a.eval x=vx at *;cases h with|d d v h=>cases h<;>cases hn<;>exact⟨_,_,rfl⟩|msl0=>cases hn;exact⟨_,_,rfl⟩|msl=>cases hn;exact⟨_,_,rfl⟩|_=>cases hn);obtain⟨ad,cap,he⟩:=hv;refine⟨goInt n,?_,.d _ _ (.int _ _)⟩;simp only[execOp,ho];simp[resolve,invoke,builtin,Builtin.len_,run_underlying hu,he]
theorem qOX{ev:Operand->AV}{hp:List Blk}(s:ByteArray)(ho:o.op=.call { callee:=.builtin .len,args:=#[x],argTypes:=#[t] })(hl:C.P.underlying t=some .string)(hx:ev x=.d (.str s)):RdOk C o ev hp (.d (.int .i64 s.size)):=RdOk.mk λst hhp hag g a w hs=>by have h:=hs.ev x;rw[hag x C8,hx]at h;refine⟨goInt s.size,?_,.d _ _ (.int _ _)⟩;simp only[execOp,ho];simp[resolve,invoke,builtin,Builtin.len_,run_underlying hl,str_inv h]
variable {C:Ctx}{st:St}{g:Gh}{a:Act}{w:World}{P:Program}
def SrcA(hp:List Blk)(sz:Nat)(ds:List D):AV->Prop
  |.d (.sl s es)=>s=sz/\es=ds
  |.d .nilsl=>ds=[]
  |.msl id s off len=>s=sz/\∃ty es,hp[id]?=some (.flat ty sz es)/\off+len<=es.length/\ds=(es.drop off).take len
  |_=>False
def Src(w:World)(X:Nat->Prop)(sz:Nat)(ds:List D)(v:Value):Prop:=(∃a cap,v=.slice a 0 cap/\ds=[])\/∃(ad:Addr)(cap:Nat)(news:List Value),v=.slice (some ad) ds.length cap/\news.length=ds.length*sz/\(∀(j:Nat)(u:Value),news[j]?=some u->w.cell? (ad.add j)=some u)/\(∀u∈news,u.oneCell'=true)/\(∀(i:Nat)(e:D),ds[i]?=some e->e.cells.length=sz)/\(∀(i:Nat)(e:D)(j:Nat)(c:D),ds[i]?=some e->e.cells[j]?=some c->c.one=true)/\∀(i:Nat)(e:D)(j:Nat)(c:D),ds[i]?=some e->e.cells[j]?=some c->∃v,news[i*sz+j]?=some v/\DRep w X c v
theorem qEZ(f:Nat->Option Value)(hs:∀(i:Nat)(e:D),ds[i]?=some e->e.cells.length=sz)
    (h1:∀(i:Nat)(e:D)(j:Nat)(c:D),ds[i]?=some e->e.cells[j]?=some c->c.one=true)
    (h:∀(i:Nat)(e:D)(j:Nat)(c:D),ds[i]?=some e->e.cells[j]?=some c->∃v,f (i*sz+j)=some v/\DRep w X c v):
    ∃news:List Value,news.length=ds.length*sz/\(∀(j:Nat)(u:Value),news[j]?=some u->f j=some u)/\(∀u∈news,u.oneCell'=true)/\
      ∀(i:Nat)(e:D)(j:Nat)(c:D),ds[i]?=some e->e.cells[j]?=some c->∃v,news[i*sz+j]?=some v/\DRep w X c v:=by
  have key:∀m,m<ds.length*sz->∃i e j c,ds[i]?=some e/\e.cells[j]?=some c/\m=i*sz+j:=by
    intro m hm
    have hsz : 0 < sz := by rcases Jq sz with h0 | h0; · subst h0; simp at hm
                            · exact h0
    have hi:m/sz<ds.length:=by rw[Nat.div_lt_iff_lt_mul hsz];exact hm
    have hj:m%sz<sz:=Nat.mod_lt _ hsz;refine⟨m/sz,ds[m/sz],m%sz,_,jT hi,jT (by rw[hs _ _ (jT hi)];exact hj),?_⟩;have:=Nat.div_add_mod m sz;rw[Ga]at this;exact this.symm
  refine⟨(List.range (ds.length*sz)).map λm=>(f m).getD undef,aN,?_,?_,?_⟩;intro m u hu;simp only[eS,zal165q]at hu;obtain⟨k,hk,rfl⟩:=hu;have hlt:m<ds.length*sz:=by simpa using(zal72q.1 hk).1
  have:k=m:=qNL
  subst this;obtain⟨i,e,j,c,he,hc,rfl⟩:=key k hlt;obtain⟨v,hv,_⟩:=h i e j c he hc;simp[hv];intro u hu;simp only[zal115q,zal120q]at hu;obtain⟨m,hm,rfl⟩:=hu;obtain⟨i,e,j,c,he,hc,rfl⟩:=key m hm;obtain⟨v,hv,hd⟩:=h i e j c he hc;rw[hv];exact(hd.oneCell (h1 i e j c he hc)).1;intro i e j c he hc;obtain⟨v,hv,hd⟩:=h i e j c he hc;refine⟨v,?_,hd⟩;have hi:=(zal72q.1 he).1;have hj:=(zal72q.1 hc).1;rw[hs i e he]at hj;have hm:=sL sz hi;rw[gl]at hm;rw[eS,ew aB];simp[hv]
theorem src_ok(hs:Sim C st g a w){x:AV}(h:ARep w g x v)(hx:SrcA st.hp sz ds x):Src w g.X sz ds v:=by cases h with|d d v h =>(cases h with|nilsl ad=>exact Or.inl ⟨ad,0,rfl,hx⟩|sl0 s ad cap=>exact Or.inl ⟨ad,cap,rfl,hx.2.symm⟩|sl s es ad cap val hX hc h0 h1 hv hr=>obtain⟨rfl,rfl⟩:=hx;obtain⟨news,n1,n2,n3,n4⟩:=qEZ (w:=w) (X:=g.X) (λm=>w.cell? (ad.add m)) h0 h1 λi e j c he hc=>⟨_,hv i e j c he hc,hr i e j c he hc⟩;exact Or.inr ⟨ad,cap,news,rfl,n1,n2,n3,h0,h1,n4⟩|_=>cases hx)|msl0 id s off ad=>obtain⟨rfl,ty,es,hb,hle,rfl⟩:=hx;exact Or.inl ⟨ad,0,rfl,aN⟩|msl id s off len cap b hb hc hp =>(obtain⟨rfl,ty,es,hblk,hle,rfl⟩:=hx;have hlen:((es.drop off).take len).length=len:=iK;rcases hs.hp id _ hblk with⟨he,hn⟩|⟨b',cells,hp',hw,hpsi,hl,h0,h1,hr⟩;rw[hb]at hn;cases hn;cases hb.symm.trans hp';have hds:∀(i:Nat)(e:D),((es.drop off).take len)[i]?=some e->es[off+i]?=some e:=(by intro i e he;rw[sI]at he;split at he;rwa [nC]at he;cases he);obtain⟨news,n1,n2,n3,n4⟩:=qEZ (w:=w) (X:=g.X) (ds:=(es.drop off).take len) (sz:=s) (λm=>cells[off*s+m]?) (λi e he=>h0 _ e (hds i e he)) (λi e j c he hc=>h1 _ e j c (hds i e he) hc) λi e j c he hc=>(by obtain⟨u,hu,hd⟩:=hr _ e j c (hds i e he) hc;exact⟨u,by rw[<- hu,sM];congr 1;omega,hd⟩);refine Or.inr ⟨⟨b,off*s,none⟩,cap,news,by rw[hlen],n1,λj u hu=>?_,n3,λi e he=>h0 _ e (hds i e he),λi e j c he hc=>h1 _ e j c (hds i e he) hc,n4⟩;rw[zR,cell_of_row w b _ cells ty (0,0) hw];exact n2 j u hu)|_=>cases hx
theorem cx(hz:(P.info? t).bind (·.zero)=some z):∃i,P.info? t=some i/\i.zero=some z:=by cases hi:P.info? t with|none=>simp[hi]at hz|some i=>exact⟨i,rfl,by simpa[hi]using hz⟩
theorem Z9(z:Array Value)(n sz i j:Nat)(hs:z.size=sz)(hi:i<n)(hj:j<sz):(madeCells z (n*sz))[i*sz+j]?=z[j]?:=by have hlt:i*sz+j<n*sz:=(by have:=sL sz hi;rw[gl]at this;omega);have hmod:(i*sz+j)%sz=j:=(by rw[Ga,Nat.mul_add_mod];exact Nat.mod_eq_of_lt hj);subst hs;simp only[madeCells,Array.getElem?_map,Array.getElem?_range,hlt];simp[hmod,hj]
theorem Km{ty:TypeId}(hsim:Sim C st g a w)(hl:es.length*sz<=vs.size)(h0:∀(i:Nat)(e:D),es[i]?=some e->e.cells.length=sz)(h1:∀(i:Nat)(e:D)(j:Nat)(c:D),es[i]?=some e->e.cells[j]?=some c->c.one=true)(h:∀(i:Nat)(e:D)(j:Nat)(c:D),es[i]?=some e->e.cells[j]?=some c->∃v,vs[i*sz+j]?=some v/\DRep w g.X c v):Sim C ⟨st.fr,st.hp++[.flat ty sz es]⟩ (g.new st.hp.length w.heap.size vs.size) a (w.alloc (.cells vs ty))/\∀cap,es.length<=cap->cap*sz<=vs.size->ARep (w.alloc (.cells vs ty)) (g.new st.hp.length w.heap.size vs.size) (.msl st.hp.length sz 0 es.length) (.slice (some ⟨w.heap.size,0,none⟩) es.length cap):=by have hgr:=hsim.grow_new (.cells vs ty) vs.size;refine⟨hsim.alloc (.inr ⟨w.heap.size,vs,oH,heap_alloc_new w _,oH,hl,h0,h1,λi e j c he hc=>?_⟩),λcap hc hcap=>?_⟩;obtain⟨v,hv,hd⟩:=h i e j c he hc;exact⟨v,hv,hd.mono hgr.X hgr.mem⟩;have:=ARep.msl (w:=w.alloc (.cells vs ty)) (g:=g.new st.hp.length w.heap.size vs.size) st.hp.length sz 0 es.length cap w.heap.size oH hc (by simpa[Gh.new,upd]using hcap);simpa using this
structure RowOf (w:World) (X:Nat->Prop) (sz:Nat) (es:List D) (vs:Array Value):Prop where
  le:es.length*sz<=vs.size
  h0:∀(i:Nat)(e:D),es[i]?=some e->e.cells.length=sz
  h1:∀(i:Nat)(e:D)(j:Nat)(c:D),es[i]?=some e->e.cells[j]?=some c->c.one=true
  rep:∀(i:Nat)(e:D)(j:Nat)(c:D),es[i]?=some e->e.cells[j]?=some c->∃v,vs[i*sz+j]?=some v/\DRep w X c v
theorem vw(sz by':Nat)(n:Int)(z:Value)(zd:D)(ho:o.op=.makeSlice t x y)(hl:sel C.P t=some (e,sz,by'))(hz:(C.P.info? e).bind (·.zero)=some z)(hzd:gP z=.d zd)(hzs:zd.cells.length=sz)
    (hx:st.fr.ev x=.d (.int .i64 n)) (hy:st.fr.ev y=.d (.int .i64 n)) (h0:0<=n) (hb:(by':Int)*n<=281474976710656) (hm:n<=9223372036854775807)
    (hs:Sim C st g a w):∃vs:Array Value,(execOp a.eval o).run C.P w=.ok (.value (.slice (some ⟨w.heap.size,0,none⟩) n.toNat n.toNat)) (w.alloc (.cells vs e))/\RowOf w g.X sz (List.replicate n.toNat zd) vs:=by
    obtain⟨inf,hu,hi,hsz,hby⟩:=zB hl;obtain⟨i',hi',hzero⟩:=cx hz;cases hi.symm.trans hi';have hvx:=hs.ev x;rw[hx]at hvx;have hvy:=hs.ev y;rw[hy]at hvy;have hrun:=run_make (P:=C.P) w t e inf z hu hi hzero .i64 .i64 n n h0 (tW _) (by rw[hby];exact hb) hm;have hzr:=oY w g z;rw[hzd]at hzr;have hzr':DRep w g.X zd z:=by cases hzr with|d _ _ h=>exact h
    obtain⟨z1,z2,z3⟩:=hzr'.cells;have hzsz:z.cells.size=sz:=z1.trans hzs
    refine ⟨madeCells z.cells (n.toNat * inf.size), ?_, (by simp [size_madeCells, hsz]),
      (λi e he=>by rw[bc]at he;split at he<;>cases he;exact hzs),
      (λi e j c he hc=>by rw[bc]at he;split at he<;>cases he;exact z2 c (fQ hc)),
      (λi e j c he hc=>by
        rw[bc]at he;split at he;rename_i hlt;cases he;obtain⟨u,hu',hd'⟩:=z3 j c hc;exact⟨u,by rw[hsz,Z9 _ _ _ _ _ hzsz hlt (by rw[<- hzs];exact(zal72q.1 hc).1)];exact hu',hd'⟩
        cases he)⟩
    simp only[execOp,ho,int_inv hvx,int_inv hvy,Sem.run_bind,hrun,Result.andThen_ok,Sem.run_pure]
theorem qFZ{K:St->Prop}(sz by':Nat)(n:Int)(z:Value)(zd:D)(ho:o.op=.makeSlice t x y)(hd:vC C.n o.dst=true)(hl:sel C.P t=some (e,sz,by'))(hz:(C.P.info? e).bind (·.zero)=some z)(hzd:gP z=.d zd)(hzs:zd.cells.length=sz)(hx:st.fr.ev x=.d (.int .i64 n))(hy:st.fr.ev y=.d (.int .i64 n))(h0:0<=n)(hb:(by':Int)*n<=281474976710656)(hm:n<=9223372036854775807)(hK:K (St.put ⟨st.fr,st.hp++[.flat e sz (List.replicate n.toNat zd)]⟩ o.dst (.msl st.hp.length sz 0 n.toNat))):OpOk C o st K:=OpOk.change λg a w hs=>by obtain⟨vs,hr,row⟩:=vw sz by' n z zd ho hl hz hzd hzs hx hy h0 hb hm hs;obtain⟨h1,h2⟩:=Km (ty:=e) hs row.le row.h0 row.h1 row.rep;refine⟨_,_,hr,_,_,hK,h1.put' hd ?_⟩;have:=h2 n.toNat aN (by simpa using row.le);simpa using this
theorem qTB(cells vs:Array Value)(off:Nat)(hfit:off+vs.size<=cells.size):(vs.zipIdx.foldl (λcs (c,j)=>cs.setIfInBounds (off+j) c) cells).toList=spl cells.toList off vs.toList:=by have key:∀(l:List Value)(k:Nat)(cs:Array Value),off+k+l.length<=cs.size->((l.zipIdx k).foldl (λ(cs:Array Value)(x:Value×Nat)=>cs.setIfInBounds (off+x.2) x.1) cs).toList=spl cs.toList (off+k) l:=(by intro l;induction l with|nil=>intro k cs _;simp[spl]|cons v r ih=>intro k cs h;simp only[kM]at h;simp only[List.zipIdx_cons,ey];rw[ih (k+1) _ iK];simp only[spl,Array.toList_setIfInBounds,kM];apply uS;intro m;simp only[kN,oF,sI,nC,zal95q,cy,iC,kM,List.getElem?_cons];have e1:min (off+(k+1)) cs.size=off+k+1:=aB;have e2:min (off+k) cs.size=off+k:=aB;rw[e1,e2];by_cases m1:m<off+k;simp[m1,show m<off+k+1 by omega,show m<off+(k+1) by omega,show ¬(off+k=m) by omega];by_cases m2:m=off+k;subst m2;simp[show off+k<cs.size by omega];simp only[m1,show ¬m<off+k+1 by omega,if_false,show ¬(m-(off+k)=0) by omega];by_cases m3:m-(off+k+1)<r.length;simp only[m3,if_true,show m-(off+k)<r.length+1 by omega];congr 1;simp only[m3,if_false,show ¬(m-(off+k)<r.length+1) by omega];rw[if_neg aB];congr 1;omega);have h:=key vs.toList 0 cells (by simpa using hfit);simp only[cg]at h;rw[<- h,<- Array.foldl_toList,Array.toList_zipIdx]
theorem Yl{w:World}{X:Nat->Prop}{sz:Nat}:∀(ds:List D)(vs:List Value)(k:Nat)(cells:Array Value),Pw (DRep w X) ds vs->(∀d∈ds,d.cells.length=sz)->(k+ds.length)*sz<=cells.size->
    ∃ res, Instr.fill (fun i => some (i * sz, sz)) cells ((vs.zipIdx k).map fun x => (x.2, x.1)) = some res /\ res.size = cells.size /\ (∀ m, m < k * sz -> res[m]? = cells[m]?) /\
      ∀(i:Nat)(e:D)(j:Nat)(c:D),ds[i]?=some e->e.cells[j]?=some c->∃v,res[(k+i)*sz+j]?=some v/\DRep w X c v
  |[],vs,k,cells,hp,_,_=>by
    have:vs=[]:=x7 (by simpa using hp.1.symm);subst this;exact⟨cells,by simp[Instr.fill],rfl,λ_ _=>rfl,λi e j c he _=>Jt⟩
  |d::ds,[],k,cells,hp,_,_=>by have:=hp.1;simp at this
  |d::ds,v::vs,k,cells,hp,hs,hl=>by
    have hd:DRep w X d v:=hp.2 0 d v rfl rfl;obtain⟨d1,d2,d3⟩:=hd.cells;have hds:d.cells.length=sz:=hs d aN;have hvs:v.cells.size=sz:=d1.trans hds;simp only[kM]at hl;have e1:(k+(ds.length+1))*sz=k*sz+sz+ds.length*sz:=by rw[sM,sM];omega
    rw[e1]at hl;have hf:=qTB cells v.cells (k*sz) aB;generalize hc':v.cells.zipIdx.foldl (λcs (c,j)=>cs.setIfInBounds (k*sz+j) c) cells=cells' at hf
    have hsz':cells'.size=cells.size:=by
      have:=congrArg List.length hf;simp only[cy,spl,sH,oF,D1]at this;omega
    have hget:∀m,cells'[m]?=if m<k*sz then cells[m]? else if m<k*sz+sz then v.cells[m-k*sz]? else cells[m]?:=by
      intro m;rw[<- Array.getElem?_toList,hf];simp only[spl,kN,oF,cy,sI,nC,qRI,hvs];have hmin:min (k*sz) cells.size=k*sz:=aB
      rw[hmin];by_cases m1:m<k*sz;simp[m1];rw[if_neg m1,if_neg m1];by_cases m2:m<k*sz+sz;rw[if_pos aB,if_pos m2];rw [if_neg aB, if_neg m2]
      congr 1
      omega
    obtain ⟨res, r1, r2, r3, r4⟩ := Yl (w := w) (X := X) (sz := sz) ds vs (k + 1) cells' ⟨by have := hp.1; simpa using this, fun i x y hx hy => hp.2 (i + 1) x y yd yR⟩
      (λx hx=>hs x (by simp[hx])) (by rw[hsz',sM,sM,Nat.one_mul];omega)
    refine⟨res,?_,r2.trans hsz',λm hm=>?_,λi e j c he hc=>?_⟩;simp only[List.zipIdx_cons,iW,Instr.fill];rw[if_neg (by simp only[hvs,ne_eq,not_true,lP,decide_eq_true_eq,false_or,decide_false,kV];omega)];rw[hc'];exact r1;rw[r3 m (by rw[sM];omega),hget,if_pos hm]
    cases i with
    |zero=>
      simp only[qDH,jA]at he;subst he;obtain⟨u,hu,hdu⟩:=d3 j c hc;have hj:j<sz:=by rw[<- hds];exact(zal72q.1 hc).1
      refine⟨u,?_,hdu⟩;rw[cg,r3 _ (by rw[sM];omega),hget,if_neg aB,if_pos aB,show k*sz+j-k*sz=j by omega];exact hu
    |succ i=>
      obtain⟨u,hu,hdu⟩:=r4 i e j c (by simpa using he) hc;exact⟨u,by rw[show k+(i+1)=k+1+i by omega];exact hu,hdu⟩
def vD(parts:Array (Nat×Operand))(xs:List Operand):Prop:=parts.toList=(xs.zipIdx 0).map λx=>(x.2,x.1)
theorem qTC(hs:Sim C st g a w):∀(xs:List Operand)(ds:List D),xs.map st.fr.ev=ds.map AV.d->Pw (DRep w g.X) ds (xs.map a.eval)
  |[],ds,h=>by
    have:ds=[]:=by simpa using h.symm
    subst this;exact⟨rfl,λi x y hx=>Js⟩
  |x::xs,[],h=>nV
  |x::xs,d::ds,h=>by
    simp only[iW,jJ]at h;have ih:=qTC hs xs ds h.2;refine⟨by simpa using ih.1,λi y v hy hv=>?_⟩
    cases i with
    |zero=>
      simp at hy hv;subst hy hv;have:=hs.ev x;rw[h.1]at this;cases this with|d _ _ h=>exact h
    |succ i=>exact ih.2 i y v yR tZ
theorem run_lit(w:World)(t e:TypeId)(len:Nat)(parts:Array (Nat×Value))(cells:Array Value)(ie:TypeInfo)(z:Value)(hu:P.underlying t=some (.slice e))(hie:P.info? e=some ie)(hz:ie.zero=some z)(hsmall:len*ie.size<=16777216)(h:Instr.fill (λi=>some (i*ie.size,ie.size)) ((Array.range (len*ie.size)).map (z.cells[·%z.cells.size]!)) parts.toList=some cells):(Instr.buildSlice t len parts).run P w=.ok (.slice (some ⟨w.heap.size,0,none⟩) len len) (w.alloc (.cells cells e)):=by by_cases h0:len*ie.size=0;have hz0:∀f:Nat->Value,(Array.range (len*ie.size)).map f=#[]:=λf=>(by rw[h0];simp);rw[hz0]at h;unfold Instr.buildSlice;simp only[Sem.run_bind,run_underlying hu,Result.andThen_ok,sizeOf,typeInfo,run_program,hie,Sem.run_pure,hz0];rw[if_neg aB,if_pos h0];simp[h,newRow];exact run_buildSlice w t e len parts cells ie z hu hie hz aB h0 h
theorem Dn(sz by':Nat)(xs:List Operand)(ds:List D)(z:Value)(ho:o.op=.buildSlice t n parts)(hl:sel C.P t=some (e,sz,by'))(hz:(C.P.info? e).bind (·.zero)=some z)(hp:vD parts xs)(hx:xs.map st.fr.ev=ds.map AV.d)(hn:ds.length=n)(hs:∀d∈ds,d.cells.length=sz)(hsmall:n*sz<=16777216)(hsim:Sim C st g a w):∃vs:Array Value,(execOp a.eval o).run C.P w=.ok (.value (.slice (some ⟨w.heap.size,0,none⟩) n n)) (w.alloc (.cells vs e))/\RowOf w g.X sz ds vs/\vs.size=n*sz:=by obtain⟨inf,hu,hi,hsz,hby⟩:=zB hl;obtain⟨i',hi',hzero⟩:=cx hz;cases hi.symm.trans hi';have hpw:=qTC hsim xs ds hx;have hparts:(parts.map λ(i,x)=>(i,a.eval x)).toList=((xs.map a.eval).zipIdx 0).map λx=>(x.2,x.1):=(by rw[fb,hp,List.zipIdx_map,Gc,Gc];rfl);obtain⟨res,r1,r2,_,r4⟩:=Yl (w:=w) (X:=g.X) (sz:=sz) ds (xs.map a.eval) 0 ((Array.range (n*sz)).map (z.cells[·%z.cells.size]!)) hpw hs (by simp[hn]);have hones:∀(i:Nat)(e:D)(j:Nat)(c:D),ds[i]?=some e->e.cells[j]?=some c->c.one=true:=(by intro i e j c he hc;have hlt:i<(xs.map a.eval).length:=(by rw[<- hpw.1];exact(zal72q.1 he).1);exact((hpw.2 i e _ he (jT hlt)).cells).2.1 c (fQ hc));refine⟨res,?_,⟨by rw[r2];simp[hn],λi e he=>hs e (fQ he),hones,λi e j c he hc=>by simpa using r4 i e j c he hc⟩,by rw[r2];simp⟩;have hrun:=run_lit (P:=C.P) w t e n (parts.map λ(i,x)=>(i,a.eval x)) res inf z hu hi hzero (by rw[hsz];exact hsmall) (by rw[hsz,hparts];exact r1);simp only[execOp,ho,Sem.run_bind,hrun,Result.andThen_ok,Sem.run_pure]
theorem Z5{K:St->Prop}(sz by':Nat)(xs:List Operand)(ds:List D)(z:Value)(ho:o.op=.buildSlice t n parts)(hd:vC C.n o.dst=true)(hl:sel C.P t=some (e,sz,by'))(hz:(C.P.info? e).bind (·.zero)=some z)(hp:vD parts xs)(hx:xs.map st.fr.ev=ds.map AV.d)(hn:ds.length=n)(hs:∀d∈ds,d.cells.length=sz)(hsmall:n*sz<=16777216)(hK:K (St.put ⟨st.fr,st.hp++[.flat e sz ds]⟩ o.dst (.msl st.hp.length sz 0 n))):OpOk C o st K:=OpOk.change λg a w hsim=>by obtain⟨vs,hr,row,hsz⟩:=Dn sz by' xs ds z ho hl hz hp hx hn hs hsmall hsim;obtain⟨h1,h2⟩:=Km (ty:=e) hsim row.le row.h0 row.h1 row.rep;exact⟨_,_,hr,_,_,hK,h1.put' hd (by have:=h2 n aB (by rw[hsz];exact fY _);rwa [hn]at this)⟩
theorem Qb(h:sel P t=some (e,s,by'))(w:World)(ty:TypeId)(b b':Option Addr)(n cap cap':Nat)(hle:n<=cap):(Builtin.append_ #[t,t] ty #[.slice b n cap,.slice b' 0 cap']).run P w=.ok (.slice b n cap) w:=by obtain⟨inf,hu,hi,hs,_⟩:=zB h;have hf:(Builtin.firstCells inf.size 0 (.slice b' 0 cap')).run P w=.ok #[] w:=(by cases b' with|none=>simp[Builtin.firstCells]|some ad=>have:=run_firstCells_some (P:=P) w inf.size 0 ad 0 cap' [] aN (λj v hv=>by simp at hv);simpa using this);cases b with|none=>simp[Builtin.append_,run_underlying hu,sizeOf,typeInfo,hi,Builtin.lenOf,hle,hf]|some ad=>simp[Builtin.append_,run_underlying hu,sizeOf,typeInfo,hi,Builtin.lenOf,hle,hf,storeCells]
theorem tJ(ho:o.op=.call { callee:=.builtin .append,args:=#[x,y],argTypes:=#[t,t] })(hr:(Builtin.append_ #[t,t] o.type #[a.eval x,a.eval y]).run P w=.ok v w'):(execOp a.eval o).run P w=.ok (.value v) w':=by simp only[execOp,ho];simp[resolve,invoke,builtin,hr]
theorem qCE(olds news:List Value)(zs:Array Value)(m:Nat):(olds.toArray++news.toArray++zs)[m]?=if m<olds.length then olds[m]? else if m<olds.length+news.length then news[m-olds.length]? else zs[m-(olds.length+news.length)]?:=by simp only[Jo,Vy,Im,gq];by_cases m1:m<olds.length;simp[m1,show m<olds.length+news.length by omega];simp only[m1,if_false]
variable {C:Ctx}{st:St}{g:Gh}{a:Act}{w:World}{P:Program}
theorem qJW(i:Nat)(j:Nat)(h:st.hp[j]?=some B):(st.purge i).hp[j]?=some (B.mapRef (purge i)):=by simp[St.purge,h]
theorem Ox(id sz by' n:Nat)(es ds:List D)(z:Value)(ho:o.op=.call { callee:=.builtin .append,args:=#[x,y],argTypes:=#[t,t] })(hl:sel P t=some (e,sz,by'))
    (hz:(P.info? e).bind (·.zero)=some z) (hzs:z.cells.size=sz) (hvx:ARep w g (.msl id sz 0 n) (a.eval x)) (hblk:BRep w g id (.flat e sz es)) (hn:n=es.length) (hsrc:Src w g.X sz ds (a.eval y))
    (hlen:(es.length+ds.length)*by'<=140737488355328) (hlen':es.length+ds.length<=9223372036854775807):
    ∃v w',(execOp a.eval o).run P w=.ok (.value v) w'/\
      ((ds = [] /\ v = a.eval x /\ w' = w) \/
       (∃b cells cells' cap,g.phi id=some b/\w.heap[b]?=some (.cells cells e (0,0))/\g.psi id=cells.size/\cells'.size=cells.size/\v=.slice (some ⟨b,0,none⟩) (es.length+ds.length) cap/\es.length+ds.length<=cap/\cap*sz<=cells.size/\w'=w.setRow b cells'/\RowOf w g.X sz (es++ds) cells')\/
       (∃cells' cap,v=.slice (some ⟨w.heap.size,0,none⟩) (es.length+ds.length) cap/\es.length+ds.length<=cap/\cap*sz<=cells'.size/\w'=w.drew.alloc (.cells cells' e)/\RowOf w g.X sz (es++ds) cells')):=by
    obtain⟨inf,hun,hi,hsz,hby⟩:=zB hl;obtain⟨i',hi',hzero⟩:=cx hz;cases hi.symm.trans hi'
    have zero:ds=[]->(∃ad cap,a.eval y=.slice ad 0 cap)->∃v w',(execOp a.eval o).run P w=.ok (.value v) w'/\(ds=[]/\v=a.eval x/\w'=w):=by
      intro hds ⟨ad,cap,hey⟩;subst hds
      have hexv:∃b cap',a.eval x=.slice b n cap'/\n<=cap':=by
        generalize a.eval x=vx at *
        cases hvx with
        |msl0=>exact⟨_,_,rfl,fY _⟩
        |msl _ _ _ _ cap b h1 h2 h3=>exact⟨_,_,rfl,h2⟩
      obtain⟨b,cap',hex,hle⟩:=hexv;have hr:=Qb hl w o.type b ad n cap' cap hle;rw[<- hex,<- hey]at hr;exact⟨_,_,tJ ho hr,rfl,rfl,rfl⟩
    rcases hsrc with⟨ad,cap,hey,hds⟩|⟨ad,cap,news,hey,n1,n2,n3,n4,n5,n6⟩
    obtain⟨v,w',h1,h2⟩:=zero hds ⟨ad,cap,hey⟩;exact⟨v,w',h1,.inl h2⟩;by_cases hm:ds.length=0;obtain⟨v,w',h1,h2⟩:=zero (x7 hm) ⟨some ad,cap,by rw[hm]at hey;exact hey⟩;exact⟨v,w',h1,.inl h2⟩;clear zero
    have hes:∀(i:Nat)(d:D),(es++ds)[i]?=some d->(i<es.length/\es[i]?=some d)\/(es.length<=i/\ds[i-es.length]?=some d):=by
      intro i d h;rw[kN]at h;split at h;exact .inl ⟨‹_›,h⟩;exact .inr ⟨aB,h⟩
    have holds:∃olds:List Value,olds.length=es.length*sz/\(∀(b:Nat)(cells:Array Value),g.phi id=some b->w.heap[b]?=some (.cells cells e (0,0))->∀(j:Nat)(u:Value),olds[j]?=some u->cells[j]?=some u)/\
        (∀(i:Nat)(d:D),es[i]?=some d->d.cells.length=sz)/\(∀(i:Nat)(d:D)(j:Nat)(c:D),es[i]?=some d->d.cells[j]?=some c->c.one=true)/\
        ∀(i:Nat)(d:D)(j:Nat)(c:D),es[i]?=some d->d.cells[j]?=some c->∃v,olds[i*sz+j]?=some v/\DRep w g.X c v:=by
      rcases hblk with⟨he,hn'⟩|⟨b,cells,hp,hw,hpsi,hl',h0,h1,hr⟩
      subst he;exact⟨[],aN,λ_ _ _ _ j u hu=>by simp at hu,λi d h=>nV,λi d j c h=>nV,λi d j c h=>nV⟩;obtain ⟨olds, o1, o2, _, o4⟩ := qEZ (w := w) (X := g.X) (fun m => cells[m]?) h0 h1 hr;refine⟨olds,o1,λb' cells' hp' hw' j u hu=>?_,h0,h1,o4⟩;cases hp.symm.trans hp';rw[hw]at hw';cases hw';exact o2 j u hu
    obtain⟨olds,o1,o2,o3,o4,o5⟩:=holds
    have hsizes:∀(i:Nat)(d:D),(es++ds)[i]?=some d->d.cells.length=sz:=λi d h=>by
      rcases hes i d h with⟨_,h⟩|⟨_,h⟩
      exact o3 i d h;exact n4 _ d h
    have hones:∀(i:Nat)(d:D)(j:Nat)(c:D),(es++ds)[i]?=some d->d.cells[j]?=some c->c.one=true:=λi d j c h hc=>by
      rcases hes i d h with⟨_,h⟩|⟨_,h⟩
      exact o4 i d j c h hc;exact n5 _ d j c h hc
    have hlap:(es.length+ds.length)*sz=es.length*sz+ds.length*sz:=sM _ _ _
    have hcells:∀f:Nat->Option Value,(∀m,m<es.length*sz->f m=olds[m]?)->(∀m,m<ds.length*sz->f (es.length*sz+m)=news[m]?)->
        ∀(i:Nat)(d:D)(j:Nat)(c:D),(es++ds)[i]?=some d->d.cells[j]?=some c->∃v,f (i*sz+j)=some v/\DRep w g.X c v:=by
      intro f f1 f2 i d j c h hc;have hj:j<sz:=by rw[<- hsizes i d h];exact(zal72q.1 hc).1
      rcases hes i d h with⟨hlt,h⟩|⟨hge,h⟩
      obtain⟨v,hv,hd⟩:=o5 i d j c h hc;exact⟨v,by rw[f1 _ (by rw[<- o1];exact(zal72q.1 hv).1)];exact hv,hd⟩;obtain⟨v,hv,hd⟩:=n6 _ d j c h hc;refine⟨v,?_,hd⟩;have hsub:i*sz=es.length*sz+(i-es.length)*sz:=by rw[<- Nat.add_mul];congr 1;omega
      rw[hsub,gn,f2 _ (by rw[<- n1];exact(zal72q.1 hv).1)];exact hv
    have grown:∀(zs:Array Value)(cap':Nat),es.length+ds.length<=cap'->zs.size=(cap'-(es.length+ds.length))*sz->
        cap'*sz<=(olds.toArray++news.toArray++zs).size/\RowOf w g.X sz (es++ds) (olds.toArray++news.toArray++zs):=by
      intro zs cap' hcap hzz
      have htot:(olds.toArray++news.toArray++zs).size=cap'*sz:=by
        simp only[Im,gq,o1,n1,hzz,<- Nat.add_mul]
        congr 1
        omega
      refine⟨Nat.le_of_eq htot.symm,?_,hsizes,hones,λi d j c h hc=>?_⟩;rw[htot,sH];exact sL _ hcap;exact hcells (λm=>(olds.toArray++news.toArray++zs)[m]?) (λm hm=>by rw[qCE,if_pos aB]) (λm hm=>by rw[qCE,if_neg aB,if_pos aB];congr 1;omega) i d j c h hc
    have hzsz:∀k,(Builtin.zeroCells z.cells k).size=k*sz:=λk=>by rw[size_zeroCells,hzs]
    generalize hex:a.eval x=vx at hvx
    cases hvx with
    |msl0 _ _ _ ad0=>
      have hes0:es=[]:=x7 hn.symm;have holds0:olds=[]:=x7 (by rw[o1,hes0];simp);have hgr:=grown (Builtin.zeroCells z.cells (grownCap w ds.length 0 e-ds.length)) (grownCap w ds.length 0 e) zaP79q (by rw[hzsz,hes0];simp);have hcap:es.length+ds.length<=grownCap w ds.length 0 e:=zaP79q
      rw[hes0,holds0]at hgr;rw[hes0]at hlen hlen' hcap;simp only[rA,iO]at hlen hlen' hcap;have he:(#[]:Array Value)++news.toArray++Builtin.zeroCells z.cells (grownCap w ds.length 0 e-ds.length)=news.toArray++Builtin.zeroCells z.cells (grownCap w ds.length 0 e-ds.length):=aN
      rw[show([]:List Value).toArray=#[]from rfl,he]at hgr
      have fin:∃cells' cap,(Value.slice (some ⟨w.heap.size,0,none⟩) ds.length (grownCap w ds.length 0 e))=.slice (some ⟨w.heap.size,0,none⟩) (es.length+ds.length) cap/\es.length+ds.length<=cap/\cap*sz<=cells'.size/\w.drew.alloc (.cells (news.toArray++Builtin.zeroCells z.cells (grownCap w ds.length 0 e-ds.length)) e)=w.drew.alloc (.cells cells' e)/\RowOf w g.X sz (es++ds) cells':=
        ⟨_,_,by rw[hes0];simp,by rw[hes0];simpa using hcap,hgr.1,rfl,by rw[hes0];exact hgr.2⟩
      cases ad0 with
      |none=>
        have hr:=run_append_nil (P:=P) w t o.type e inf z hun hi hzero ad ds.length cap news (by rw[n1,hsz]) n2 aB aB (by rw[hby];omega);rw[<- hex,<- hey]at hr;exact⟨_,_,tJ ho hr,.inr (.inr fin)⟩
      |some b0=>
        have hr := run_append_grow (P := P) w t o.type e inf z hun hi hzero b0 0 0 [] aN (fun j v hv => by simp at hv) ad ds.length cap news (by rw [n1, hsz]) n2 aB aB
          (by rw[hby,iO,nextslicecap_zero aB];omega)
        rw[<- hex,<- hey]at hr;simp only[iO]at hr;rw[show([]:List Value).toArray=#[]from rfl,he]at hr;exact⟨_,_,tJ ho hr,.inr (.inr fin)⟩
    |msl _ _ _ _ cap0 b hbp hc hpsz=>
      rw[iO]at hpsz;rw[F7]at hex;rcases hblk with⟨_,hn'⟩|⟨b',cells,hp',hw,hpsi,hl',h0,h1,hr0⟩
      rw[hbp]at hn';cases hn';cases hbp.symm.trans hp';have hold2:=o2 b cells hbp hw;by_cases hroom:n+ds.length<=cap0
      have hfit:n*inf.size+news.length<=cells.size:=by
        rw[n1,hsz,<- Nat.add_mul,<- hpsi];exact eR (sL _ hroom) hpsz
      have hr:=run_append_room (P:=P) w t o.type e inf hun hi b n cap0 cells hw ad ds.length cap news (by rw[n1,hsz]) n2 n3 hroom hfit;rw[<- hex,<- hey]at hr;have hfit':n*sz+news.length<=cells.size:=by rw[hsz]at hfit;exact hfit
      have hget:∀m,m<n*sz+news.length->(cells.toList.take (n*inf.size)++news++cells.toList.drop (n*inf.size+news.length)).toArray[m]?=if m<n*sz then cells[m]? else news[m-n*sz]?:=by
        intro m hm;simp only[Vy,kN,sH,oF,cy,sI,qRI,hsz];have hmin:min (n*sz) cells.size=n*sz:=aB
        rw[hmin,if_pos hm];by_cases m1:m<n*sz;simp[m1];simp[m1]
      refine⟨_,_,tJ ho hr,.inr (.inl ⟨b,cells,(cells.toList.take (n*inf.size)++news++cells.toList.drop (n*inf.size+news.length)).toArray,cap0,hbp,hw,hpsi,?_,by rw[hn],aB,by rw[<- hpsi];exact hpsz,rfl,?_,hsizes,hones,?_⟩)⟩;simp only[gq,sH,oF,D1,cy,hsz];omega;simp only[gq,sH,oF,D1,cy,hsz];rw[hlap];rw[hn,n1]at hfit';rw[hn,n1];omega
      exact hcells (λm=>(cells.toList.take (n*inf.size)++news++cells.toList.drop (n*inf.size+news.length)).toArray[m]?) (λm hm=>by
          show(cells.toList.take (n*inf.size)++news++cells.toList.drop (n*inf.size+news.length)).toArray[m]?=_;rw[hget m (by rw[hn];omega),if_pos (by rw[hn];exact hm)];have hlt:m<olds.length:=by rw[o1];exact hm
          rw[jT hlt]
          exact hold2 m _ (jT hlt)) (λm hm=>by
          show(cells.toList.take (n*inf.size)++news++cells.toList.drop (n*inf.size+news.length)).toArray[_]?=_
          rw[hget _ (by rw[hn,n1];omega),if_neg (by rw[hn];omega)];congr 1;rw[hn];omega)
      have hr := run_append_grow (P := P) w t o.type e inf z hun hi hzero ⟨b, 0, none⟩ n cap0 olds (by rw [o1, hsz, hn]) (fun j v hv => by
          rw[zR,cell_of_row w b _ cells e (0,0) hw];simpa using hold2 j v hv) ad ds.length cap news (by rw[n1,hsz]) n2 aB aB
        (by rw[hby];exact growslice_fits aB (by rw[hn];exact hlen))
      rw[<- hex,<- hey]at hr;refine⟨_,_,tJ ho hr,.inr (.inr ⟨_,_,by rw[hn],by simpa[hn]using grownCap_ge w (es.length+ds.length) cap0 e,?_,rfl,?_⟩)⟩;rw[hn];exact(grown _ _ zaP67q (by rw[hzsz])).1;rw[hn];exact(grown _ _ zaP67q (by rw[hzsz])).2
theorem Z6{K:St->Prop}(id sz by' n:Nat)(u:AV)(es ds:List D)(z:Value)(ho:o.op=.call { callee:=.builtin .append,args:=#[x,y],argTypes:=#[t,t] })(hd:vC C.n o.dst=true)(hl:sel C.P t=some (e,sz,by'))(hz:(C.P.info? e).bind (·.zero)=some z)(hzs:z.cells.size=sz)(hx:st.fr.ev x=.msl id sz 0 n)(hb:st.hp[id]?=some (.flat e sz es))(hn:n=es.length)(hmv:id<C.k->C.mv id=true)(hy:st.fr.ev y=u)(hu:SrcA st.hp sz ds u)(hlen:(es.length+ds.length)*by'<=140737488355328)(hlen':es.length+ds.length<=9223372036854775807)(hK:K (St.put ⟨(st.purge id).fr,(st.purge id).hp.set id (.flat e sz (es++ds))⟩ o.dst (.msl id sz 0 (es.length+ds.length)))):OpOk C o st K:=OpOk.change λg a w hsim=>by have hid:=(zal72q.1 hb).1;have hvx:=hsim.ev x;rw[hx]at hvx;have hvy:=hsim.ev y;rw[hy]at hvy;have hpurge:=hsim.purge id;obtain⟨v,w',hr,hc⟩:=Ox (P:=C.P) id sz by' n es ds z ho hl hz hzs hvx (hsim.hp id _ hb) hn (src_ok hsim hvy hu) hlen hlen';refine⟨v,w',hr,?_⟩;rcases hc with⟨hds,rfl,rfl⟩|⟨b,cells,cells',cap,hp0,hw,hpsi,hcs,rfl,hcap,hcapsz,rfl,row⟩|⟨cells',cap,rfl,hcap,hcapsz,rfl,row⟩;subst hds;have hset:(st.purge id).hp.set id (.flat e sz (es++[]))=(st.purge id).hp:=(by apply uS;intro m;rw[iC];split;rename_i hm;subst hm;rw[qJW id id hb,if_pos (by simpa[St.purge]using hid)];simp[Blk.mapRef];rfl);refine⟨_,g,hK,Sim.put' ?_ hd (by simpa[hn]using hvx)⟩;rw[hset];exact hpurge;have hX:∀b',g.X b'->b'≠b:=λb' hX e=>(hsim.lt id b hp0).2.2 (e ▸ hX);have hchange:=hpurge.change (i:=id) (b:=b) (qJW id id hb) (λe=>by cases e) hp0 (w':=w.setRow b cells') (eg _ _ _) rfl rfl rfl (fY _) (λb' hb'=>setRow_other w b b' _ hb') (B:=.flat e sz (es++ds)) (.inr ⟨b,cells',hp0,setRow_heap w b cells _ e (0,0) hw,by rw[hpsi,hcs],row.le,row.h0,row.h1,λk d j c hk hc=>?_⟩);refine⟨_,_,hK,hchange.put' hd ?_⟩;have:=ARep.msl (w:=w.setRow b cells') (g:=g) id sz 0 (es.length+ds.length) cap b hp0 hcap (by rw[hpsi,iO];exact hcapsz);simpa using this;obtain⟨v,hv,hd⟩:=row.rep k d j c hk hc;exact⟨v,hv,hd.mono (λ_ h=>h) λb' hb'=>setRow_other w b b' _ (hX b' hb')⟩;have hB:BRep (w.drew.alloc (.cells cells' e)) (g.new id w.heap.size cells'.size) id (.flat e sz (es++ds)):=.inr ⟨w.heap.size,_,oH,heap_alloc_new w.drew _,oH,row.le,row.h0,row.h1,λk d j c hk hc=>by obtain⟨v,hv,hd⟩:=row.rep k d j c hk hc;exact⟨v,hv,hd.mono (λ_ h=>h) λb hb=>iU w.drew _ b (hsim.Xlt b hb)⟩⟩;refine⟨_,_,hK,(hsim.drew.move (o:=.cells cells' e) hid hmv hB).put' hd ?_⟩;have:=ARep.msl (w:=w.drew.alloc (.cells cells' e)) (g:=g.new id w.heap.size cells'.size) id sz 0 (es.length+ds.length) cap w.heap.size oH hcap (by rw[iO];simpa[Gh.new,upd]using hcapsz);simpa using this
variable {C:Ctx}{st:St}{g:Gh}{a:Act}{w:World}{P:Program}
def QN(C:Ctx)(K:St->Prop):Exit->Act->World->Prop
  |.normal,a,w=>Sat C K a w
  |_,_,_=>False
def cP(C:Ctx)(ops:Array Oper)(l:List Oper)(st:St)(K:St->Prop):Prop:=∀g a w,Sim C st g a w->wpList C.P ops (QN C K) l a w
theorem TN{ops:Array Oper}{K:St->Prop}(h:K st):cP C ops [] st K:=λg _ _ hs=>⟨st,g,h,hs⟩
theorem gW{ops:Array Oper}{l:List Oper}{K:St->Prop}(hg:o.guard=none)(h:OpOk C o st λst'=>cP C ops l st' K):cP C ops (o::l) st K:=by intro g a w hs;unfold wpList;rw[if_pos (by simp[Region.wanted,hg])];exact .inl (Oper.wp_mono (λa w ⟨st',g',hK,hs'⟩=>hK g' a w hs') (h g a w _ hs))
theorem Nz{ops:Array Oper}{t:Nat}(hs:Sim C st g a w)(ht:(ops[i]?).bind (·.dst)=some t)(hv:st.fr.get t=.und):yielded ops a.tmps i=none:=by have h:=hs.fr t;rw[hv]at h;have he:a.tmps.getD t undef=undef:=(by generalize a.tmps.getD t undef=v at *;cases h;rfl);unfold yielded;rw[ht];rw[Jp]at he;cases ho:a.tmps[t]? with|none=>simp[ho]|some v=>rw[ho]at he;simp only[sK]at he;subst he;simp[ho,undef]
def TWp(C:Ctx)(c:Code)(st:St)(Q:Exit->St->Prop):Prop:=∀g a w,Sim C st g a w->c.wp C.P (λe a' w'=>∃st' g',Q e st'/\Sim C st' g' a' w') a w
def yV(next:St->Prop)(Q:Exit->St->Prop):Exit->St->Prop
  |.normal,st=>next st
  |e,st=>Q e st
def er(id:Nat)(Q:Exit->St->Prop):Exit->St->Prop
  |.exit id',st=>if id'=id then Q .normal st else Q (.exit id') st
  |e,st=>Q e st
theorem TWp.mono{Q':Exit->St->Prop}(h:TWp C c st Q)(hq:∀e st,Q e st->Q' e st):TWp C c st Q':=λg a w hs=>Go.wp_mono (h g a w hs) λ_ _ _ ⟨st',g',hQ,hs'⟩=>⟨st',g',hq _ _ hQ,hs'⟩
theorem TG{ops:Array Oper}(h:cP C ops ops.toList st (Q .normal)):TWp C (.region id ops false) st Q:=λg a w hs=>by refine Go.wp_mono (wp_region_list (h g a w hs)) ?_;intro e a' w' hq;cases e with|normal=>exact hq|_=>exact hq.elim
theorem TQ{x y:Code}(h:TWp C x st (yV (λst'=>TWp C y st' Q) Q)):TWp C (.seq x y) st Q:=λg a w hs=>by refine wp_seq (Go.wp_mono (h g a w hs) ?_);intro e a' w' hq;obtain⟨st',g',hQ,hs'⟩:=hq;cases e with|normal=>exact hQ g' a' w' hs'|exit id=>exact⟨st',g',hQ,hs'⟩|goto l=>exact⟨st',g',hQ,hs'⟩|ret=>exact⟨st',g',hQ,hs'⟩|panic ch=>exact⟨st',g',hQ,hs'⟩|outgrown=>exact⟨st',g',hQ,hs'⟩
theorem RS{ops:Array Oper}{y:Code}(h:cP C ops ops.toList st λst'=>TWp C y st' Q):TWp C (.seq (.region id ops false) y) st Q:=TQ (TG h)
theorem TS(h:Q .normal st):TWp C .skip st Q:=λg _ _ hs=>wp_skip ⟨st,g,h,hs⟩
theorem Wt(h:Q (.exit id) st):TWp C (.exit id) st Q:=λg _ _ hs=>wp_exit ⟨st,g,h,hs⟩
theorem TR(h:Q .ret st):TWp C .ret st Q:=λg _ _ hs=>wp_ret ⟨st,g,h,hs⟩
theorem TC{c:Operand}{x y:Code}(b:Bool)(hc:st.fr.ev c=.d (.bool b))(h1:b=true->TWp C x st Q)(h2:b=false->TWp C y st Q):TWp C (.cond c x y) st Q:=λg a w hs=>by have h:=hs.ev c;rw[hc]at h;refine Go.wp_cond (bool_inv h) ?_;cases b;exact h2 rfl g a w hs;exact h1 rfl g a w hs
theorem TB(h:TWp C c st (er id Q)):TWp C (.block id c) st Q:=λg a w hs=>by refine Go.wp_block (Go.wp_mono (h g a w hs) ?_);intro e a' w' hq;obtain⟨st',g',hQ,hs'⟩:=hq;cases e with|exit id'=>simp only[Exit.inBlock];simp only[er]at hQ;split;rename_i h;rw[if_pos h]at hQ;exact⟨st',g',hQ,hs'⟩;rename_i h;rw[if_neg h]at hQ;exact⟨st',g',hQ,hs'⟩|normal=>exact⟨st',g',hQ,hs'⟩|goto l=>exact⟨st',g',hQ,hs'⟩|ret=>exact⟨st',g',hQ,hs'⟩|panic ch=>exact⟨st',g',hQ,hs'⟩|outgrown=>exact⟨st',g',hQ,hs'⟩
theorem twp_loop(I:Nat->St->Prop)(n:Nat)(h0:I n st)(round:∀n st,I n st->TWp C c st (yV (λst'=>∃m,m<n/\I m st') Q)):TWp C (.loop c) st Q:=λg a w hs=>by refine wp_loop_ghost (λn a w=>∃st g,I n st/\Sim C st g a w) n ⟨st,g,h0,hs⟩ ?_;rintro n a w ⟨st,g,hI,hs⟩;refine Go.wp_mono (round n st hI g a w hs) ?_;intro e a' w' hq;obtain⟨st',g',hQ,hs'⟩:=hq;cases e with|normal=>obtain⟨m,hm,hI'⟩:=hQ;exact⟨m,hm,st',g',hI',hs'⟩|exit id=>exact⟨st',g',hQ,hs'⟩|goto l=>exact⟨st',g',hQ,hs'⟩|ret=>exact⟨st',g',hQ,hs'⟩|panic ch=>exact⟨st',g',hQ,hs'⟩|outgrown=>exact⟨st',g',hQ,hs'⟩
theorem yy(ks ids:List Nat)(hnd:ids.Nodup)(hk:∀i,i<C.k->ids[i]?=some i)(h:TWp C c (st.canon ks ids) Q):TWp C c st Q:=λ_ a w hs=>h _ a w (hs.canon ks ids hnd hk)
theorem twp_keep(ks:List Nat)(h:TWp C c ⟨Fr.keep ks st.fr,st.hp⟩ Q):TWp C c st Q:=λg a w hs=>h g a w (hs.forget (Fr.get_keep st.fr ks))
theorem Sim.upgrade(h:Sim C st g a w)(t ty sz:Nat)(ht:st.fr.get t=.d .nilsl):Sim C ⟨(t,.msl st.hp.length sz 0 0)::st.fr,st.hp++[.flat ty sz []]⟩ g a w:=by refine{ h.virt ty sz with fr:=λt'=>?_ };simp only[Fr.get];split;rename_i e;subst e;have h1:=h.fr t;rw[ht]at h1;generalize a.tmps.getD t undef=v at *;(cases h1 with|d _ _ h=>cases h;exact .msl0 _ _ _ _);exact h.fr t'
theorem Ef(t ty sz:Nat)(ht:st.fr.get t=.d .nilsl)(h:TWp C c ⟨(t,.msl st.hp.length sz 0 0)::st.fr,st.hp++[.flat ty sz []]⟩ Q):TWp C c st Q:=λg a w hs=>h g a w (hs.upgrade t ty sz ht)
def noSlots:Act:={ tmps:=#[],defers:=[] }
def Out(C:Ctx)(hp:List Blk)(g:Gh)(w:World):Prop:=Sim { C with n:=0 } ⟨[],hp⟩ g noSlots w
theorem Sim.out(h:Sim C st g a w)(h0:C.g0.df=[]):Out C st.hp g w:={ h with defers:=h0.symm,size:=rfl,fr:=λ_=>.junk _,hp:=h.hp,lt:=h.lt,inj:=h.inj,kle:=h.kle }
theorem Out.sim{hp:List Blk}{fr:Fr}(h:Out C hp g w)(hd:a.defers=C.g0.df)(hs:a.tmps.size=C.n)(hf:∀t,ARep w g (fr.get t) (a.tmps.getD t undef)):Sim C ⟨fr,hp⟩ g a w:={ h with defers:=hd,size:=hs,fr:=hf,hp:=h.hp,lt:=h.lt,inj:=h.inj,kle:=h.kle }
def tR(P:Program)(F:FuncId):Bool:=
  match P.funcs[F]? with
  | some fn => !(fn.name == "runtime.NumGoroutine") && fn.body.isSome
  |none=>false
def Ret(P:Program)(F:FuncId)(hp:List Blk)(mv:Nat->Bool)(args:List AV)(r:AV)(hp':List Blk):Prop:=tR P F=true/\∀(w:World)(g:Gh)(vs:Array Value),Out ⟨P,0,w,hp.length,g,mv⟩ hp g w->Pw (ARep w g) args vs.toList->Calls P F vs w λe w'=>∃v g',e=.returned v/\Out ⟨P,0,w,hp.length,g,mv⟩ hp' g' w'/\ARep w' g' r v
def zZ(args:List AV):Fr:=(args.zipIdx 0).map λx=>(x.2,x.1)
theorem zo : ∀ (args : List AV) (k t : Nat), Fr.get ((args.zipIdx k).map fun x => (x.2, x.1)) t = if k <= t then (args[t - k]?).getD .junk else .junk
  |[],k,t=>by simp[Fr.get]
  |x::r,k,t=>by
    simp only[List.zipIdx_cons,iW,Fr.get];rw[zo r (k+1) t];by_cases h:k=t;subst h;simp;rw[if_neg h];by_cases h1:k<=t;rw[if_pos h1,if_pos aB,show t-k=(t-(k+1))+1 by omega,List.getElem?_cons_succ];rw[if_neg h1,if_neg aB]
def Er(fr:Fr):List ResultVar->Option AV
  |[.tmp t]=>some (fr.get t)
  |[.tmp t,.tmp u]=>some (.tup [fr.get t,fr.get u])
  |[.tmp t,.tmp u,.tmp v]=>some (.tup [fr.get t,fr.get u,fr.get v])
  |[]=>some (.tup [])
  |_=>none
inductive ResV (P:Program) (st:St):ResultVar->AV->Prop
  |tmp (t:Nat):ResV P st (.tmp t) (st.fr.get t)
  |one {a t id off s ty:Nat} {cs:List AV} {v:AV} (hl:lay P t=some (false,s)) (ha:st.fr.get a=.mptr id 0 0 off) (hb:st.hp[id]?=some (.box ty cs)) (hc:cs[off]?=some v):ResV P st (.cell a t) v
  |agg {a t id off s ty:Nat} {cs:List AV} {v:AV} (hl:lay P t=some (true,s)) (ha:st.fr.get a=.mptr id 0 0 off) (hb:st.hp[id]?=some (.box ty cs)) (hc:Nat.ble (off+s) cs.length=true) (hv:zg ((cs.drop off).take s)=v):ResV P st (.cell a t) v
inductive ResVs (P:Program) (st:St):List ResultVar->List AV->Prop
  |nil:ResVs P st [] []
  |cons {r:ResultVar} {rs:List ResultVar} {x:AV} {xs:List AV} (h:ResV P st r x) (hr:ResVs P st rs xs):ResVs P st (r::rs) (x::xs)
def pack:List AV->AV
  |[x]=>x
  |xs=>.tup xs
inductive ResOk (P:Program) (st:St) (rs:List ResultVar) (x:AV):Prop
  |mk (xs:List AV) (h:ResVs P st rs xs) (e:pack xs=x)
theorem res{P:Program}{st:St}{rs:List ResultVar}{x:AV}(h:Er st.fr rs=some x):ResOk P st rs x:=by match rs,h with|[.tmp t],h=>cases h;exact .mk _ (.cons (.tmp t) .nil) rfl|[.tmp t,.tmp u],h=>cases h;exact .mk _ (.cons (.tmp t) (.cons (.tmp u) .nil)) rfl|[.tmp t,.tmp u,.tmp x],h=>cases h;exact .mk _ (.cons (.tmp t) (.cons (.tmp u) (.cons (.tmp x) .nil))) rfl|[],h=>cases h;exact .mk [] .nil rfl
def qOV(tmps:Array Value):ResultVar->Sem Value
  |.tmp t=>pure (tmps.getD t undef)
  |.cell c t=>do loadVar t (<- asAddr (tmps.getD c undef))
theorem qOU(fn:Func)(tmps:Array Value):results fn tmps=(do
    let vs <- fn.results.mapM (qOV tmps)
    pure (if h:vs.size=1 then vs[0]else .tuple vs)):=by
  unfold results
  congr 2
theorem run_resV{r:ResultVar}{x:AV}(hs:Sim C st g a w)(h:ResV P st r x):∃v,(qOV a.tmps r).run P w=.ok v w/\ARep w g x v:=by
  cases h with
  |tmp t=>exact⟨a.tmps.getD t undef,by simp[qOV],hs.fr t⟩
  |@one c t id off s ty cs v hl ha hb hc=>
    have h:=hs.fr c;rw[ha]at h;obtain⟨b,hp,he⟩:=rX h;obtain⟨b',cells,hp',hw,_,hlen,hr⟩:=hs.hp id _ hb;cases hp.symm.trans hp';have hoff:off<cells.size:=qDX
    have hcell:w.cell? ⟨b,0*0+off,none⟩=some cells[off]:=by
      rw[show 0*0+off=off by omega,cell_of_row w b off cells ty (0,0) hw,Jn hoff]
    refine⟨cells[off],?_,hr off x _ hc (by simp[hoff])⟩;simp only[qOV,he,asAddr,Sem.run_bind,Sem.run_pure,Result.andThen_ok];exact tH hl w _ _ hcell
  |@agg c t id off s ty cs v hl ha hb hc hv=>
    have hc:=iP hc;subst hv;have h:=hs.fr c;rw[ha]at h;obtain⟨b,hp,he⟩:=rX h;obtain⟨b',cells,hp',hw,_,hlen,hr⟩:=hs.hp id _ hb;cases hp.symm.trans hp';have hlen':((cs.drop off).take s).length=s:=iK
    obtain⟨vs,hvl,h2,h3⟩:=Vb (R:=ARep w g) ((cs.drop off).take s) (λj=>cells[off+j]?) (λj c hc=>by
      rw[sI]at hc;split at hc;rw [nC] at hc;have hlt:off+j<cells.size:=qDX
      exact⟨cells[off+j],bf,hr _ c _ hc bf⟩
      cases hc)
    refine⟨.agg vs.toArray,?_,zf (by simp[hvl]) λi c v hc hv=>h3 i c v hc tZ⟩;simp only[qOV,he,asAddr,Sem.run_bind,Sem.run_pure,Result.andThen_ok]
    exact tI hl w ⟨b,0*0+off,none⟩ vs (hvl.trans hlen') (λj v hv=>by
      rw[zR,cell_of_row w b _ cells ty (0,0) hw];simpa using h2 j v hv)
theorem qAX(hs:Sim C st g a w):∀{rs:List ResultVar}{xs:List AV},ResVs P st rs xs->
    ∃vs,(rs.mapM (qOV a.tmps)).run P w=.ok vs w/\Pw (ARep w g) xs vs
  |[],[],.nil=>⟨[],aN,rfl,λi x y h=>nV⟩
  |r::rs,x::xs,.cons h hr=>by
    obtain⟨v,h1,h2⟩:=run_resV hs h;obtain⟨vs,h3,h4⟩:=qAX hs hr;refine⟨v::vs,?_,by simp[h4.1],λi x y hx hy=>?_⟩;rw[L8,Sem.run_bind,h1,Result.andThen_ok,Sem.run_bind,h3,Result.andThen_ok,Sem.run_pure]
    cases i with
    |zero=>simp at hx hy;subst hx hy;exact h2
    |succ i=>exact h4.2 i x y yd yR
theorem yD{fn:Func}{r:AV}(hs:Sim C st g a w)(h:ResOk P st fn.results.toList r):∃v,(results fn a.tmps).run P w=.ok v w/\ARep w g r v:=by obtain⟨xs,h,rfl⟩:=h;obtain⟨vs,h1,h2⟩:=qAX hs h;have h3:(fn.results.mapM (qOV a.tmps)).run P w=.ok vs.toArray w:=(by rw[Array.mapM_eq_mapM_toList,Sem.run_map,h1];rfl);rw[qOU];refine⟨if h:vs.toArray.size=1 then vs.toArray[0]else .tuple vs.toArray,?_,?_⟩;rw[Sem.run_bind,h3];rfl;match xs,vs,h2 with|[x],[v],h2=>exact h2.2 0 x v rfl rfl|[],[],_=>exact .tup [] #[] rfl λi c v hc=>by simp at hc|x::y::xs,u::v::vs,h2=>rw[dif_neg aN];exact .tup _ _ (by simpa using h2.1) λi c z hc hz=>h2.2 i c z hc (by simpa using hz)|[],_::_,h2=>have:=h2.1;simp at this|[_],[],h2=>have:=h2.1;simp at this|[_],_::_::_,h2=>have:=h2.1;simp at this|_::_::_,[],h2=>have:=h2.1;simp at this|_::_::_,[_],h2=>have:=h2.1;simp at this
def Ends(P:Program)(k:Nat)(rs:List ResultVar)(r:AV)(hp':List Blk)(st:St):Prop:=∃(x:AV)(ids:List Nat),ResOk P st rs x/\ids.Nodup/\(∀i,i<k->ids[i]?=some i)/\x.mapRef (toName (bI ids))=r/\ids.map (λi=>(st.hp.getD i .dead).mapRef (toName (bI ids)))=hp'
def qTQ(P:Program)(k:Nat)(rs:List ResultVar)(r:AV)(hp':List Blk):Exit->St->Prop
  |.normal,st|.ret,st=>Ends P k rs r hp' st
  |_,_=>False
theorem qJL{fn:Func}{hp:List Blk}{args:List AV}{r:AV}(hcb:tR P F=true)(hf:P.funcs[F]?=some fn)(hb:fn.body=some c)(hn:args.length<=fn.ntmps)(h:∀w g,TWp ⟨P,fn.ntmps,w,hp.length,g,mv⟩ c ⟨zZ args,hp⟩ (qTQ P hp.length fn.results.toList r hp')):Ret P F hp mv args r hp':=by refine⟨hcb,?_⟩;intro w g vs hout hargs;have hlen:vs.size=args.length:=(by have:=hargs.1;simpa using this.symm);have hsim:Sim ⟨P,fn.ntmps,w,hp.length,g,mv⟩ ⟨zZ args,hp⟩ g { tmps:=vs++Array.replicate (fn.ntmps-vs.size) undef,defers:=[] } w:=(by refine Out.sim (C:=⟨P,fn.ntmps,w,hp.length,g,mv⟩) hout hout.defers ?_ λt=>?_;simp only[Im,qDN];omega;unfold zZ;rw[zo,if_pos (iF _),F8];by_cases ht:t<args.length;have h1:args[t]?=some args[t]:=jT ht;have h2:vs.toList[t]?=some (vs.toList[t]' D8):=jT _;have h3:=hargs.2 t _ _ h1 h2;rw[h1];have h4:(vs++Array.replicate (fn.ntmps-vs.size) undef).getD t undef=vs.toList[t]' D8:=(by rw[Jp,Jo,if_pos aB];simp[show t<vs.size by omega]);rw[h4];exact h3;rw[nB aB];exact .junk _);refine calls_of_wp hf hb (Go.wp_mono (h w g g _ w hsim) ?_);intro e a' w' hq;obtain⟨st',g',hQ,hs'⟩:=hq;have fin:Ends P hp.length fn.results.toList r hp' st'->a'.defers=[]/\∃v,(results fn a'.tmps).run P w'=.ok v w'/\∃v' g',Ending.returned v=.returned v'/\Out ⟨P,0,w,hp.length,g,mv⟩ hp' g' w'/\ARep w' g' r v':=(by rintro⟨x,ids,hx,hnd,hk,hr,hhp⟩;obtain⟨v,hv,hrep⟩:=yD (P:=P) hs' hx;have hc:=hs'.canon [] ids hnd hk;have ho:=hc.out hout.defers.symm;refine⟨hs'.defers.trans hout.defers.symm,v,hv,v,g'.canon ids,rfl,?_,?_⟩;simp only[St.canon]at ho;rw[hhp]at ho;exact ho;rw[<- hr];refine ARep.mapRef (w:=w') (g:=g') (g':=g'.canon ids) (λd v hd=>hd) (ARep.toName (λi j hij=>?_) λ_ hb=>hb) hrep;have:=dM ids i j hij;simp[Gh.canon,this]);cases e with|normal=>exact fin hQ|ret=>exact fin hQ|_=>exact hQ.elim
variable {C:Ctx}{st:St}{g:Gh}{a:Act}{w:World}{P:Program}
inductive Snap (hp:List Blk):AV->D->Prop
  |d (x:D):Snap hp (.d x) x
  |msl (id sz off len:Nat) (ty:TypeId) (es:List D) (h:hp[id]?=some (.flat ty sz es)) (hl:off+len<=es.length):Snap hp (.msl id sz off len) (.sl sz ((es.drop off).take len))
  |mptrF (id sz idx off:Nat) (ty:TypeId) (es:List D) (e:D) (h:hp[id]?=some (.flat ty sz es)) (he:es[idx]?=some e):Snap hp (.mptr id sz idx off) (.ptr e off)
  |mptrB (id off:Nat) (ty:TypeId) (cs:List AV) (ds:List D) (h:hp[id]?=some (.box ty cs)) (hl:cs.length=ds.length) (h1:∀d∈ds,d.one=true) (hs:∀(i:Nat)(c:AV)(d:D),cs[i]?=some c->ds[i]?=some d->Snap hp c d):Snap hp (.mptr id 0 0 off) (.ptr (.agg ds) off)
  |agg (cs:List AV) (ds:List D) (hl:cs.length=ds.length) (h1:∀d∈ds,d.one=true) (hs:∀(i:Nat)(c:AV)(d:D),cs[i]?=some c->ds[i]?=some d->Snap hp c d):Snap hp (.agg cs) (.agg ds)
  |clo (f:FuncId) (cs:List AV) (ds:List D) (hl:cs.length=ds.length) (hs:∀(i:Nat)(c:AV)(d:D),cs[i]?=some c->ds[i]?=some d->Snap hp c d):Snap hp (.fnc f cs) (.clo f ds)
  |ifc (t:TypeId) (c:AV) (d:D) (h:Snap hp c d):Snap hp (.ifc t c) (.iface t d)
theorem Snap.same{hp:List Blk}{x:AV}{d d':D}(h:Snap hp x d)(e:d=d'):Snap hp x d':=e ▸ h
theorem zA(hs:∀(i:Nat)(B:Blk),st.hp[i]?=some B->BRep w g i B){x:AV}{d:D}(h:Snap st.hp x d)(hX:∀b,g.X b->Y b)(hphi:∀i b,g.phi i=some b->Y b):∀{v:Value},ARep w g x v->DRep w Y d v:=by induction h with|d x =>(intro v hv;cases hv with|d _ _ h=>exact h.mono hX λ_ _=>rfl)|msl id sz off len ty es h hl =>(intro v hv;have hlen:((es.drop off).take len).length=len:=iK;have hds:∀(i:Nat)(e:D),((es.drop off).take len)[i]?=some e->es[off+i]?=some e:=(by intro i e he;rw[sI]at he;split at he;rwa [nC]at he;cases he);cases hv with|msl0=>simp only[List.take_zero];exact .sl0 _ _ _|msl _ _ _ _ cap b hb hc hp=>rcases hs id _ h with⟨_,hn⟩|⟨b',cells,hp',hw,_,_,h0,h1,hr⟩;rw[hb]at hn;cases hn;cases hb.symm.trans hp';have hcell:∀(i:Nat)(e:D)(j:Nat)(c:D),((es.drop off).take len)[i]?=some e->e.cells[j]?=some c->∃v,cells[(off+i)*sz+j]?=some v/\DRep w g.X c v:=λi e j c he hc=>hr _ e j c (hds i e he) hc;have hfin:=DRep.sl (w:=w) (X:=Y) sz ((es.drop off).take len) ⟨b,off*sz,none⟩ cap (λi j=>(cells[(off+i)*sz+j]?).getD undef) (hphi _ _ hb) (by rw[hlen];exact hc) (λi e he=>h0 _ e (hds i e he)) (λi e j c he hc=>h1 _ e j c (hds i e he) hc) (λi e j c he hc=>by obtain⟨v,hv,_⟩:=hcell i e j c he hc;rw[zR,cell_of_row w b _ cells ty (0,0) hw,show off*sz+(i*sz+j)=(off+i)*sz+j by rw[sM];omega,hv];rfl) (λi e j c he hc=>by obtain⟨v,hv,hd⟩:=hcell i e j c he hc;rw[hv];exact hd.mono hX λ_ _=>rfl);rw[hlen]at hfin;exact hfin)|mptrF id sz idx off ty es e h he =>(intro v hv;obtain⟨b,hp,rfl⟩:=rX hv;rcases hs id _ h with⟨h0,_⟩|⟨b',cells,hp',hw,_,_,_,h1,hr⟩;subst h0;simp at he;cases hp.symm.trans hp';refine .ptr e off _ (λj=>(cells[idx*sz+(off+j)]?).getD undef) (hphi _ _ hp) (λc hc=>?_) (λj c hc=>?_) λj c hc=>?_;obtain⟨j,hj⟩:=lO hc;exact h1 idx e j c he hj;obtain⟨v,hv,_⟩:=hr idx e _ c he hc;rw[zR,cell_of_row w b _ cells ty (0,0) hw,gn,hv];rfl;obtain⟨v,hv,hd⟩:=hr idx e _ c he hc;rw[hv];exact hd.mono hX λ_ _=>rfl)|mptrB id off ty cs ds h hl h1 hsn ih=>intro v hv;obtain⟨b,hp,rfl⟩:=rX hv;obtain⟨b',cells,hp',hw,_,hlen,hr⟩:=hs id _ h;cases hp.symm.trans hp';have key:∀(j:Nat)(d:D),ds[j]?=some d->∃v,cells[j]?=some v/\DRep w Y d v:=(by intro j d hd;have hj:=(zal72q.1 hd).1;have hjc:j<cells.size:=aB;exact⟨cells[j],by simp[hjc],ih j _ d (jT aB) hd (hr j _ _ (jT aB) (by simp[hjc]))⟩);refine .ptr (.agg ds) off _ (λj=>(cells[off+j]?).getD undef) (hphi _ _ hp) h1 (λj c hc=>?_) λj c hc=>?_;obtain⟨v,hv,_⟩:=key _ c hc;rw[zR,cell_of_row w b _ cells ty (0,0) hw,show 0*0+off+j=off+j by omega,hv];rfl;obtain⟨v,hv,hd⟩:=key _ c hc;rw[hv];exact hd|agg cs ds hl h1 hsn ih =>(intro v hv;cases hv with|agg _ vs hlv hr=>refine .agg ds vs aB h1 λi d v hd hv=>?_;have hi:=(zal72q.1 hd).1;exact ih i _ d (jT aB) hd (hr i _ v (jT aB) hv))|clo f cs ds hl hsn ih =>(intro v hv;cases hv with|fnc _ _ vs hlv hr=>refine .clo f ds vs aB λi d v hd hv=>?_;have hi:=(zal72q.1 hd).1;exact ih i _ d (jT aB) hd (hr i _ v (jT aB) hv))|ifc t c d h ih=>intro v hv;cases hv with|ifc _ _ v h'=>exact .iface t d v (ih h')
mutual
def D.mem0:D->Bool
  |.agg cs=>D.mem0s cs
  |.clo _ cs=>D.mem0s cs
  |.sl _ _=>false
  |.own _ _ _ _=>false
  |.ptr _ _=>false
  |.iface _ d=>D.mem0 d
  |_=>true
def D.mem0s:List D->Bool
  |[]=>true
  |d::r=>D.mem0 d&&D.mem0s r
end
theorem D.mem0s_all:∀{ds:List D},D.mem0s ds=true->∀d∈ds,D.mem0 d=true
  |[],_,d,hd=>by simp at hd
  |x::r,h,d,hd=>by
    simp only[D.mem0s,tY]at h;simp only[ci]at hd;rcases hd with rfl|hd
    exact h.1;exact D.mem0s_all h.2 d hd
theorem DRep.any{d:D}(h:DRep w X d v)(hm:D.mem0 d=true):DRep w Y d v:=by induction h with|bool=>exact .bool _|int=>exact .int _ _|str=>exact .str _|agg cs vs hl h1 _ ih=>simp only[D.mem0]at hm;exact .agg cs vs hl h1 λi c v hc hv=>ih i c v hc hv (D.mem0s_all hm c (fQ hc))|clo f cs vs hl _ ih=>simp only[D.mem0]at hm;exact .clo f cs vs hl λi c v hc hv=>ih i c v hc hv (D.mem0s_all hm c (fQ hc))|nilsl=>exact .nilsl _|sl0=>simp[D.mem0]at hm|sl=>simp[D.mem0]at hm|own0=>simp[D.mem0]at hm|own=>simp[D.mem0]at hm|nilptr=>exact .nilptr|ptr=>simp[D.mem0]at hm|fn=>exact .fn _|nilfn=>exact .nilfn|iface t d v _ ih=>exact .iface t d v (ih (by simpa[D.mem0]using hm))|nilif=>exact .nilif|nilmap=>exact .nilmap
inductive AMem0:AV->Prop
  |d (x:D) (h:D.mem0 x=true):AMem0 (.d x)
  |junk:AMem0 .junk
  |und:AMem0 .und
  |msl (i s o l:Nat):AMem0 (.msl i s o l)
  |mptr (i s x o:Nat):AMem0 (.mptr i s x o)
  |mmap (i:Nat):AMem0 (.mmap i)
  |yld (i:Nat):AMem0 (.yld i)
  |mmapN (i n:Nat):AMem0 (.mmapN i n)
  |agg (cs:List AV) (h:∀c∈cs,AMem0 c):AMem0 (.agg cs)
  |tup (cs:List AV) (h:∀c∈cs,AMem0 c):AMem0 (.tup cs)
  |fnc (f:FuncId) (cs:List AV) (h:∀c∈cs,AMem0 c):AMem0 (.fnc f cs)
  |ifc (t:TypeId) (c:AV) (h:AMem0 c):AMem0 (.ifc t c)
def qDA:Blk->Prop
  |.dead=>True
  |.hole=>True
  |.flat _ _ es=>∀e∈es,D.mem0 e=true
  |.box _ cs=>∀c∈cs,AMem0 c
  |.map _ _ es=>∀e∈es,D.mem0 e.1=true/\D.mem0 e.2=true
  |.ob _=>True
  |.mapv ..=>False
  |.lp ..=>False
theorem qPP{e c:D}(h:D.mem0 e=true)(hc:c∈e.cells):D.mem0 c=true:=by cases e with|agg cs=>simp only[D.mem0]at h;exact D.mem0s_all h c hc|_=>simp only[D.cells,zal121q]at hc;subst hc;exact h
theorem ARep.any{Y:Nat->Prop}{x:AV}{v:Value}(h:ARep w g x v)(hm:AMem0 x):ARep w { g with X:=Y } x v:=by induction h with|junk=>exact .junk _|und=>exact .und|d d v h =>(cases hm with|d _ hm=>exact .d d v (h.any hm))|msl0=>exact .msl0 _ _ _ _|msl id sz off len cap b hb hc hp=>exact .msl id sz off len cap b hb hc hp|mptr id sz idx off b hb=>exact .mptr id sz idx off b hb|mmap id b hb=>exact .mmap id b hb|yld id b hb=>exact .yld id b hb|mmapN0=>exact .mmapN0 _|mmapN id n b hb=>exact .mmapN id n b hb|agg cs vs hl _ ih =>(cases hm with|agg _ hm=>exact .agg cs vs hl λi c v hc hv=>ih i c v hc hv (hm c (fQ hc)))|tup cs vs hl _ ih =>(cases hm with|tup _ hm=>exact .tup cs vs hl λi c v hc hv=>ih i c v hc hv (hm c (fQ hc)))|fnc f cs vs hl _ ih =>(cases hm with|fnc _ _ hm=>exact .fnc f cs vs hl λi c v hc hv=>ih i c v hc hv (hm c (fQ hc)))|ifc t c v _ ih=>cases hm with|ifc _ _ hm=>exact .ifc t c v (ih hm)
theorem BRep.any{Y:Nat->Prop}{i:Nat}{B:Blk}(h:BRep w g i B)(hm:qDA B):BRep w { g with X:=Y } i B:=by cases B with|dead=>trivial|hole=>exact h|flat ty sz es =>(rcases h with h|⟨b,cells,h1,h2,h3,h4,h5,h6,h7⟩;exact .inl h;refine .inr ⟨b,cells,h1,h2,h3,h4,h5,h6,λk e j c he hc=>?_⟩;obtain⟨v,hv,hd⟩:=h7 k e j c he hc;exact⟨v,hv,hd.any (qPP (hm e (fQ he)) (fQ hc))⟩)|box ty cs=>obtain⟨b,cells,h1,h2,h3,h4,h5⟩:=h;exact⟨b,cells,h1,h2,h3,h4,λj c v hc hv=>(h5 j c v hc hv).any (hm c (fQ hc))⟩|map kt vt es =>(rcases h with h|⟨b,ents,clock,h1,h2,h3,h4⟩;exact .inl h;exact .inr ⟨b,ents,clock,h1,h2,h3,λk e m he hm'=>⟨(h4 k e m he hm').1.any (hm e (fQ he)).1,(h4 k e m he hm').2.any (hm e (fQ he)).2⟩⟩)|ob o=>exact h|mapv=>exact hm.elim|lp=>exact hm.elim
theorem kO{f:Operand}{caps:Array Value}(ho:o.op=.call { callee:=.value f,args:=xs,argTypes:=ts })(hf:a.eval f=.func (.func F) #[] caps)(hc:tR P F=true):(execOp a.eval o).run P w=.ok (.enter F (xs.map a.eval++caps)) w:=by unfold tR at hc;cases hfn:P.funcs[F]? with|none=>simp[hfn]at hc|some fn=>simp only[hfn,tY,gH]at hc;have hb:fn.body.isNone=false:=(by cases h:fn.body<;>simp_all);have hcall:(callFunc F (xs.map a.eval++caps)).run P w=.ok (.enter F (xs.map a.eval++caps)) w:=(by unfold callFunc;simp only[Sem.run_bind,run_program,Result.andThen_ok,hfn];rw[if_neg (by rw[hc.1];exact fS),if_neg (by rw[hb];exact fS)];rfl);simp only[execOp,ho,resolve,hf,Deferred.ofValue,invoke,Sem.run_bind,Sem.run_pure,Result.andThen_ok,Array.empty_append];exact hcall
theorem Nr(h:ARep w g (.d (.fn F)) v):v=.func (.func F) #[] #[]:=by cases h with|d _ _ h=>cases h;rfl
def Dq(hp:List Blk)(xs:List AV)(ds:List D):Prop:=xs.length=ds.length/\∀(i:Nat)(x:AV)(d:D),xs[i]?=some x->ds[i]?=some d->Snap hp x d
theorem SN{hp:List Blk}:Dq hp [] []:=⟨rfl,λi x d h=>nV⟩
theorem SC{hp:List Blk}{x:AV}{xs:List AV}{d:D}(h:Snap hp x d)(h':Dq hp xs ds):Dq hp (x::xs) (d::ds):=by refine⟨by simp[h'.1],λi y e hy he=>?_⟩;cases i with|zero=>simp at hy he;subst hy he;exact h|succ i=>exact h'.2 i y e yR (by simpa using he)
def hU(X:Nat->Prop):Gh:={ phi:=λ_=>none,psi:=λ_=>0,X:=X }
theorem qKE(hs:Sim C st g a w)(mv:Nat->Bool)(hX:∀b,X b->b<w.heap.size):Out ⟨C.P,0,w,0,hU X,mv⟩ [] (hU X) w:=
  { defers := rfl, size := rfl, fr := fun _ => .junk _, hp := fun i B h => by simp at h, lt := fun i b h => by simp [hU] at h, inj := fun i j b _ _ _ _ _ _ h => by simp [hU] at h, Xlt := hX, Xold := fun b h _ => h
    os:=rfl,tape:=rfl,output:=rfl,drawn:=fY _,grown:=fY _,keep:=λ_ _ _=>rfl,own:=λi b h=>by simp[hU]at h,stay:=λi b h=>absurd h (rL i),kle:=iF _,laid:=λx hx=>⟨(hs.laidW x hx).1,λi h=>by simp[hU]at h⟩ }
def shift(n:Nat):AV->AV
  |.msl i s o l=>.msl (n+i) s o l
  |.mptr i s x o=>.mptr (n+i) s x o
  |.mmap i=>.mmap (n+i)
  |.yld i=>.yld (n+i)
  |.mmapN i m=>.mmapN (n+i) m
  |v=>v
def Gh.join(g:Gh)(n B:Nat)(g':Gh):Gh:={ phi:=λj=>if j<n then g.phi j else g'.phi (j-n),psi:=λj=>if j<n then g.psi j else g'.psi (j-n),X:=λb=>g.X b\/(B<=b/\g'.X b) }
theorem Gh.join_phi(g:Gh)(n B:Nat)(g':Gh)(i:Nat):(g.join n B g').phi (n+i)=g'.phi i:=by simp[Gh.join,show ¬n+i<n by omega]
theorem Gh.join_psi(g:Gh)(n B:Nat)(g':Gh)(i:Nat):(g.join n B g').psi (n+i)=g'.psi i:=by simp[Gh.join,show ¬n+i<n by omega]
theorem ARep.shift{g':Gh}{n B:Nat}{w':World}(hX:∀b,g'.X b->b<B->g.X b){x:AV}{v:Value}(h:ARep w' g' x v):ARep w' (g.join n B g') (x.mapRef (TL.shift n)) v:=by have hX':∀b,g'.X b->(g.join n B g').X b:=(by intro b hb;by_cases hlt:b<B;exact .inl (hX b hb hlt);exact .inr ⟨aB,hb⟩);refine ARep.mapRef (w:=w') (g:=g') (λd v hd=>hd.mono hX' λ_ _=>rfl) ?_ h;intro x v hx _;cases hx with|msl0=>exact .msl0 _ _ _ _|msl id sz off len cap b hb hc hp=>exact .msl _ _ _ _ _ b ((Gh.join_phi ..).trans hb) hc (by rw[Gh.join_psi];exact hp)|mptr id sz idx off b hb=>exact .mptr _ _ _ _ b ((Gh.join_phi ..).trans hb)|mmap id b hb=>exact .mmap _ b ((Gh.join_phi ..).trans hb)|yld id b hb=>exact .yld _ b ((Gh.join_phi ..).trans hb)|mmapN0=>exact .mmapN0 _|mmapN id n b hb=>exact .mmapN _ _ b ((Gh.join_phi ..).trans hb)|d d v hd=>exact .d d v (hd.mono hX' λ_ _=>rfl)|_=>contradiction
theorem Sim.after(hs:Sim C st g a w){g':Gh}(ho:Out ⟨C.P,0,w,0,hU X,mv⟩ hp' g' w')(hX:∀b,g'.X b->b<w.heap.size->g.X b):Sim C ⟨st.fr,st.hp++hp'.map (Blk.mapRef (shift st.hp.length))⟩ (g.join st.hp.length w.heap.size g') a w':=by have hold:∀b,b<w.heap.size->w'.heap[b]?=w.heap[b]?:=λb hb=>ho.keep b hb λi hi=>absurd hi (rL i);have hnew:∀i b,g'.phi i=some b->w.heap.size<=b:=(by intro i b hp;rcases fU b w.heap.size with hlt|hge;exact absurd (ho.own i b hp hlt).1 (rL _);exact hge);have hgr:Grow w g w' (g.join st.hp.length w.heap.size g'):=(by refine⟨λi b hp=>?_,λi b hp=>?_,λb hb=>.inl hb,λb hb=>hold b (hs.Xlt b hb)⟩;have:=(hs.lt i b hp).2.1;simpa[Gh.join,this]using hp;have:=(hs.lt i b hp).2.1;simp[Gh.join,this]);have hphi:∀i b,(g.join st.hp.length w.heap.size g').phi i=some b->(i<st.hp.length/\g.phi i=some b)\/(st.hp.length<=i/\g'.phi (i-st.hp.length)=some b):=(by intro i b hp;by_cases hi:i<st.hp.length;exact .inl ⟨hi,by simpa[Gh.join,hi]using hp⟩;exact .inr ⟨aB,by simpa[Gh.join,hi]using hp⟩);have hsz:=ho.grown;simp only at hsz;refine{ defers:=hs.defers,size:=hs.size,fr:=λt=>(hs.fr t).mono hgr,hp:=?_,lt:=?_,inj:=?_,Xlt:=?_,Xold:=?_,os:=ho.os.trans hs.os,tape:=ho.tape.trans hs.tape,output:=ho.output.trans hs.output,drawn:=eR hs.drawn ho.drawn,grown:=eR hs.grown hsz,keep:=?_,own:=?_,stay:=?_,kle:=?_,laid:=hs.laid };(· intro i B hi;rw[kN]at hi;split at hi;rename_i hlt;exact(hs.hp i B hi).mono hgr (λhn=>by simpa[Gh.join,hlt]using hn) λb hb=>hold b (hs.lt i b hb).1;· rename_i hge;simp only[eS,zal165q]at hi;obtain⟨B',hB',rfl⟩:=hi;have hX':∀b,g'.X b->(g.join st.hp.length w.heap.size g').X b:=(by intro b hb;by_cases hlt:b<w.heap.size;exact .inl (hX b hb hlt);exact .inr ⟨aB,hb⟩);refine BRep.mapRef (i:=i-st.hp.length) (g:=g') (by simp[Gh.join,hge]) (by simp[Gh.join,hge]) hX' ?_ (ho.hp _ B' hB');intro x v hx hr;have:=hx.shift (n:=st.hp.length) (g:=g) (B:=w.heap.size) hX;cases x<;>first|exact this|cases hr);intro i b hp;simp only[sH,uR];rcases hphi i b hp with⟨hi,hp'⟩|⟨hi,hp'⟩;have:=hs.lt i b hp';refine⟨aB,aB,λhX=>?_⟩;rcases hX with hX|⟨hX,_⟩;exact this.2.2 hX;omega;have:=ho.lt _ b hp';simp only at this;refine⟨this.1,aB,λhX=>?_⟩;have hge:=hnew _ b hp';rcases hX with hX|⟨_,hX⟩;have:=hs.Xlt b hX;omega;exact this.2.2 hX;intro i j b Bi Bj hBi hBj hdi hdj hi hj;rw[kN]at hBi hBj;rcases hphi i b hi with⟨h1,h1'⟩|⟨h1,h1'⟩<;>rcases hphi j b hj with⟨h2,h2'⟩|⟨h2,h2'⟩;rw[if_pos h1]at hBi;rw[if_pos h2]at hBj;exact hs.inj i j b Bi Bj hBi hBj hdi hdj h1' h2';have:=hnew _ b h2';have:=(hs.lt i b h1').1;omega;have:=hnew _ b h1';have:=(hs.lt j b h2').1;omega;rw[if_neg aB]at hBi hBj;simp only[eS,zal165q]at hBi hBj;obtain⟨B1,e1,rfl⟩:=hBi;obtain⟨B2,e2,rfl⟩:=hBj;have:=ho.inj _ _ b B1 B2 e1 e2 (λe=>by subst e;exact hdi rfl) (λe=>by subst e;exact hdj rfl) h1' h2';omega;intro b hb;rcases hb with hb|⟨_,hb⟩;have:=hs.Xlt b hb;omega;exact ho.Xlt b hb;intro b hb hlt;rcases hb with hb|⟨hge,_⟩;exact hs.Xold b hb hlt;have:=hs.grown;omega;intro b hb hk;rw[hold b (by have:=hs.grown;omega)];exact hs.keep b hb hk;intro i b hp hb;rcases hphi i b hp with⟨_,hp'⟩|⟨_,hp'⟩;exact hs.own i b hp' hb;have:=hnew _ b hp';have:=hs.grown;omega;intro i b hi hm hp;have hlt:i<st.hp.length:=(by have:=hs.kle;omega);have:=hs.stay i b hi hm hp;simpa[Gh.join,hlt]using this;have:=hs.kle;simp only[sH,uR];omega
theorem Zc(hs:Sim C st g a w)(h:Dq st.hp (xs.toList.map st.fr.ev) ds)(hX:∀b,g.X b->Y b)(hphi:∀i b,g.phi i=some b->Y b):Pw (ARep w (hU Y)) (ds.map .d) (xs.map a.eval).toList:=by refine⟨by have:=h.1;simpa using this.symm,λi x v hx hv=>?_⟩;simp only[eS,zal165q,fb]at hx hv;obtain⟨d,hd,rfl⟩:=hx;obtain⟨y,hy,rfl⟩:=hv;exact .d _ _ (zA hs.hp (h.2 i (st.fr.ev y) d ya hd) hX hphi (hs.ev y))
theorem ok_callD{K:St->Prop}{f:Operand}(ds:List D)(r:AV)(hp':List Blk)(ho:o.op=.call { callee:=.value f,args:=xs,argTypes:=ts })(hd:vC C.n o.dst=true)(hf:st.fr.ev f=.d (.fn F))(hx:xs.toList.map st.fr.ev=ds.map .d)(hret:Ret C.P F [] mv (ds.map .d) r hp')(hK:K (St.put ⟨st.fr,st.hp++hp'.map (Blk.mapRef (shift st.hp.length))⟩ o.dst (r.mapRef (shift st.hp.length)))):OpOk C o st K:=by intro g a w Q hs;have hfv:=hs.ev f;rw[hf]at hfv;have hargs:Pw (ARep w (hU g.X)) (ds.map .d) (xs.map a.eval).toList:=(by refine⟨by have:=congrArg List.length hx;simpa using this.symm,λi x v hxi hv=>?_⟩;simp only[fb,eS,zal165q]at hv;obtain⟨y,hy,rfl⟩:=hv;have h1:(xs.toList.map st.fr.ev)[i]?=some (st.fr.ev y):=ya;rw[hx,hxi]at h1;cases h1;have h2:=hs.ev y;simp only[eS,zal165q]at hxi;obtain⟨d,_,hd⟩:=hxi;rw[<- hd]at h2⊢;cases h2 with|d _ _ h=>exact .d _ _ h);simp only[Oper.wp,kO ho (Nr hfv) hret.1,Oper.upon_enter,qAM];refine(hret.2 w (hU g.X) _ (qKE hs mv hs.Xlt) hargs).mono ?_;rintro e w' ⟨v,g',rfl,hout,hr⟩;have hX:∀b,g'.X b->b<w.heap.size->g.X b:=λb hb hlt=>hout.Xold b hb hlt;exact⟨_,_,hK,(hs.after hout hX).put' hd (hr.shift hX)⟩
theorem rd_callD{ev:Operand->AV}{hp:List Blk}{f:Operand}(ds:List D)(r:AV)(hp':List Blk)(d:D)(ho:o.op=.call { callee:=.value f,args:=xs,argTypes:=ts })
    (hf:ev f=.d (.fn F)) (hx:xs.toList.map ev=ds.map .d) (hret:Ret C.P F [] mv (ds.map .d) r hp') (hsn:Snap hp' r d):RdOk C o ev hp (.d d):=by
  intro st hhp hag g a w hs Q K' hK;have hfv:=hs.ev f;rw[hag f C8,hf]at hfv
  have hargs:Pw (ARep w (hU g.X)) (ds.map .d) (xs.map a.eval).toList:=by
    refine⟨by have:=congrArg List.length hx;simpa using this.symm,λi x v hxi hv=>?_⟩;simp only[fb,eS,zal165q]at hv;obtain⟨y,hy,rfl⟩:=hv;have h1:(xs.toList.map ev)[i]?=some (ev y):=ya
    rw[hx,hxi]at h1;cases h1;have h2:=hs.ev y;rw[hag y zaP38q]at h2;simp only[eS,zal165q]at hxi;obtain⟨d,_,hd⟩:=hxi;rw[<- hd]at h2⊢;cases h2 with|d _ _ h=>exact .d _ _ h
  simp only[Oper.wp,kO ho (Nr hfv) hret.1,Oper.upon_enter,qAM];refine(hret.2 w (hU g.X) _ (qKE hs mv hs.Xlt) hargs).mono ?_;rintro e w' ⟨v,g',rfl,hout,hr⟩;have hX:∀b,g'.X b->b<w.heap.size->g.X b:=λb hb hlt=>hout.Xold b hb hlt;have hold:∀b,b<w.heap.size->w'.heap[b]?=w.heap[b]?:=λb hb=>hout.keep b hb λi hi=>absurd hi (rL i);have hsz:=hout.grown;simp only at hsz
  let g2:Gh:={ g with X:=λb=>g.X b\/(w.heap.size<=b/\b<w'.heap.size) }
  have hgr:Grow w g w' g2:=⟨λ_ _ h=>h,λ_ _ _=>rfl,λ_ h=>.inl h,λb hb=>hold b (hs.Xlt b hb)⟩;refine hK v w' g2 ?_ (.d _ _ (zA (st:=⟨[],hp'⟩) hout.hp hsn (Y:=g2.X) (λb hb=>?_) (λi b hp=>?_) hr))
  refine { defers := hs.defers, size := hs.size, fr := fun t => (hs.fr t).mono hgr, hp := fun i B hB => (hs.hp i B hB).mono hgr id fun b hb => hold b (hs.lt i b hb).1, lt := ?_, inj := hs.inj, Xlt := ?_, Xold := ?_
           os:=hout.os.trans hs.os,tape:=hout.tape.trans hs.tape,output:=hout.output.trans hs.output,drawn:=eR hs.drawn hout.drawn,grown:=eR hs.grown hsz,keep:=?_,own:=hs.own,stay:=hs.stay,kle:=hs.kle,laid:=hs.laid }
  · intro i b hp
    have:=hs.lt i b hp;refine⟨aB,this.2.1,λhX=>?_⟩;rcases hX with hX|⟨hX,_⟩
    exact this.2.2 hX;omega
  intro b hb;rcases hb with hb|⟨_,hb⟩
  have:=hs.Xlt b hb;omega;exact hb;intro b hb hlt;rcases hb with hb|⟨hge,_⟩
  exact hs.Xold b hb hlt;have:=hs.grown;omega;intro b hb hk;rw[hold b (by have:=hs.grown;omega)];exact hs.keep b hb hk;by_cases hlt:b<w.heap.size
  · exact .inl (hX b hb hlt)
  exact .inr ⟨aB,hout.Xlt b hb⟩;refine .inr ⟨?_,(hout.lt i b hp).1⟩;rcases fU b w.heap.size with hlt|hge
  exact absurd (hout.own i b hp hlt).1 (rL _);exact hge
variable {C:Ctx}{st:St}{g:Gh}{a:Act}{w:World}{P:Program}
theorem spl_get(L:List α)(off:Nat)(cs:List α)(h:off+cs.length<=L.length)(m:Nat):(spl L off cs)[m]?=if m<off then L[m]? else if m<off+cs.length then cs[m-off]? else L[m]?:=by simp only[spl,kN,oF,sI,nC];have hmin:min off L.length=off:=aB;rw[hmin];by_cases m1:m<off;simp[m1];rw[if_neg m1,if_neg m1];by_cases m2:m<off+cs.length;rw[if_pos aB,if_pos m2];rw[if_neg aB,if_neg m2];congr 1;omega
def Nv(d:Nat):Option AV->Option Int
  |none=>some d
  |some (.d (.int _ n))=>some n
  |_=>none
theorem qEY(h:sel P t=some (e,s,by'))(w:World)(ad:Option Addr)(len cap:Nat)(lo hi:Option Value)(l r:Nat)(hlo:(lo=none/\l=0)\/∃k,lo=some (.int k l))(hhi:(hi=none/\r=len)\/∃k,hi=some (.int k r))(h1:l<=r)(h2:r<=cap):(Instr.sliceAt t (.slice ad len cap) lo hi none).run P w=.ok (.slice (if cap=l then ad else ad.map (·.add (l*s))) (r-l) (cap-l)) w:=by obtain⟨inf,hu,hi',hs,_⟩:=zB h;have e1:∀k:IntKind,∀(n y:Nat)(c:BoundsCode),n<=y->(Instr.sliceBound (.int k (n:Int)) y c).run P w=.ok n w:=λk n y c hle=>(by have:=run_sliceBound (P:=P) (w:=w) k (n:Int) y c aB aB;simpa using this);rcases hlo with⟨rfl,rfl⟩|⟨k,rfl⟩<;>rcases hhi with⟨rfl,rfl⟩|⟨k',rfl⟩<;>simp[Instr.sliceAt,Instr.slice,run_underlying hu,Instr.sliceBounds,sizeOf,typeInfo,hi',hs,e1,h1,h2]
theorem rd_cut{ev:Operand->AV}{hp:List Blk}(sz by':Nat)(es:List D)(l r:Nat)(ho:o.op=.slice t x lo hi none)(hl:sel C.P t=some (e,sz,by'))(hx:ev x=.d (.sl sz es))(hlo:Nv 0 (lo.map ev)=some l)(hhi:Nv es.length (hi.map ev)=some r)(h1:l<=r)(h2:r<=es.length):RdOk C o ev hp (.d (.sl sz ((es.drop l).take (r-l)))):=RdOk.mk λst hhp hag g a w hs=>by have h:=hs.ev x;rw[hag x fN,hx]at h;have bound:∀(d n:Nat)(q:Option Operand),(∀y,q=some y->y∈o.op.operands)->Nv d (q.map ev)=some (n:Int)->(q.map a.eval=none/\n=d)\/∃k,q.map a.eval=some (.int k n):=(by intro d n q hq hb;cases q with|none=>simp[Nv]at hb;exact .inl ⟨rfl,aB⟩|some y=>have hy:=hs.ev y;rw[hag y (hq y rfl)]at hy;simp only[jB]at hb⊢;unfold Nv at hb;split at hb;rename_i e;cases e;rename_i k m e;rw[bO e]at hy;cases hb;exact .inr ⟨k,by rw[int_inv hy]⟩;cases hb);have hlo':=bound 0 l lo (λy hy=>Ea) hlo;have hhi':=bound es.length r hi (λy hy=>Ea) hhi;generalize hev:a.eval x=vx at *;have hrun:∀ad cap,vx=.slice ad es.length cap->es.length<=cap->(execOp a.eval o).run C.P w=.ok (.value (.slice (if cap=l then ad else ad.map (·.add (l*sz))) (r-l) (cap-l))) w:=(by intro ad cap hv hc;have:=qEY hl w ad es.length cap (lo.map a.eval) (hi.map a.eval) l r hlo' hhi' h1 aB;simp only[execOp,ho,hev,hv,Option.map_none,Sem.run_bind,this,Result.andThen_ok,Sem.run_pure]);have hlen:((es.drop l).take (r-l)).length=r-l:=iK;cases h with|d _ _ h=>cases h with|sl0 _ ad cap=>simp only[rA]at *;refine⟨_,hrun ad cap rfl (iF _),.d _ _ ?_⟩;have:r-l=0:=aB;rw[this];simp only[List.take_zero];exact .sl0 _ _ _|sl _ _ ad cap val hX hc hs' h1' hv hr=>refine⟨_,hrun (some ad) cap rfl hc,.d _ _ ?_⟩;by_cases he:(es.drop l).take (r-l)=[];have:r-l=0:=(by rw[<- hlen,he];rfl);rw[he,this];exact .sl0 _ _ _;have hpos:0<r-l:=(by rw[<- hlen];exact zal92q.2 he);rw[if_neg aB];have hds:∀(i:Nat)(e:D),((es.drop l).take (r-l))[i]?=some e->es[l+i]?=some e:=(by intro i e he;rw[sI]at he;split at he;rwa [nC]at he;cases he);have:=DRep.sl (w:=w) (X:=g.X) sz ((es.drop l).take (r-l)) (ad.add (l*sz)) (cap-l) (λi j=>val (l+i) j) qEG aB (λi e he=>hs' _ e (hds i e he)) (λi e j c he hc=>h1' _ e j c (hds i e he) hc) (λi e j c he hc=>by rw[F5,show l*sz+(i*sz+j)=(l+i)*sz+j by rw[sM];omega];exact hv _ e j c (hds i e he) hc) (λi e j c he hc=>hr _ e j c (hds i e he) hc);rw[hlen]at this;exact this
theorem Cf{ev:Operand->AV}{hp:List Blk}(id sz by' off len l r:Nat)(ho:o.op=.slice t x lo hi none)(hl:sel C.P t=some (e,sz,by'))(hx:ev x=.msl id sz off len)(hlo:Nv 0 (lo.map ev)=some l)(hhi:Nv len (hi.map ev)=some r)(h1:l<=r)(h2:r<=len):RdOk C o ev hp (.msl id sz (off+l) (r-l)):=RdOk.mk λst hhp hag g a w hs=>by have h:=hs.ev x;rw[hag x fN,hx]at h;have bound:∀(d n:Nat)(q:Option Operand),(∀y,q=some y->y∈o.op.operands)->Nv d (q.map ev)=some (n:Int)->(q.map a.eval=none/\n=d)\/∃k,q.map a.eval=some (.int k n):=(by intro d n q hq hb;cases q with|none=>simp[Nv]at hb;exact .inl ⟨rfl,aB⟩|some y=>have hy:=hs.ev y;rw[hag y (hq y rfl)]at hy;simp only[jB]at hb⊢;unfold Nv at hb;split at hb;rename_i e;cases e;rename_i k m e;rw[bO e]at hy;cases hb;exact .inr ⟨k,by rw[int_inv hy]⟩;cases hb);have hlo':=bound 0 l lo (λy hy=>Ea) hlo;have hhi':=bound len r hi (λy hy=>Ea) hhi;generalize hev:a.eval x=vx at *;have hrun:∀ad cap,vx=.slice ad len cap->len<=cap->(execOp a.eval o).run C.P w=.ok (.value (.slice (if cap=l then ad else ad.map (·.add (l*sz))) (r-l) (cap-l))) w:=(by intro ad cap hv hc;have:=qEY hl w ad len cap (lo.map a.eval) (hi.map a.eval) l r hlo' hhi' h1 aB;simp only[execOp,ho,hev,hv,Option.map_none,Sem.run_bind,this,Result.andThen_ok,Sem.run_pure]);cases h with|msl0 _ _ _ ad=>refine⟨_,hrun ad 0 rfl (iF _),?_⟩;have e1:l=0:=aB;have e2:r=0:=aB;subst e1 e2;exact .msl0 _ _ _ _|msl _ _ _ _ cap b hb hc hp=>refine⟨_,hrun _ cap rfl hc,?_⟩;by_cases hcl:cap=l;have:r-l=0:=aB;have e3:cap-l=0:=aB;rw[this,e3];exact .msl0 _ _ _ _;rw[if_neg hcl];simp only[jB,zR,<- Nat.add_mul];exact .msl id sz (off+l) (r-l) (cap-l) b hb aB (by rw[show off+l+(cap-l)=off+cap by omega];exact hp)
variable {C:Ctx}{ops:Array Oper}{l:List Oper}{K:St->Prop}{fr:Fr}{hp:List Blk}{d:Nat}{ty:TypeId}{pos:String}{after:Array Edge}
theorem gI{op:Op}(v:AV)(hd:decide (d<C.n)=true)(hr:RdOk C ⟨some d,op,ty,pos,after,none⟩ fr.ev hp v)(h:cP C ops l ⟨(d,v)::fr,hp⟩ K):cP C ops (⟨some d,op,ty,pos,after,none⟩::l) ⟨fr,hp⟩ K:=gW rfl (hr.ok hd h)
theorem s_assign{v:AV}(hd:decide (d<C.n)=true)(hx:fr.ev x=v)(h:cP C ops l ⟨(d,v)::fr,hp⟩ K):cP C ops (⟨some d,.assign x,ty,pos,after,none⟩::l) ⟨fr,hp⟩ K:=by subst hx;exact gI _ hd (Ka (.inr rfl)) h
theorem qJD(ety sz:Nat)(hd:decide (d<C.n)=true)(hx:fr.ev x=.d .nilsl)(h:cP C ops l ⟨(d,.msl hp.length sz 0 0)::fr,hp++[.flat ety sz []]⟩ K):cP C ops (⟨some d,.assign x,ty,pos,after,none⟩::l) ⟨fr,hp⟩ K:=by refine s_assign hd hx λg a w hs=>h g a w ?_;have h1:=hs.upgrade d ety sz (by simp[Fr.get]);refine{ h1 with fr:=λt=>?_ };have h2:=h1.fr t;simp only[Fr.get]at h2⊢;split;rename_i e;rw[if_pos e]at h2;exact h2;rename_i e;rw[if_neg e,if_neg e]at h2;exact h2
theorem qEW{bt:TypeId}{e v e':D}(hl:lay C.P t=some (bb,s))(hx:fr.ev x=.mptr id sz idx off)(hy:fr.ev y=.d v)(hs:v.cells.length=s)(hb:hp[id]?=some (.flat bt sz es))(he:es[idx]?=some e)(hone:e.one=false\/v.one=true)(hc:off+s<=e.cells.length)(hv:e.upd off v=e')(h:cP C ops l ⟨fr,hp.set id (.flat bt sz (es.set idx e'))⟩ K):cP C ops (⟨none,.store t x y,ty,pos,after,none⟩::l) ⟨fr,hp⟩ K:=by subst hv;exact gW rfl (Z4 id sz idx off s bb es e v rfl rfl hl hx hy hs hb he hone hc h)
theorem s_alloc(hd:decide (d<C.n)=true)(hz:(C.P.info? t).bind (·.zero)=some z)(hf:(gP z).flat=true)(hc:(gP z).cells=cs)(h:cP C ops l ⟨(d,.mptr hp.length 0 0 0)::fr,hp++[.box t cs]⟩ K):cP C ops (⟨some d,.alloc t,ty,pos,after,none⟩::l) ⟨fr,hp⟩ K:=by subst hc;exact gW rfl (ok_alloc z rfl hd hz hf h)
theorem s_box{v:AV}(hd:decide (d<C.n)=true)(hx:fr.ev x=v)(hf:v.flat=true)(hc:v.cells=cs)(h:cP C ops l ⟨(d,.mptr hp.length 0 0 0)::fr,hp++[.box t cs]⟩ K):cP C ops (⟨some d,.box t x,ty,pos,after,none⟩::l) ⟨fr,hp⟩ K:=by subst hc;exact gW rfl (ok_box v rfl hd hx hf h)
def qCW(op:BinOp)(x y:Int):Option Int:=match op with|.add=>some (x+y)|.sub=>some (x-y)|.mul=>some (x*y)|_=>none
theorem wrap64{n:Int}(h:-9223372036854775808<=n/\n<=9223372036854775807):IntKind.i64.wrap n=n:=by rw[IntKind.wrap_i64];omega
theorem qJC{zd:D}(hd:decide (d<C.n)=true)(hl:sel C.P t=some (e,sz,by'))(hz:(C.P.info? e).bind (·.zero)=some z)(hzd:gP z=.d zd)(hzs:zd.cells.length=sz)(hx:fr.ev x=.d (.int .i64 n))(hy:fr.ev y=.d (.int .i64 n))(hb:by'*n<=281474976710656)(hm:n<=9223372036854775807)(h:cP C ops l ⟨(d,.msl hp.length sz 0 n)::fr,hp++[.flat e sz (List.replicate n zd)]⟩ K):cP C ops (⟨some d,.makeSlice t x y,ty,pos,after,none⟩::l) ⟨fr,hp⟩ K:=gW rfl (qFZ sz by' n z zd rfl hd hl hz hzd hzs hx hy aB qDV aB (by simpa[St.put]using h))
theorem s_lit(xs:List Operand)(hd:decide (d<C.n)=true)(hl:sel C.P t=some (e,sz,by'))(hz:(C.P.info? e).bind (·.zero)=some z)(hp':vD parts xs)(hx:xs.map fr.ev=ds.map AV.d)(hn:ds.length=n)(hs:∀d∈ds,d.cells.length=sz)(hsmall:n*sz<=16777216)(h:cP C ops l ⟨(d,.msl hp.length sz 0 n)::fr,hp++[.flat e sz ds]⟩ K):cP C ops (⟨some d,.buildSlice t n parts,ty,pos,after,none⟩::l) ⟨fr,hp⟩ K:=gW rfl (Z5 sz by' xs ds z rfl hd hl hz hp' hx hn hs hsmall h)
theorem J3{m:Nat}{u:AV}{es':List D}{fr':Fr}{hp1:List Blk}(hd:decide (d<C.n)=true)(hl:sel C.P t=some (e,sz,by'))(hz:(C.P.info? e).bind (·.zero)=some z)(hzs:z.cells.size=sz)(hx:fr.ev x=.msl id sz 0 n)(hb:hp[id]?=some (.flat e sz es))(hn:n=es.length)(hmv:id<C.k->C.mv id=true)(hy:fr.ev y=u)(hu:SrcA hp sz ds u)(hes:es++ds=es')(hm:es.length+ds.length=m)(hlen:m*by'<=140737488355328)(hlen':m<=9223372036854775807)(hfr:Fr.mapRef (purge id) fr=fr')(hhp:hp.map (Blk.mapRef (purge id))=hp1)(h:cP C ops l ⟨(d,.msl id sz 0 m)::fr',hp1.set id (.flat e sz es')⟩ K):cP C ops (⟨some d,.call { callee:=.builtin .append,args:=#[x,y],argTypes:=#[t,t] },ty,pos,after,none⟩::l) ⟨fr,hp⟩ K:=by subst hes hm hfr hhp;exact gW rfl (Z6 id sz by' n u es ds z rfl hd hl hz hzs hx hb hn hmv hy hu hlen hlen' h)
theorem gy{f:Operand}{r r':AV}{hp2:List Blk}(hd:decide (d<C.n)=true)(hf:fr.ev f=.d (.fn F))(hx:xs.toList.map fr.ev=ds.map .d)(hret:Ret C.P F [] mv (ds.map .d) r hp')(hr:r.mapRef (shift hp.length)=r')(hh:hp'.map (Blk.mapRef (shift hp.length))=hp2)(h:cP C ops l ⟨(d,r')::fr,hp++hp2⟩ K):cP C ops (⟨some d,.call { callee:=.value f,args:=xs,argTypes:=ts },ty,pos,after,none⟩::l) ⟨fr,hp⟩ K:=by subst hr hh;exact gW rfl (ok_callD ds r hp' rfl hd hf hx hret h)
variable {C:Ctx}{st:St}{g:Gh}{a:Act}{w:World}
def wr(ws:List (Nat×Blk))(hp:List Blk):List Blk:=ws.foldl (λh p=>h.set p.1 p.2) hp
theorem Gg:∀(ws:List (Nat×Blk)) (hp:List Blk),(wr ws hp).length=hp.length
  |[],_=>rfl
  |p::r,hp=>by simp only[wr,ey];rw[<- wr,Gg r];simp
def DOk(C:Ctx)(o:Oper)(ev:Operand->AV)(hpn:List Blk)(x:AV)(ws:List (Nat×Blk)):Prop:=∀st:St,HpLe hpn st.hp->(∀p∈ws,p.1<st.hp.length)->(∀p∈ws,hpn[p.1]?=some .dead->st.hp[p.1]?=some .dead)->(∀y∈o.op.operands,st.fr.ev y=ev y)->∀g a w,Sim C st g a w->∀(Q:Exit->Act->World->Prop)(K':Act->World->Prop),(∀v w' g',Sim C ⟨st.fr,wr ws st.hp⟩ g' a w'->ARep w' g' x v->K' (a.put o.dst v) w')->o.wp C.P a w K' Q
theorem RdOk.dok{ev:Operand->AV}{hp:List Blk}{x:AV}(h:RdOk C o ev hp x):DOk C o ev hp x []:=λst h1 _ _ h2 g a w hs Q K' hK=>h st h1 h2 g a w hs Q K' hK
structure Rec where
  on:Bool
  d:Nat
  x:AV
  rs:List Nat
  ws:List (Nat×Blk)
def Np(fr:Fr)(l:List Rec):Fr:=l.foldl (λf r=>(r.d,r.x)::f) fr
def Hs(hp:List Blk)(l:List Rec):List Blk:=l.foldl (λh r=>wr r.ws h) hp
def Jc(rs:List Nat)(hp:List Blk):List Blk:=hp.zipIdx.map λp=>if rs.contains p.2 then p.1 else .dead
theorem mask_le{rs:List Nat}{hp:List Blk}(h:(Jc rs hp)[i]?=some B)(hd:B≠.dead):i∈rs/\hp[i]?=some B:=by simp only[Jc,eS,Vx,Option.map_map,zal165q,Function.comp_def]at h;obtain⟨B',hB',e⟩:=h;simp only[iO]at e;split at e;rename_i hc;subst e;exact⟨fe,hB'⟩;exact absurd e.symm hd
def onA(ops:Array Oper)(fr:Fr)(o:Oper):Option Bool:=
  match o.guard with
  |none=>some true
  |some (j,want)=>match (ops[j]?).bind (·.dst)with
    |some t=>match fr.get t with
      |.d (.bool b)=>some (b == want)
      |.und=>some false
      |_=>none
    |none=>none
def ancs(ops:List Oper):List (List Nat):=ops.foldl (λacc o=>acc++[(o.after.toList.filter (Region.binds .any ·)).foldl (λs e=>if s.contains e.on then s else(acc.getD e.on []).foldl (λs i=>if s.contains i then s else s++[i]) (s++[e.on])) []]) []
def B8(ops:Array Oper)(o:Oper):List Nat:=(o.op.operands.toList.filterMap fun|.tmp t=>some t|_=>none)++(match o.guard with|some (j,_)=>((ops[j]?).bind (·.dst)).toList|none=>[])
def Vc(an:List (List Nat))(i j:Nat):Bool:=(an.getD i []).contains j||(an.getD j []).contains i
def jF:List Nat->Bool
  |[]=>true
  |x::r=>!r.contains x&&jF r
def Lh(ops:List Oper)(m:Nat)(ds:List Nat)(rw:List (List Nat×List Nat)):Bool:=
  let an:=ancs ops
  ops.zipIdx.all (λp=>p.1.after.toList.all λe=>!Region.binds .any e||decide (e.on<p.2))&&jF ds&&rw.all (λp=>jF p.2)&&
  ((List.range m).all fun j => (List.range m).all fun i => i == j || Vc an i j ||
      (!((ops[j]?).any λo=>(B8 ops.toArray o).contains (ds.getD i 0))&&!(((rw.getD j ([],[])).1++(rw.getD j ([],[])).2).any λr=>(rw.getD i ([],[])).2.contains r)))&&
  ((List.range ops.length).all λj=>decide (j<m)||(List.range j).all λi=>(an.getD j []).contains i)
def Lg(q:Nat)(ops:List Oper)(m:Nat)(ds:List Nat)(rw:List (List Nat×List Nat)):Bool:=
  let an:=ancs ops
  ops.zipIdx.all (λp=>p.1.after.toList.all λe=>!Region.binds .any e||decide (e.on<p.2))&&jF ds&&rw.all (λp=>jF p.2)&&
  ((List.range m).all fun j => (List.range m).all fun i => i == j || Vc an i j ||
      (!((ops[j]?).any λo=>(B8 ops.toArray o).contains (ds.getD i 0))&&!(((rw.getD j ([],[])).1++(rw.getD j ([],[])).2).any λr=>(rw.getD i ([],[])).2.contains r)))&&
  ((List.range ops.length).all λj=>decide (j<m)||(List.range j).all λi=>(an.getD j []).contains i||(j == m&&i == q))
def yE(r:Rec):List Nat×List Nat:=(r.rs,r.ws.map (·.1))
def DstD(C:Ctx)(o:Oper)(d:Nat)(x y:AV):Prop:=(o.dst=some d/\decide (d<C.n)=true/\x=y)\/(o.dst=none/\x=.junk)
theorem DstD.sim{d:Nat}{x y:AV}{st:St}{g:Gh}{a:Act}{w:World}(hd:DstD C o d x y)(hs:Sim C st g a w)(hx:ARep w g y v):Sim C ⟨(d,x)::st.fr,st.hp⟩ g (a.put o.dst v) w:=by rcases hd with⟨e,hn,rfl⟩|⟨e,rfl⟩;rw[e];exact hs.put (by simpa using hn) hx;rw[e];refine Sim.forget (st:=st) hs λt=>?_;simp only[Fr.get];split;exact .inr rfl;exact .inl rfl
inductive TDr (C:Ctx) (ops:Array Oper) (K:St->Prop):List Oper->Fr->List Blk->List Rec->Prop
  |tail (l:List Oper) (fr:Fr) (hp:List Blk) (acc:List Rec) (hE:Lh ops.toList acc.length (acc.map Rec.d) (acc.map yE)=true) (h:cP C ops l ⟨fr,hp⟩ K):TDr C ops K l fr hp acc
  |tailq (q:Nat) (o oq:Oper) (l:List Oper) (fr:Fr) (hp:List Blk) (acc:List Rec) (dq:Nat) (hE:Lg q ops.toList acc.length (acc.map Rec.d) (acc.map yE)=true) (hq:ops.toList[q]?=some oq) (hdq:(acc.map Rec.d)[q]?=some dq) (hws:(acc.map yE)[q]?.map (·.2)=some [])
      (h:cP C ops (o::l) ⟨fr,hp⟩ K) (h2:cP C ops (o::oq::l) ⟨(dq,.junk)::fr,hp⟩ K):TDr C ops K (o::l) fr hp acc
  |step (o:Oper) (l:List Oper) (fr:Fr) (hp:List Blk) (acc:List Rec) (d:Nat) (x:AV) (rs:List Nat) (ws:List (Nat×Blk)) (y:AV) (hd:DstD C o d x y) (hon:onA ops fr o=some true)
      (hw:∀p∈ws,p.1<hp.length/\(hp[p.1]?=some .dead\/p.1∈rs)) (h:DOk C o fr.ev (Jc rs hp) y ws) (hk:TDr C ops K l ((d,x)::fr) (wr ws hp) (acc++[⟨true,d,x,rs,ws⟩])):TDr C ops K (o::l) fr hp acc
  |skip (o:Oper) (l:List Oper) (fr:Fr) (hp:List Blk) (acc:List Rec) (d:Nat) (x:AV) (hd:DstD C o d x .und) (hon:onA ops fr o=some false)
      (hk:TDr C ops K l ((d,x)::fr) hp (acc++[⟨false,d,x,[],[]⟩])):TDr C ops K (o::l) fr hp acc
inductive Anc (ops:List Oper):Nat->Nat->Prop
  |one (j:Nat) (o:Oper) (e:Edge) (ho:ops[j]?=some o) (he:e∈o.after) (hb:Region.binds .any e=true):Anc ops j e.on
  |more (j:Nat) (o:Oper) (e:Edge) (i:Nat) (ho:ops[j]?=some o) (he:e∈o.after) (hb:Region.binds .any e=true) (h:Anc ops e.on i):Anc ops j i
theorem Nq{α β:Type}(f:β->α->β)(I:β->Prop):∀(l:List α)(b:β),(∀b x,x∈l->I b->I (f b x))->I b->I (l.foldl f b)
  |[],_,_,h=>h
  |x::r,b,step,h=>Nq f I r _ (λb y hy hb=>step b y ya hb) (step b x aN h)
theorem qTU(ops:List Oper):∀(l pre:List Oper)(acc:List (List Nat)),ops=pre++l->acc.length=pre.length->(∀(j i:Nat),i∈acc.getD j []->Anc ops j i)->
    ∀(j i:Nat),i∈(l.foldl (λacc o=>acc++[(o.after.toList.filter (Region.binds .any ·)).foldl (λs e=>if s.contains e.on then s else(acc.getD e.on []).foldl (λs i=>if s.contains i then s else s++[i]) (s++[e.on])) []]) acc).getD j []->Anc ops j i
  |[],_,acc,_,_,h=>h
  |o::l,pre,acc,ho,hl,h=>by
    simp only[ey];have hoj:ops[pre.length]?=some o:=by rw[ho];simp
    refine qTU ops l (pre++[o]) _ (by rw[ho];simp) (by simp[hl]) ?_;intro j i hi;rw[wC,kN]at hi;split at hi;exact h j i (by rw[wC];exact hi);rename_i hge;by_cases hj:j=acc.length;subst hj;simp only[Bf,qDH,sK]at hi
    have key:∀i∈(o.after.toList.filter (Region.binds .any ·)).foldl (λs e=>if s.contains e.on then s else(acc.getD e.on []).foldl (λs i=>if s.contains i then s else s++[i]) (s++[e.on])) [],Anc ops acc.length i:=by
      refine Nq _ (λs=>∀i∈s,Anc ops acc.length i) _ _ ?_ (λi hi=>by simp at hi);intro s e he hs;simp only[zal111q,zal10q]at he;show ∀i∈(if s.contains e.on then s else _),Anc ops acc.length i;split;exact hs;refine Nq _ (fun s => ∀ i ∈ s, Anc ops acc.length i) _ _ ?_ ?_
      · intro s' x hx hs'
        show ∀i∈(if s'.contains x then s' else s'++[x]),Anc ops acc.length i;split;exact hs';intro i hi;simp only[wX,zal121q]at hi;rcases hi with hi|rfl
        exact hs' i hi;exact .more _ o e _ (by rw[hl];exact hoj) he.1 he.2 (h e.on i hx)
      intro i hi;simp only[wX,zal121q]at hi;rcases hi with hi|rfl
      exact hs i hi;exact .one _ o e (by rw[hl];exact hoj) he.1 he.2
    exact key i hi;rw [nB (by simp; omega)] at hi;simp at hi
theorem Hc(ops:List Oper)(h:i∈(ancs ops).getD j []):Anc ops j i:=qTU ops ops [] [] rfl rfl (λj i h=>nV) j i h
def Cl(ops:List Oper)(S:Nat->Bool):Prop:=∀(i:Nat)(o:Oper),ops[i]?=some o->S i=true->∀e∈o.after,Region.binds .any e=true->S e.on=true
theorem we{ops:List Oper}(hc:Cl ops S)(h:Anc ops j i):(∀o,ops[j]?=some o->∀e∈o.after,Region.binds .any e=true->S e.on=true)->S i=true:=by induction h with|one j o e ho he hb=>intro hj;exact hj o ho e he hb|more j o e i ho he hb _ ih=>intro hj;exact ih λo' ho'=>hc _ o' ho' (hj o ho e he hb)
structure Part (fr0:Fr) (hp0:List Blk) (recs:List Rec) (S:Nat->Bool) (st:St):Prop where
  put:∀(i:Nat)(r:Rec),recs[i]?=some r->S i=true->st.fr.get r.d=r.x
  old:∀t,(∀(i:Nat)(r:Rec),recs[i]?=some r->S i=true->r.d≠t)->st.fr.get t=fr0.get t
  wput:∀(i:Nat)(r:Rec)(p:Nat×Blk),recs[i]?=some r->S i=true->p∈r.ws->(∀(j:Nat)(s:Rec),recs[j]?=some s->S j=true->i<j->∀q∈s.ws,q.1≠p.1)->st.hp[p.1]?=some p.2
  wold:∀b,(∀(i:Nat)(r:Rec),recs[i]?=some r->S i=true->∀p∈r.ws,p.1≠b)->st.hp[b]?=hp0[b]?
  len:st.hp.length=hp0.length
structure Apart (hp0:List Blk) (recs:List Rec):Prop where
  ds:∀(i j:Nat)(r s:Rec),recs[i]?=some r->recs[j]?=some s->r.d=s.d->i=j
  wn:∀(i:Nat)(r:Rec),recs[i]?=some r->(r.ws.map (·.1)).Nodup
  lt:∀(i:Nat)(r:Rec),recs[i]?=some r->∀p∈r.ws,p.1<hp0.length
theorem We:∀(ws:List (Nat×Blk)) (hp:List Blk) (b:Nat),(∀p∈ws,p.1<hp.length)->(ws.map (·.1)).Nodup->(∀p∈ws,p.1=b->(wr ws hp)[b]?=some p.2)/\((∀p∈ws,p.1≠b)->(wr ws hp)[b]?=hp[b]?)
  |[],hp,b,_,_=>⟨λp hp'=>by simp at hp',λ_=>rfl⟩
  |q::r,hp,b,hl,hn=>by
    simp only[iW,zal125q]at hn;have ih:=We r (hp.set q.1 q.2) b (λp hp'=>by simpa using hl p (by simp[hp'])) hn.2;refine⟨λp hp' e=>?_,λh=>?_⟩;simp only[ci]at hp';rcases hp' with rfl|hp'
    subst e;show(wr r (hp.set p.1 p.2))[p.1]?=some p.2;rw[ih.2 λq' hq' e=>hn.1 (zal115q.2 ⟨q',hq',e⟩),iC,if_pos rfl,if_pos (hl p aN)];exact ih.1 p hp' e;show(wr r (hp.set q.1 q.2))[b]?=hp[b]?;rw[ih.2 λp hp'=>h p (by simp[hp']),iC,if_neg (h q aN)]
variable {recs:List Rec}
theorem Part.step(h:Part fr0 hp0 recs S st)(ha:Apart hp0 recs){r:Rec}(hj:recs[j]?=some r)(hS:S j=false)(hlast:∀(i:Nat)(s:Rec),recs[i]?=some s->S i=true->∀p∈r.ws,∀q∈s.ws,p.1=q.1->i<j)(hS':∀i,S' i=(S i||i == j)):Part fr0 hp0 recs S' ⟨(r.d,r.x)::st.fr,wr r.ws st.hp⟩:=by have hin:∀i,S' i=true->S i=true\/i=j:=λi hi=>(by rw[hS' i]at hi;simpa using hi);have hwl:∀p∈r.ws,p.1<st.hp.length:=λp hp=>(by rw[h.len];exact ha.lt j r hj p hp);refine⟨λi s hi hSi=>?_,λt ht=>?_,λi s p hi hSi hp hno=>?_,λb hb=>?_,by rw[Gg];exact h.len⟩;simp only[Fr.get];by_cases e:r.d=s.d;have:=ha.ds j i r s hj hi e;subst this;rw[hj]at hi;cases hi;rw[if_pos rfl];rw[if_neg e];rcases hin i hSi with h1|rfl;exact h.put i s hi h1;rw[hj]at hi;cases hi;exact absurd rfl e;simp only[Fr.get];rw[if_neg (ht j r hj (by rw[hS'];simp))];exact h.old t λi s hi hSi=>ht i s hi (by rw[hS',hSi];rfl);rcases hin i hSi with h1|rfl;have hne:∀q∈r.ws,q.1≠p.1:=λq hq e=>hno j r hj (by rw[hS'];simp) (hlast i s hi h1 q hq p hp e) q hq e;show(wr r.ws st.hp)[p.1]?=some p.2;rw[(We r.ws st.hp p.1 hwl (ha.wn j r hj)).2 hne];exact h.wput i s p hi h1 hp λk u hk hSk hik=>hno k u hk (by rw[hS',hSk];rfl) hik;rw[hj]at hi;cases hi;exact(We r.ws st.hp p.1 hwl (ha.wn _ r hj)).1 p hp rfl;show(wr r.ws st.hp)[b]?=hp0[b]?;rw[(We r.ws st.hp b hwl (ha.wn j r hj)).2 λp hp=>hb j r hj (by rw[hS'];simp) p hp];exact h.wold b λi s hi hSi=>hb i s hi (by rw[hS',hSi];rfl)
theorem Part.start(fr0:Fr)(hp0:List Blk)(recs:List Rec)(hS:∀i,i<recs.length->S i=false):Part fr0 hp0 recs S ⟨fr0,hp0⟩:=⟨λi _ hi h=>absurd ((hS i (zal72q.1 hi).1).symm.trans h) fS,λ_ _=>rfl,λi _ _ hi h _ _=>absurd ((hS i (zal72q.1 hi).1).symm.trans h) fS,λ_ _=>rfl,rfl⟩
theorem Part.text{fr0 : Fr}{hp0 : List Blk}{recs : List Rec}(ha : Apart hp0 recs) : ∀ k, k <= recs.length -> Part fr0 hp0 recs (fun i => decide (i < k)) ⟨Np fr0 (recs.take k), Hs hp0 (recs.take k)⟩
  |0,_=>Part.start fr0 hp0 recs λi _=>aN
  |k+1,hk=>by
    have ih:=Part.text (fr0:=fr0) ha k aB;have hj:recs[k]?=some recs[k]:=jT aB
    have hstep:=ih.step ha hj aN (λi s _ hi p _ q _ _=>of_decide_eq_true hi) (S':=λi=>decide (i<k+1)) λi=>by
      rw[zal18q];simp;omega
    have htake:recs.take (k+1)=recs.take k++[recs[k]]:=by rw[Qx]
    rw[htake];simp only[Np,Hs,xz,ey,List.foldl_nil];exact hstep
theorem Part.getEq{st st':St}(h:Part fr0 hp0 recs S st)(h':Part fr0 hp0 recs S' st')(t:Nat)(hS:∀(i:Nat)(r:Rec),recs[i]?=some r->r.d=t->S i=S' i):st.fr.get t=st'.fr.get t:=by by_cases hex:∃(i:Nat)(r:Rec),recs[i]?=some r/\S i=true/\r.d=t;obtain⟨i,r,hi,hSi,rfl⟩:=hex;rw[h.put i r hi hSi,h'.put i r hi (by rw[<- hS i r hi rfl];exact hSi)];rw[h.old t λi r hi hSi e=>hex ⟨i,r,hi,hSi,e⟩,h'.old t λi r hi hSi e=>hex ⟨i,r,hi,by rw[hS i r hi e];exact hSi,e⟩]
theorem Oq(recs:List Rec)(S:Nat->Bool)(b:Nat):∀n,(∃(i:Nat)(r:Rec)(p:Nat×Blk),i<n/\recs[i]?=some r/\S i=true/\p∈r.ws/\p.1=b)->
    ∃(i:Nat)(r:Rec)(p:Nat×Blk),recs[i]?=some r/\S i=true/\p∈r.ws/\p.1=b/\∀(j:Nat)(s:Rec),j<n->recs[j]?=some s->S j=true->i<j->∀q∈s.ws,q.1≠b
  |0,⟨i,_,_,hi,_⟩=>absurd hi (rL i)
  |n+1,h=>by
    by_cases hn:∃(r:Rec)(p:Nat×Blk),recs[n]?=some r/\S n=true/\p∈r.ws/\p.1=b;obtain⟨r,p,h1,h2,h3,h4⟩:=hn;exact⟨n,r,p,h1,h2,h3,h4,λj s hj _ _ hij=>aB⟩
    obtain ⟨i, r, p, h1, h2, h3, h4, h5⟩ := Oq recs S b n (by
      obtain⟨i,r,p,h0,h1,h2,h3,h4⟩:=h;refine⟨i,r,p,?_,h1,h2,h3,h4⟩;rcases fU i n with hlt|hge
      exact hlt;have : i = n := aB
      subst this;exact absurd ⟨r,p,h1,h2,h3,h4⟩ hn)
    refine⟨i,r,p,h1,h2,h3,h4,λj s hj hs hSj hij q hq e=>?_⟩;rcases fU j n with hlt|hge
    exact h5 j s hlt hs hSj hij q hq e;have : j = n := aB
    subst this;exact hn ⟨s,q,hs,hSj,hq,e⟩
theorem Part.hpEq{st st':St}(h:Part fr0 hp0 recs S st)(h':Part fr0 hp0 recs S' st')(b:Nat)(hS:∀(i:Nat)(r:Rec)(p:Nat×Blk),recs[i]?=some r->p∈r.ws->p.1=b->S i=S' i):st.hp[b]?=st'.hp[b]?:=by by_cases hex:∃(i:Nat)(r:Rec)(p:Nat×Blk),i<recs.length/\recs[i]?=some r/\S i=true/\p∈r.ws/\p.1=b;obtain⟨i,r,p,hi,hSi,hp,rfl,hno⟩:=Oq recs S b recs.length hex;rw[h.wput i r p hi hSi hp λj s hj hSj hij=>hno j s (zal72q.1 hj).1 hj hSj hij,h'.wput i r p hi (by rw[<- hS i r p hi hp rfl];exact hSi) hp λj s hj hSj hij q hq e=>hno j s (zal72q.1 hj).1 hj (by rw[hS j s q hj hq e];exact hSj) hij q hq e];have hlt:∀{i:Nat}{r:Rec},recs[i]?=some r->i<recs.length:=λhi=>(zal72q.1 hi).1;rw[h.wold b λi r hi hSi p hp e=>hex ⟨i,r,p,hlt hi,hi,hSi,hp,e⟩,h'.wold b λi r hi hSi p hp e=>hex ⟨i,r,p,hlt hi,hi,by rw[hS i r p hi hp e];exact hSi,hp,e⟩]
theorem Sim.same{st':St}(h:Sim C st g a w)(hf:∀t,st'.fr.get t=st.fr.get t)(hh:st'.hp=st.hp):Sim C st' g a w:=by obtain⟨fr',hp'⟩:=st';simp only at hh;subst hh;exact{ h with fr:=λt=>by have:=h.fr t;rw[<- hf t]at this;exact this }
structure Good (C:Ctx) (ops:Array Oper) (fr0:Fr) (hp0:List Blk) (pre:List Rec) (o:Oper) (r:Rec):Prop where
  on:onA ops (Np fr0 pre) o=some r.on
  yes:r.on=true->(∀p∈r.ws,p.1<(Hs hp0 pre).length/\((Hs hp0 pre)[p.1]?=some .dead\/p.1∈r.rs))/\∃y,DstD C o r.d r.x y/\DOk C o (Np fr0 pre).ev (Jc r.rs (Hs hp0 pre)) y r.ws
  no:r.on=false->DstD C o r.d r.x .und/\r.ws=[]
structure Edges (ops:List Oper) (recs:List Rec) (q:Option Nat):Prop where
  back:∀(i:Nat)(o:Oper),ops[i]?=some o->∀e∈o.after,Region.binds .any e=true->e.on<i
  slot:∀(i j:Nat)(o:Oper)(r:Rec),ops[j]?=some o->recs[i]?=some r->j<recs.length->i≠j->r.d∈B8 ops.toArray o->Anc ops i j\/Anc ops j i
  blk:∀(i j:Nat)(r s:Rec),recs[i]?=some r->recs[j]?=some s->i≠j->∀p∈r.ws,(p.1∈s.rs\/p.1∈s.ws.map (·.1))->Anc ops i j\/Anc ops j i
  last:∀(i j:Nat),j<ops.length->recs.length<=j->i<j->Anc ops j i\/(j=recs.length/\q=some i)
  ds:∀(i j:Nat)(r s:Rec),recs[i]?=some r->recs[j]?=some s->r.d=s.d->i=j
  wn:∀(i:Nat)(r:Rec),recs[i]?=some r->(r.ws.map (·.1)).Nodup
theorem kJ:∀{l:List Nat},jF l=true->l.Nodup
  |[],_=>List.nodup_nil
  |x::r,h=>by
    simp only[jF,tY,gH,Bc,decide_eq_false_iff_not]at h;exact zal125q.2 ⟨h.1,kJ h.2⟩
theorem Lc{α:Type}(f:α->List Nat):∀(l:List α),(l.flatMap f).Nodup->∀(i:Nat)(x:α),l[i]?=some x->(f x).Nodup
  |[],_,i,x,hx=>Js
  |z::r,hn,i,x,hx=>by
    simp only[Ij,zal124q]at hn
    cases i with
    |zero=>simp at hx;subst hx;exact hn.1
    |succ i=>simp at hx;exact Lc f r hn.2.1 i x hx
theorem xc{ops:List Oper}(h:Vc (ancs ops) i j=true):Anc ops i j\/Anc ops j i:=by simp only[Vc,lP,Bc,decide_eq_true_eq]at h;exact h.imp (Hc ops) (Hc ops)
theorem edges_of{ops:List Oper}(h:Lh ops recs.length (recs.map Rec.d) (recs.map yE)=true):Edges ops recs none:=by simp only[Lh,tY,zal39q,zal120q,lP,beq_iff_eq,gH,decide_eq_true_eq]at h;obtain⟨⟨⟨⟨h1,h2⟩,h3⟩,h4⟩,h5⟩:=h;have hds:=kJ h2;have hget:∀(i:Nat)(r:Rec),recs[i]?=some r->(recs.map Rec.d).getD i 0=r.d/\(recs.map yE).getD i ([],[])=yE r:=λi r hi=>xI;refine⟨λi o ho e he hb=>?_,λi j o r ho hr hj hne hm=>?_,λi j r s hr hs hne p hp hm=>?_,λi j hj hm hij=>?_,λi j r s hr hs e=>k7 (x:=r.d) hds (by simp[hr]) (by simp[hs,e]),λi r hr=>kJ (h3 (yE r) (zal115q.2 ⟨r,fQ hr,rfl⟩))⟩;have:=h1 (o,i) zaP84q e (zal10q.2 he);rcases this with h|h;rw[hb]at h;cases h;exact h;have hi:i<recs.length:=(zal72q.1 hr).1;rcases h4 j hj i hi with(h|h)|h;exact absurd h hne;exact xc h;rw[(hget i r hr).1]at h;have:=h.1;simp only[ho,Option.any_some,Bc,decide_eq_false_iff_not]at this;exact absurd hm this;have hi:i<recs.length:=(zal72q.1 hr).1;have hj:j<recs.length:=(zal72q.1 hs).1;rcases h4 j hj i hi with(h|h)|h;exact absurd h hne;exact xc h;have h6:=h.2;rw[(hget i r hr).2,(hget j s hs).2]at h6;simp only[zal44q,Bc,decide_eq_true_eq]at h6;refine absurd ?_ (h6 p.1 ?_);simp only[yE,zal115q];exact⟨p,hp,rfl⟩;simp only[yE,wX];exact hm;rcases h5 j hj with h|h;omega;have:=h i hij;simp only[Bc,decide_eq_true_eq]at this;exact .inl (Hc ops this)
theorem qWV{q:Nat}{ops:List Oper}(h:Lg q ops recs.length (recs.map Rec.d) (recs.map yE)=true):Edges ops recs (some q):=by simp only[Lg,tY,zal39q,zal120q,lP,beq_iff_eq,gH,decide_eq_true_eq]at h;obtain⟨⟨⟨⟨h1,h2⟩,h3⟩,h4⟩,h5⟩:=h;have hds:=kJ h2;have hget:∀(i:Nat)(r:Rec),recs[i]?=some r->(recs.map Rec.d).getD i 0=r.d/\(recs.map yE).getD i ([],[])=yE r:=λi r hi=>xI;refine⟨λi o ho e he hb=>?_,λi j o r ho hr hj hne hm=>?_,λi j r s hr hs hne p hp hm=>?_,λi j hj hm hij=>?_,λi j r s hr hs e=>k7 (x:=r.d) hds (by simp[hr]) (by simp[hs,e]),λi r hr=>kJ (h3 (yE r) (zal115q.2 ⟨r,fQ hr,rfl⟩))⟩;have:=h1 (o,i) zaP84q e (zal10q.2 he);rcases this with h|h;rw[hb]at h;cases h;exact h;have hi:i<recs.length:=(zal72q.1 hr).1;rcases h4 j hj i hi with(h|h)|h;exact absurd h hne;exact xc h;rw[(hget i r hr).1]at h;have:=h.1;simp only[ho,Option.any_some,Bc,decide_eq_false_iff_not]at this;exact absurd hm this;have hi:i<recs.length:=(zal72q.1 hr).1;have hj:j<recs.length:=(zal72q.1 hs).1;rcases h4 j hj i hi with(h|h)|h;exact absurd h hne;exact xc h;have h6:=h.2;rw[(hget i r hr).2,(hget j s hs).2]at h6;simp only[zal44q,Bc,decide_eq_true_eq]at h6;refine absurd ?_ (h6 p.1 ?_);simp only[yE,zal115q];exact⟨p,hp,rfl⟩;simp only[yE,wX];exact hm;rcases h5 j hj with h|h;omega;rcases h i hij with this|this;simp only[Bc,decide_eq_true_eq]at this;exact .inl (Hc ops this);exact .inr ⟨this.1,by rw[this.2]⟩
theorem tdr_recs{ops:Array Oper}{K:St->Prop}{l:List Oper}{fr:Fr}{hp:List Blk}{acc:List Rec}(h:TDr C ops K l fr hp acc):fr=Np fr0 acc->hp=Hs hp0 acc->ops.toList.drop acc.length=l->(∀(i:Nat)(r:Rec),acc[i]?=some r->∃o,ops.toList[i]?=some o/\Good C ops fr0 hp0 (acc.take i) o r)->∃recs,(∀(i:Nat)(r:Rec),recs[i]?=some r->∃o,ops.toList[i]?=some o/\Good C ops fr0 hp0 (recs.take i) o r)/\∃q:Option Nat,Edges ops.toList recs q/\cP C ops (ops.toList.drop recs.length) ⟨Np fr0 recs,Hs hp0 recs⟩ K/\(∀q',q=some q'->∃oq dq,q'<recs.length/\ops.toList[q']?=some oq/\(∃r,recs[q']?=some r/\r.d=dq/\r.ws=[])/\∃o l,ops.toList.drop recs.length=o::l/\cP C ops (o::oq::l) ⟨(dq,.junk)::Np fr0 recs,Hs hp0 recs⟩ K):=by induction h with|tail l fr hp acc hE h=>intro e1 e2 e3 hg;refine⟨acc,hg,none,edges_of hE,?_,λq' h=>by cases h⟩;rw[e3,<- e1,<- e2];exact h|tailq q o oq l fr hp acc dq hE hq hdq hws h h2=>intro e1 e2 e3 hg;refine⟨acc,hg,some q,qWV hE,?_,λq' hq'=>?_⟩;rw[e3,<- e1,<- e2];exact h;cases hq';rw[eS,zal165q]at hdq;obtain⟨r,hr,hrd⟩:=hdq;refine⟨oq,dq,(zal72q.1 hr).1,hq,⟨r,hr,hrd,?_⟩,o,l,e3,?_⟩;rw[eS,hr]at hws;simp only[jB,yE,jA,List.map_eq_nil_iff]at hws;exact hws;rw[<- e1,<- e2];exact h2|step o l fr hp acc d x rs ws y hd hon hw h hk ih=>intro e1 e2 e3 hg;have ho:ops.toList[acc.length]?=some o:=(by have:=congrArg (·[0]?) e3;simpa using this);refine ih (by rw[e1];simp[Np]) (by rw[e2];simp[Hs]) ?_ ?_;have:=congrArg (List.drop 1) e3;simpa[qDJ]using this;intro i r hi;rw[kN]at hi;split at hi;rename_i hlt;obtain⟨o',ho',hG⟩:=hg i r hi;exact⟨o',ho',by rw[Gb aB];exact hG⟩;rename_i hge;have hia:i=acc.length:=(by rcases fU (i-acc.length) 1 with h1|h1;omega;rw[nB sN]at hi;cases hi);subst hia;simp at hi;subst hi;refine⟨o,ho,?_⟩;rw[Gb (fY _),kH];exact⟨by rw[<- e1];exact hon,λ_=>by rw[<- e1,<- e2];exact⟨hw,y,hd,h⟩,λh=>by cases h⟩|skip o l fr hp acc d x hd hon hk ih=>intro e1 e2 e3 hg;have ho:ops.toList[acc.length]?=some o:=(by have:=congrArg (·[0]?) e3;simpa using this);refine ih (by rw[e1];simp[Np]) (by rw[e2];simp[Hs,wr]) ?_ ?_;have:=congrArg (List.drop 1) e3;simpa[qDJ]using this;intro i r hi;rw[kN]at hi;split at hi;rename_i hlt;obtain⟨o',ho',hG⟩:=hg i r hi;exact⟨o',ho',by rw[Gb aB];exact hG⟩;rename_i hge;have hia:i=acc.length:=(by rcases fU (i-acc.length) 1 with h1|h1;omega;rw[nB sN]at hi;cases hi);subst hia;simp at hi;subst hi;refine⟨o,ho,?_⟩;rw[Gb (fY _),kH];exact⟨by rw[<- e1];exact hon,λh=>(by cases h),λ_=>⟨hd,rfl⟩⟩
variable {C:Ctx}{st:St}{g:Gh}{a:Act}{w:World}
def gA(S:Array Bool):Nat->Bool:=λi=>S.getD i false
theorem qh{listed:Array Bool}(h:i<listed.size):listed.getD i true=listed.getD i false:=Gd
theorem Ze{P:Program}{ops:Array Oper}{Q:Exit->Act->World->Prop}(m:Nat)(hb:∀(i:Nat)(o:Oper),ops.toList[i]?=some o->∀e∈o.after,Region.binds .any e=true->e.on<i)(hl:∀(k i:Nat),m<=k->k<i->i<ops.size->Anc ops.toList i k):∀(fuel k:Nat)(listed:Array Bool)(a:Act)(w:World),m<=k->k+fuel=ops.size->listed.size=ops.size->(∀i,i<ops.size->listed.getD i false=decide (i<k))->Cl ops.toList (gA listed)->wpList P ops Q (ops.toList.drop k) a w->wpAny P .any ops Q fuel listed a w:=by intro fuel;induction fuel with|zero=>intro k listed a w hmk hk hsz hlist hcl hw;have hall:Region.ready .any ops listed=[]:=(by rw[List.eq_nil_iff_forall_not_mem];intro i hi;obtain⟨h0,o,ho,_⟩:=mem_ready.1 hi;have hlt:i<ops.size:=(zal5q.1 ho).1;have:=hlist i hlt;rw[qh aB,this]at h0;simp at h0;omega);refine⟨hall,?_⟩;rw[List.drop_eq_nil_of_le iK]at hw;exact hw|succ fuel ih=>intro k listed a w hmk hk hsz hlist hcl hw;have hklt:k<ops.size:=aB;have hok:ops[k]?=some ops[k]:=Jn hklt;have hok':ops.toList[k]?=some ops[k]:=aN;have honly:∀i∈Region.ready .any ops listed,i=k:=(by intro i hi;obtain⟨h0,o,ho,he⟩:=mem_ready.1 hi;have hlt:i<ops.size:=(zal5q.1 ho).1;have hge:k<=i:=(by rw[qh aB,hlist i hlt]at h0;simpa using h0);rcases fU k i with hlt'|hge';have:=we hcl (hl k i hmk hlt' hlt) λo' ho' e he' hb=>(by have:o'=o:=zaP86q;subst this;exact he e he' hb);have hk':=hlist k hklt;simp only[gA]at this;rw[this]at hk';simp at hk';omega);have hready:k∈Region.ready .any ops listed:=(by refine mem_ready.2 ⟨by rw[qh aB,hlist k hklt];simp,ops[k],hok,λe he hbe=>?_⟩;have hlt:=hb k ops[k] hok' e he hbe;rw[hlist e.on aB];simp[hlt]);refine⟨λh=>(by rw[h]at hready;cases hready),λi hi=>?_⟩;have hik:=honly i hi;subst hik;have hdrop:ops.toList.drop i=ops[i]::ops.toList.drop (i+1):=(by rw[V2 (by simpa using hklt)];simp);rw[hdrop]at hw;have hnext:∀a w,wpList P ops Q (ops.toList.drop (i+1)) a w->wpAny P .any ops Q fuel (listed.setIfInBounds i true) a w:=λa w h=>(by refine ih (i+1) _ a w aB aB Q6 (λj hj=>?_) ?_ h;by_cases hji:j=i;subst hji;simp[hsz,hklt];rw[getD_set_ne false (λe=>hji e.symm),hlist j hj,zal18q];simp;omega;intro j o ho hj e he hbe;simp only[gA]at hj⊢;by_cases hji:j=i;subst hji;rw[hok']at ho;cases ho;exact getD_set_true (by rw[hlist e.on (by have:=hb j _ hok' e he hbe;omega)];simpa using hb j _ hok' e he hbe);rw[getD_set_ne false (λe=>hji e.symm)]at hj;exact getD_set_true (hcl j o ho hj e he hbe));unfold wpOp;rw[hok];unfold wpList at hw;simp only;split;rename_i hwant;rw[if_pos hwant]at hw;exact hw.imp (Oper.wp_mono hnext) id;rename_i hwant;rw[if_neg hwant]at hw;exact hnext _ _ hw
theorem qXF{P:Program}{ops:Array Oper}{Q:Exit->Act->World->Prop}(m q:Nat)(oq:Oper)(hqm:q<m)(hmn:m<ops.size)(hoq:ops.toList[q]?=some oq)(hb:∀(i:Nat)(o:Oper),ops.toList[i]?=some o->∀e∈o.after,Region.binds .any e=true->e.on<i)(hl:∀(k i:Nat),m+1<=k->k<i->i<ops.size->Anc ops.toList i k)(hlq:∀i,m<i->i<ops.size->Anc ops.toList i q):∀(fuel:Nat)(listed:Array Bool)(a:Act)(w:World),m+fuel=ops.size->listed.size=ops.size->(∀i,i<ops.size->listed.getD i false=(decide (i<=m)&&!(i == q)))->Cl ops.toList (gA listed)->wpList P ops Q (oq::ops.toList.drop (m+1)) a w->wpAny P .any ops Q fuel listed a w:=by intro fuel listed a w hk hsz hlist hcl hw;cases fuel with|zero=>omega|succ fuel=>have hqlt:q<ops.size:=aB;have hok:ops[q]?=some oq:=(by rw[<- Array.getElem?_toList];exact hoq);have honly:∀i∈Region.ready .any ops listed,i=q:=(by intro i hi;obtain⟨h0,o,ho,he⟩:=mem_ready.1 hi;have hlt:i<ops.size:=(zal5q.1 ho).1;rw[qh aB,hlist i hlt]at h0;by_cases hiq:i=q;exact hiq;have hmi:m<i:=(by simp[hiq]at h0;omega);have:=we hcl (hlq i hmi hlt) λo' ho' e he' hbe=>(by have:o'=o:=zaP86q;subst this;exact he e he' hbe);have hk':=hlist q hqlt;simp only[gA]at this;rw[this]at hk';simp at hk');have hready:q∈Region.ready .any ops listed:=(by refine mem_ready.2 ⟨by rw[qh aB,hlist q hqlt];simp,oq,hok,λe he hbe=>?_⟩;have hlt:=hb q oq hoq e he hbe;rw[hlist e.on aB];simp;omega);refine⟨λh=>(by rw[h]at hready;cases hready),λi hi=>?_⟩;have hik:=honly i hi;subst hik;have hnext:∀a w,wpList P ops Q (ops.toList.drop (m+1)) a w->wpAny P .any ops Q fuel (listed.setIfInBounds i true) a w:=λa w h=>(by refine Ze (m+1) hb hl fuel (m+1) _ a w (fY _) aB Q6 (λj hj=>?_) ?_ h;by_cases hji:j=i;subst hji;simp[hsz,hqlt];omega;rw[getD_set_ne false (λe=>hji e.symm),hlist j hj,zal18q];simp[hji];omega;intro j o ho hj e he hbe;simp only[gA]at hj⊢;by_cases hji:j=i;subst hji;rw[hoq]at ho;cases ho;have:=hb j _ hoq e he hbe;exact getD_set_true (by rw[hlist e.on aB];simp;omega);rw[getD_set_ne false (λe=>hji e.symm)]at hj;exact getD_set_true (hcl j o ho hj e he hbe));unfold wpOp;rw[hok];unfold wpList at hw;simp only;split;rename_i hwant;rw[if_pos hwant]at hw;exact hw.imp (Oper.wp_mono hnext) id;rename_i hwant;rw[if_neg hwant]at hw;exact hnext _ _ hw
def qHJ(S:Nat->Bool):Nat->Nat
  |0=>0
  |n+1=>qHJ S n+if S n then 1 else 0
theorem cnt_le(S:Nat->Bool):∀n,qHJ S n<=n
  |0=>fY _
  |n+1=>by have:=cnt_le S n;simp only[qHJ];split<;>omega
theorem G7{S S':Nat->Bool}:∀n,(∀i,i<n->S i=S' i)->qHJ S n=qHJ S' n
  |0,_=>rfl
  |n+1,h=>by simp only[qHJ,G7 n λi hi=>h i aB,h n aB]
theorem qHH{S S':Nat->Bool}{j:Nat}:∀n,j<n->S j=false->S' j=true->(∀i,i≠j->S' i=S i)->qHJ S' n=qHJ S n+1
  |n+1,hj,h0,h1,h=>by
    simp only[qHJ];by_cases e:j=n;subst e;rw[G7 (S:=S') (S':=S) j λi hi=>h i aB,h0,h1];simp;rw [qHH n aB h0 h1 h, h n (fun e' => e e'.symm)];omega
theorem cnt_lt{S:Nat->Bool}{j:Nat}:∀n,j<n->S j=false->qHJ S n<n
  |n+1,hj,h0=>by
    simp only[qHJ];by_cases e:j=n;subst e;have:=cnt_le S j;rw[h0];simp;omega;have:=cnt_lt n aB h0;split<;>omega
theorem G8(m : Nat) : ∀ n, m <= n -> qHJ (fun i => decide (i < m)) n = m
  |0,h=>by simp only[qHJ];omega
  |n+1,h=>by
    simp only[qHJ];by_cases e:m=n+1;subst e;rw[G7 (S':=λi=>decide (i<n)) n λi hi=>by rw[zal18q];simp;omega,G8 n n (fY _)];simp;rw[G8 m n aB];simp;omega
theorem least{p:Nat->Prop}:∀n,p n->∃k,k<=n/\p k/\∀i,i<k->¬p i
  |0,h=>⟨0,fY _,h,λi hi=>aB⟩
  |n+1,h=>by
    by_cases hex:∃j,j<=n/\p j;obtain⟨j,hj,hp⟩:=hex;obtain⟨k,hk,h1,h2⟩:=least j hp;exact⟨k,aB,h1,h2⟩;exact⟨n+1,fY _,h,λi hi hp=>hex ⟨i,aB,hp⟩⟩
theorem anc_lt{ops:List Oper}(hb:∀(i:Nat)(o:Oper),ops[i]?=some o->∀e∈o.after,Region.binds .any e=true->e.on<i)(h:Anc ops j i):i<j:=by induction h with|one j o e ho he hbe=>exact hb j o ho e he hbe|more j o e i ho he hbe _ ih=>have:=hb j o ho e he hbe;omega
theorem Hw{ops:Array Oper}{t:Nat}(hs:Sim C st g a w)(ht:(ops[i]?).bind (·.dst)=some t)(hv:st.fr.get t=.d (.bool b)):yielded ops a.tmps i=some b:=by have h:=hs.fr t;rw[hv]at h;have h1:=bool_inv h;rw[Jp]at h1;unfold yielded;rw[ht];cases ho:a.tmps[t]? with|none=>rw[ho]at h1;simp[undef]at h1|some v=>rw[ho]at h1;simp only[sK]at h1;subst h1;simp[ho]
theorem qLU(hp:List Blk):∀l:List Rec,(Hs hp l).length=hp.length:=by intro l;have:∀(l:List Rec)(h:List Blk),(l.foldl (λh r=>wr r.ws h) h).length=h.length:=(by intro l;induction l with|nil=>intro h;rfl|cons r l ih=>intro h;simp only[ey];rw[ih,Gg]);exact this l hp
theorem any_all{ops:Array Oper}{K:St->Prop}(hg:∀(i:Nat)(r:Rec),recs[i]?=some r->∃o,ops.toList[i]?=some o/\Good C ops fr0 hp0 (recs.take i) o r)(q:Option Nat)(hE:Edges ops.toList recs q)
    (hT:cP C ops (ops.toList.drop recs.length) ⟨Np fr0 recs,Hs hp0 recs⟩ K) (hT2:∀q',q=some q'->∃oq dq,q'<recs.length/\ops.toList[q']?=some oq/\(∃r,recs[q']?=some r/\r.d=dq/\r.ws=[])/\∃o l,ops.toList.drop recs.length=o::l/\cP C ops (o::oq::l) ⟨(dq,.junk)::Np fr0 recs,Hs hp0 recs⟩ K):
    ∀(fuel:Nat)(listed:Array Bool)(a:Act)(w:World)(st:St)(g:Gh),listed.size=ops.size->Cl ops.toList (gA listed)->(∀i,recs.length<=i->gA listed i=false)->
      qHJ (gA listed) ops.size+fuel=ops.size->Sim C st g a w->Part fr0 hp0 recs (gA listed) st->wpAny C.P .any ops (QN C K) fuel listed a w:=by
  have hm:recs.length<=ops.size:=by
    rcases Jq recs.length with h|h
    omega;obtain ⟨o, ho, _⟩ := hg (recs.length - 1) _ (jT aB);have:=(zal72q.1 ho).1;simp at this;omega
  have ha:Apart hp0 recs:=⟨hE.ds,hE.wn,λi r hi p hp=>by
    obtain⟨o,_,hG⟩:=hg i r hi
    cases hon:r.on with
    |true=>have:=((hG.yes hon).1 p hp).1;rw[qLU]at this;exact this
    |false=>rw[(hG.no hon).2]at hp;simp at hp⟩
  intro fuel
  induction fuel with
  |zero=>
    intro listed a w st g hsz hcl htl hc hs hp
    have hall:∀i,i<ops.size->gA listed i=true:=λi hi=>by
      cases h:gA listed i with
      |true=>rfl
      |false=>have:=cnt_lt ops.size hi h;omega
    have hmeq:recs.length=ops.size:=by
      rcases fU recs.length ops.size with h|h
      have:=htl recs.length (fY _);rw[hall _ h]at this;cases this;omega
    refine Ze recs.length hE.back (λk i hk hki hi=>(hE.last k i Io aB hki).resolve_right (λh=>aB)) 0 recs.length listed a w (fY _) aB hsz (λi hi=>by have:=hall i hi;simp only[gA]at this;rw[this];simp;omega) hcl ?_;have htext:=Part.text (fr0:=fr0) ha recs.length (fY _);rw[kH]at htext;refine hT g a w (hs.same (λt=>(hp.getEq htext t λi r hi _=>?_).symm) (uS λb=>(hp.hpEq htext b λi r p hi _ _=>?_).symm));have:=(zal72q.1 hi).1;rw[hall i aB];simp[this];have:=(zal72q.1 hi).1;rw[hall i aB];simp[this]
  |succ fuel ih=>
    intro listed a w st g hsz hcl htl hc hs hp;by_cases hfull:∀i,i<recs.length->gA listed i=true
    -- the rest goes one by one
    have hS:∀i,i<ops.size->listed.getD i false=decide (i<recs.length):=λi hi=>by
      by_cases h:i<recs.length;have:=hfull i h;simp only[gA]at this;rw[this];simp[h];have:=htl i aB;simp only[gA]at this;rw[this];simp[h]
    have hcm:qHJ (gA listed) ops.size=recs.length:=by
      rw[G7 (S:=gA listed) (S':=λi=>decide (i<recs.length)) ops.size hS];exact G8 _ _ hm
    refine Ze recs.length hE.back (λk i hk hki hi=>(hE.last k i Io aB hki).resolve_right (λh=>aB)) (fuel+1) recs.length listed a w (fY _) aB hsz hS hcl ?_;have htext:=Part.text (fr0:=fr0) ha recs.length (fY _);rw[kH]at htext;refine hT g a w (hs.same (λt=>(hp.getEq htext t λi r hi _=>?_).symm) (uS λb=>(hp.hpEq htext b λi r p hi _ _=>?_).symm));have:=(zal72q.1 hi).1;rw[hfull i this];simp[this];have:=(zal72q.1 hi).1;rw[hfull i this];simp[this]
    have hex:∃i,i<recs.length/\gA listed i=false:=by
      refine Classical.byContradiction λh=>hfull λi hi=>?_
      cases hv:gA listed i with
      |true=>rfl
      |false=>exact absurd ⟨i,hi,hv⟩ h
    obtain⟨i0,hi0,hv0⟩:=hex;refine⟨λhnil=>?_,λi hi=>?_⟩
    · -- the first that has not come may come
      obtain⟨k,hk,hk1,hk2⟩:=least (p:=λi=>gA listed i=false) i0 hv0;have hklt:k<ops.size:=aB
      have hmem:k∈Region.ready .any ops listed:=by
        refine mem_ready.2 ⟨by rw[qh aB];exact hk1,ops[k],Jn hklt,λe he hbe=>?_⟩;have:=hE.back k ops[k] (by simp[hklt]) e he hbe;have h1:=hk2 e.on this;simpa[gA]using h1
      rw[hnil]at hmem;cases hmem
    obtain⟨hun,o,ho,he⟩:=mem_ready.1 hi;have hlt:i<ops.size:=(zal5q.1 ho).1;have hun':gA listed i=false:=by rw[qh aB]at hun;exact hun
    have hoL:ops.toList[i]?=some o:=by simpa using ho
    have hedge:∀o',ops.toList[i]?=some o'->∀e∈o'.after,Region.binds .any e=true->gA listed e.on=true:=λo' ho' e he' hb=>by
      rw[hoL]at ho';cases ho';exact he e he' hb
    rcases fU i recs.length with him|hge
    rotate_left
    · -- the first of the rest comes ahead of q
      have hone:∀i1,i1<recs.length->gA listed i1=false->i=recs.length/\q=some i1:=λi1 h1 h2=>by
        rcases hE.last i1 i D7 hge aB with h|h
        have:=we hcl h hedge;rw[this]at h2;cases h2;exact h
      obtain⟨him,hqi⟩:=hone i0 hi0 hv0;obtain⟨oq,dq,hq1,hq2,⟨rq,hq3,hq4,hq5⟩,o1,l1,hdr,hTq⟩:=hT2 i0 hqi
      have hothers:∀i1,i1<recs.length->i1≠i0->gA listed i1=true:=λi1 h1 h2=>by
        cases hv:gA listed i1 with
        |true=>rfl
        |false=>
          have:=(hone i1 h1 hv).2;rw[hqi]at this;exact absurd (bO this).symm h2
      have ho1:o1=o/\l1=ops.toList.drop (recs.length+1):=by
        have h1:=congrArg (·[0]?) hdr;have h2:=congrArg (List.drop 1) hdr;simp only[nC,cg,qDH,<- him,hoL]at h1;rw[qDJ]at h2;exact⟨(bO h1).symm,by simpa using h2.symm⟩
      obtain⟨rfl,rfl⟩:=ho1;have htext:=Part.text (fr0:=fr0) ha recs.length (fY _);rw[kH]at htext
      have hsim:Sim C ⟨(dq,.junk)::Np fr0 recs,Hs hp0 recs⟩ g a w:=by
        have hh:Hs hp0 recs=st.hp:=uS λb=>(htext.hpEq hp b λi1 r p h1 hpw hpb=>by
          have h1':=(zal72q.1 h1).1;by_cases e:i1=i0;subst e;rw[hq3]at h1;cases h1;rw[hq5]at hpw;simp at hpw
          rw[hothers i1 h1' e];simp[h1'])
        rw[hh];refine Sim.forget (st:=st) hs λt=>?_;simp only[Fr.get];split;exact .inr rfl;rename_i hne
        exact .inl (htext.getEq hp t λi1 r h1 hd=>by
          have h1':=(zal72q.1 h1).1;by_cases e:i1=i0;subst e;rw[hq3]at h1;cases h1;exact absurd (hq4.symm.trans hd) hne
          rw[hothers i1 h1' e];simp[h1'])
      have hlist:∀j,j<ops.size->(listed.setIfInBounds i true).getD j false=(decide (j<=recs.length)&&!(j == i0)):=λj hj=>by
        by_cases hji:j=i;subst hji;subst him;simp[hsz,hlt];omega;rw [getD_set_ne false (fun e => hji e.symm)];by_cases e:j=i0;subst e;simp only[gA]at hv0;rw[hv0];simp;rcases fU j recs.length with h1|h1
        · have:=hothers j h1 e;simp only[gA]at this;rw[this];simp[e];omega
        have:=htl j h1;simp only[gA]at this;rw[this,zal18q];simp;omega
      have hnextq:∀a w,wpList C.P ops (QN C K) (oq::ops.toList.drop (recs.length+1)) a w->wpAny C.P .any ops (QN C K) fuel (listed.setIfInBounds i true) a w:=λa w h=>by
        have hcnt:fuel+recs.length=ops.size:=by
          have h1:qHJ (gA listed) ops.size+1=recs.length:=by
            have h2:=qHH (S:=gA listed) (S':=λi=>decide (i<recs.length)) (j:=i0) ops.size aB hv0 (by simp[hi0]) λj hj=>by
              rcases fU j recs.length with h1|h1
              rw[hothers j h1 hj];simp[h1];rw[htl j h1];simp;omega
            rw[G8 recs.length ops.size hm]at h2;omega
          omega
        refine qXF recs.length i0 oq hi0 aB hq2 hE.back (λk j hk hkj hj=>(hE.last k j Mh aB hkj).resolve_right (λh=>aB)) (λj hj hj2=>(hE.last i0 j (by simpa using hj2) aB aB).resolve_right (λh=>aB)) fuel _ a w aB Q6 hlist ?_ h;intro j o' ho' hj e he' hbe;simp only[gA]at hj⊢;by_cases hji:j=i;subst hji;exact getD_set_true (by have:=hedge o' ho' e he' hbe;simpa only[gA]using this);rw [getD_set_ne false (fun e => hji e.symm)] at hj;exact getD_set_true (hcl j o' ho' hj e he' hbe)
      have hw:=hTq g a w hsim;unfold wpOp;rw[ho];unfold wpList at hw;simp only;split;rename_i hwant;rw[if_pos hwant]at hw;exact hw.imp (Oper.wp_mono hnextq) id;rename_i hwant;rw[if_neg hwant]at hw;exact hnextq _ _ hw
    have hri:recs[i]?=some recs[i]:=jT him;obtain⟨o',ho',hG⟩:=hg i _ hri;rw[hoL]at ho';cases ho';have htext:=Part.text (fr0:=fr0) ha i aB
    have hrel:∀j,j≠i->(Anc ops.toList j i\/Anc ops.toList i j)->gA listed j=decide (j<i):=by
      intro j hji h;rcases h with h|h
      have hlt':=anc_lt hE.back h
      cases hv:gA listed j with
      |false=>simp;omega
      |true=>
        have:=we hcl h λo' ho' e he' hb=>hcl j o' ho' hv e he' hb;rw[this]at hun';cases hun'
      have hlt':=anc_lt hE.back h;rw[we hcl h hedge];simp[hlt']
    have hslot:∀t,t∈B8 ops o->st.fr.get t=(Np fr0 (recs.take i)).get t:=by
      intro t ht;refine hp.getEq htext t λj r hj hd=>?_;by_cases hji:j=i;subst hji;rw[hun'];simp;exact hrel j hji (hE.slot j i o r hoL hj him hji (by rw[hd];simpa using ht))
    have hblk:∀b,(b∈recs[i].rs\/b∈recs[i].ws.map (·.1))->st.hp[b]?=(Hs hp0 (recs.take i))[b]?:=by
      intro b hb;refine hp.hpEq htext b λj r p hj hpw hpb=>?_;by_cases hji:j=i;subst hji;rw[hun'];simp;exact hrel j hji (hE.blk j i r _ hj hri hji p hpw (by rw[hpb];exact hb))
    have hnext:∀(st':St)(g':Gh)(a':Act)(w':World),Sim C st' g' a' w'->st'=⟨(recs[i].d,recs[i].x)::st.fr,wr recs[i].ws st.hp⟩->wpAny C.P .any ops (QN C K) fuel (listed.setIfInBounds i true) a' w':=by
      intro st' g' a' w' hs' hst;subst hst
      have hset:∀j,gA (listed.setIfInBounds i true) j=(gA listed j||j == i):=by
        intro j;simp only[gA];by_cases hji:j=i;subst hji;simp[hsz,hlt];rw[getD_set_ne false (λe=>hji e.symm)];simp[hji]
      refine ih _ a' w' _ g' Q6 ?_ ?_ ?_ hs' (hp.step ha hri hun' (λk s hk hSk p hpp q hq e=>?_) hset);intro j o' ho' hj e he' hbe;rw[hset]at hj⊢;by_cases hji:j=i;subst hji;rw[hedge o' ho' e he' hbe];rfl;simp only[beq_eq_false_iff_ne.2 hji,wD]at hj;rw[hcl j o' ho' hj e he' hbe];rfl;intro j hj;rw[hset,htl j hj];simp;omega;have := qHH (S := gA listed) (S' := gA (listed.setIfInBounds i true)) ops.size hlt hun' (by rw [hset]; simp) fun j hj => by rw [hset]; simp [hj]
      omega;have hki : k ≠ i := fun h => by subst h; rw [hun'] at hSk; cases hSk
      have:=hrel k hki (hE.blk k i s _ hk hri hki q hq (.inr (zal115q.2 ⟨p,hpp,e⟩)));rw[hSk]at this;exact of_decide_eq_true this.symm
    unfold wpOp;rw[ho];simp only
    have hwant:Region.wanted o (yielded ops a.tmps)=recs[i].on:=by
      have hon:=hG.on;unfold onA at hon;unfold Region.wanted;split at hon;rename_i hgd;rw[hgd];exact bO hon;rename_i j want hgd;rw[hgd];simp only;split at hon;rename_i t ht;have htm:t∈B8 ops o:=by simp[B8,hgd,ht]
      rw[<- hslot t htm]at hon;split at hon;rename_i b hv;rw[Hw hs ht hv];have:=bO hon;rw[<- this];simp;rename_i hv;rw[Nz hs ht hv];have:=bO hon;rw[<- this];simp;cases hon;cases hon
    cases hon:recs[i].on with
    |true=>
      rw[if_pos (by rw[hwant,hon])];left;obtain⟨hw,y0,hdst,hD⟩:=hG.yes hon;refine hD st (λb B hb hd=>?_) (λp hp'=>?_) (λp hp' hdead=>?_) (λy hy=>?_) g a w hs _ _ λv w' g' hs' hx=>hnext _ _ _ _ (hdst.sim hs' hx) rfl;obtain⟨h1,h2⟩:=mask_le hb hd;rw[hblk b (.inl h1)];exact h2;rw[hp.len];exact ha.lt i _ hri p hp';rw[hblk p.1 (.inr (zal115q.2 ⟨p,hp',rfl⟩))];rcases (hw p hp').2 with h|h
      exact h;have hlt':=(hw p hp').1;simp only[Jc,eS,Vx,Option.map_map,zal165q,Function.comp_def]at hdead;obtain⟨B',hB',e⟩:=hdead;simp only[iO,Bc,h,decide_true,if_true]at e;rw[hB',e]
      cases y with
      |tmp t=>
        simp only[Fr.ev];refine hslot t ?_;simp only[B8,wX,List.mem_filterMap];exact .inl ⟨.tmp t,yR,rfl⟩
      |_=>rfl
    |false=>
      rw[if_neg (by rw[hwant,hon];exact fS)];obtain⟨hdst,hws⟩:=hG.no hon;refine hnext ⟨(recs[i].d,recs[i].x)::st.fr,st.hp⟩ g _ w ?_ (by rw[hws];rfl);exact hdst.sim hs .und
theorem Wu{ops:Array Oper}(hm:C.P.follows .mixedOrders=true)(h:TDr C ops (Q .normal) ops.toList st.fr st.hp []):TWp C (.region id ops true) st Q:=λg a w hs=>by have hs':Sim C st g a w.drew:=hs.drew;obtain⟨recs,hg,q,hE,hT,hT2⟩:=tdr_recs (fr0:=st.fr) (hp0:=st.hp) h rfl rfl rfl λi r hi=>(by simp at hi);have hnone:∀i,gA (Array.replicate ops.size false) i=false:=λi=>(by simp only[gA];rw[Jp,Array.getElem?_replicate];split<;>rfl);have hz:∀n,qHJ (gA (Array.replicate ops.size false)) n=0:=λn=>(by induction n with|zero=>rfl|succ n ih=>simp only[qHJ,ih,hnone];rfl);have hall:=any_all hg q hE hT hT2 ops.size (Array.replicate ops.size false) a w.drew st g aN (λi o ho hi=>absurd ((hnone i).symm.trans hi) fS) (λi _=>hnone i) (by rw[hz];omega) hs' (Part.start _ _ _ λi _=>hnone i);refine Go.wp_mono (wp_region_any hm hall) ?_;intro e a' w' hq;cases e with|normal=>exact hq|_=>exact hq.elim
theorem qIM{ops:Array Oper}{y:Code}(hm:C.P.follows .mixedOrders=true)(h:TDr C ops (λst'=>TWp C y st' Q) ops.toList st.fr st.hp []):TWp C (.seq (.region id ops true) y) st Q:=TQ (Wu hm h)
end Go.TL
namespace Go.TL
open Go.ChangeShapes Go.WideShapes Go.RowKit Go.Deep
variable {P:Program}
def eI(P:Program)(e:TypeId)(cs:List D):D:=match P.underlying e with|some (.struct _)=>.agg cs|some (.array _ _)=>.agg cs|_=>cs.headD .nilsl
inductive HasTy (P:Program):TypeId->List D->Prop
  |bool (t:TypeId) (ht:P.underlying t=some .bool) (b:Bool):HasTy P t [.bool b]
  |int (t:TypeId) (k:IntKind) (ht:P.underlying t=some (.int k)) (n:Int) (h:k.min<=n/\n<=k.max):HasTy P t [.int k n]
  |str (t:TypeId) (ht:P.underlying t=some .string) (s:ByteArray) (h:s.size<=reachBytes):HasTy P t [.str s]
  |sl (t e:TypeId) (ht:P.underlying t=some (.slice e)) (css:List (List D)) (hl:css.length<=reachBytes) (h0:∀cs∈css,cs.length=P.cellsOf e) (h:∀cs∈css,HasTy P e cs):HasTy P t [.sl (P.cellsOf e) (css.map (eI P e))]
  |struct (t:TypeId) (fs:Array Field) (ht:P.underlying t=some (.struct fs)) (cs:List D) (hl:cs.length=P.cellsOf t) (h:∀(i:Nat)(f:Field),fs[i]?=some f->HasTy P f.type ((cs.drop f.offset).take (P.cellsOf f.type))):HasTy P t cs
variable {cs:List D}{e t:TypeId}
theorem HasTy.bool_inv(h:HasTy P t cs)(ht:P.underlying t=some .bool):∃b,cs=[.bool b]:=by cases h with|bool _ _ b=>exact⟨b,rfl⟩|int _ _ h=>rw[ht]at h;cases h|str _ h=>rw[ht]at h;cases h|sl _ _ h=>rw[ht]at h;cases h|struct _ _ h=>rw[ht]at h;cases h
theorem HasTy.int_inv{k:IntKind}(h:HasTy P t cs)(ht:P.underlying t=some (.int k)):∃n,cs=[.int k n]/\k.min<=n/\n<=k.max:=by cases h with|bool _ h=>rw[ht]at h;cases h|int _ _ h n hn=>rw[ht]at h;cases h;exact⟨n,rfl,hn.1,hn.2⟩|str _ h=>rw[ht]at h;cases h|sl _ _ h=>rw[ht]at h;cases h|struct _ _ h=>rw[ht]at h;cases h
theorem HasTy.str_inv(h:HasTy P t cs)(ht:P.underlying t=some .string):∃s,cs=[.str s]/\s.size<=reachBytes:=by cases h with|bool _ h=>rw[ht]at h;cases h|int _ _ h=>rw[ht]at h;cases h|str _ h s hs=>exact⟨s,rfl,hs⟩|sl _ _ h=>rw[ht]at h;cases h|struct _ _ h=>rw[ht]at h;cases h
theorem HasTy.sl_inv(h:HasTy P t cs)(ht:P.underlying t=some (.slice e)):∃css:List (List D),cs=[.sl (P.cellsOf e) (css.map (eI P e))]/\css.length<=reachBytes/\(∀cs∈css,cs.length=P.cellsOf e)/\∀cs∈css,HasTy P e cs:=by cases h with|bool _ h=>rw[ht]at h;cases h|int _ _ h=>rw[ht]at h;cases h|str _ h=>rw[ht]at h;cases h|sl _ _ h css h1 h2 h3=>rw[ht]at h;cases h;exact⟨css,rfl,h1,h2,h3⟩|struct _ _ h=>rw[ht]at h;cases h
theorem HasTy.struct_inv{fs:Array Field}(h:HasTy P t cs)(ht:P.underlying t=some (.struct fs)):cs.length=P.cellsOf t/\∀(i:Nat)(f:Field),fs[i]?=some f->HasTy P f.type ((cs.drop f.offset).take (P.cellsOf f.type)):=by cases h with|bool _ h=>rw[ht]at h;cases h|int _ _ h=>rw[ht]at h;cases h|str _ h=>rw[ht]at h;cases h|sl _ _ h=>rw[ht]at h;cases h|struct _ _ h _ h1 h2=>rw[ht]at h;cases h;exact⟨h1,h2⟩
theorem qST{α:Type}{e:TypeId}(enc:α->D)(wf:α->Prop)(hinv:∀cs,cs.length=P.cellsOf e->HasTy P e cs->∃x,wf x/\eI P e cs=enc x):∀css:List (List D),(∀cs∈css,cs.length=P.cellsOf e)->(∀cs∈css,HasTy P e cs)->
    ∃xs:List α,xs.length=css.length/\(∀x∈xs,wf x)/\css.map (eI P e)=xs.map enc
  |[],_,_=>⟨[],rfl,λx hx=>Js,rfl⟩
  |cs::r,h0,h=>by
    obtain⟨x,hx,he⟩:=hinv cs (h0 cs aN) (h cs aN);obtain⟨xs,h1,h2,h3⟩:=qST enc wf hinv r (λc hc=>h0 c (by simp[hc])) (λc hc=>h c (by simp[hc]));refine⟨x::xs,x8,λy hy=>?_,by simp[he,h3]⟩;simp only[ci]at hy;rcases hy with rfl|hy
    exact hx;exact h2 y hy
theorem HasTy.list{α:Type}(h:HasTy P t cs)(ht:P.underlying t=some (.slice e))(enc:α->D)(wf:α->Prop)(hinv:∀cs,cs.length=P.cellsOf e->HasTy P e cs->∃x,wf x/\eI P e cs=enc x):∃xs:List α,cs=[.sl (P.cellsOf e) (xs.map enc)]/\xs.length<=reachBytes/\∀x∈xs,wf x:=by obtain⟨css,rfl,h1,h2,h3⟩:=h.sl_inv ht;obtain⟨xs,e1,e2,e3⟩:=qST enc wf hinv css h2 h3;exact⟨xs,by rw[e3],aB,e2⟩
def ql(P:Program):List Field->Nat->Nat->Bool
  |[],o,n=>o == n
  |f::r,o,n=>f.offset == o&&ql P r (o+P.cellsOf f.type) n
def qFS(P:Program)(S:List TypeId)(t:TypeId):Bool:=match P.underlying t with|some .bool=>true|some (.int _)=>true|some .string=>true|some (.slice e)=>S.contains e&&decide (0<P.cellsOf e/\0<P.bytesOf e)&&(match P.underlying e with|some (.struct _)=>true|some (.array _ _)=>true|_=>P.cellsOf e == 1)|some (.struct fs)=>ql P fs.toList 0 (P.cellsOf t)&&fs.toList.all λf=>S.contains f.type|_=>false
def Kj(P:Program)(S:List TypeId):Bool:=S.all (qFS P S)
variable {H:Type}{enc:TypeId×Value->H}{w:World}{base:Nat}{spare:Nat->Bool}{held:Bool}
theorem tiles{cs : List Value}(S : List TypeId)(m : Nat)(ok : ∀ f : Field, f.type ∈ S -> ∀ (cs : List Value) (x : DataW H × List MemPlace), DataW.trod enc P w base spare held m f.type cs = some x -> (∀ n ∈ x.1.weights P f.type, n <= reachBytes) ->
      ∃ds,HasTy P f.type ds/\Pw (DRep w (·<w.heap.size)) ds cs/\∀d∈ds,d.one=true) (tot:Nat) (hcs:cs.length=tot):
    ∀(fs:List Field)(o:Nat),ql P fs o tot=true->(∀f∈fs,f.type∈S)->(∀f∈fs,∃x,DataW.trod enc P w base spare held m f.type ((cs.drop f.offset).take (P.cellsOf f.type))=some x/\∀n∈x.1.weights P f.type,n<=reachBytes)->o<=tot->
      ∃ds,Pw (DRep w (·<w.heap.size)) ds (cs.drop o)/\(∀d∈ds,d.one=true)/\∀f∈fs,o<=f.offset/\HasTy P f.type ((ds.drop (f.offset-o)).take (P.cellsOf f.type))
  |[],o,ht,_,_,_=>by
    simp only[ql,beq_iff_eq]at ht;refine⟨[],⟨iK,λi x y hx=>Js⟩,λd hd=>by simp at hd,λf hf=>by simp at hf⟩
  |f::r,o,ht,hp,hx,hle=>by
    simp only[ql,tY,beq_iff_eq]at ht;obtain⟨x,hfx,hwx⟩:=hx f aN;obtain⟨d1,t1,p1,o1⟩:=ok f (hp f aN) _ x hfx hwx
    have hle':o+P.cellsOf f.type<=tot:=by
      have:∀(l:List Field)(k:Nat),ql P l k tot=true->k<=tot:=by
        intro l
        induction l with
        |nil=>intro k h;simp only[ql,beq_iff_eq]at h;omega
        |cons g l ih=>intro k h;simp only[ql,tY,beq_iff_eq]at h;have:=ih _ h.2;omega
      exact this r _ ht.2
    obtain⟨d2,p2,o2,t2⟩:=tiles S m ok tot hcs r (o+P.cellsOf f.type) ht.2 (λg hg=>hp g (by simp[hg])) (λg hg=>hx g (by simp[hg])) hle';have hl1:d1.length=P.cellsOf f.type:=by have:=p1.1;simp at this;omega
    have hsplit:cs.drop o=(cs.drop o).take (P.cellsOf f.type)++cs.drop (o+P.cellsOf f.type):=by
      rw[<- List.drop_drop,Qy]
    refine⟨d1++d2,?_,λd hd=>?_,λg hg=>?_⟩;rw[hsplit];rw[ht.1]at p1;exact p1.append p2;simp only[wX]at hd;rcases hd with hd|hd
    exact o1 d hd;exact o2 d hd;simp only[ci]at hg;rcases hg with rfl|hg
    refine ⟨aB, ?_⟩;rw[ht.1,Bf,List.drop_zero,Gb aB,uG aB];exact t1;obtain⟨h1,h2⟩:=t2 g hg;refine⟨aB,?_⟩;rw[show g.offset-o=d1.length+(g.offset-(o+P.cellsOf f.type)) by omega,List.drop_append];simp only[Nat.add_sub_cancel_left];rw[List.drop_eq_nil_of_le aB,pO];exact h2
theorem N1{P:Program}{e:TypeId}:∀{l:List (DataW H)} {d:DataW H},d∈l->∀n∈d.weights P e,n∈DataW.weightsAll P e l
  |x::r,d,hd,n,hn=>by
    simp only[DataW.weightsAll,wX];simp only[ci]at hd;rcases hd with rfl|hd
    exact .inl hn;exact .inr (N1 hd n hn)
  |[],_,hd,_,_=>by simp at hd
theorem Iz{S:List TypeId}(hS:Kj P S=true):∀(fuel:Nat)(t:TypeId),t∈S->∀(cs:List Value)(x:DataW H×List MemPlace),DataW.trod enc P w base spare held fuel t cs=some x->(∀n∈x.1.weights P t,n<=reachBytes)->
    ∃ds,HasTy P t ds/\Pw (DRep w (·<w.heap.size)) ds cs/\∀d∈ds,d.one=true
  |0,_,_,_,_,h,_=>by simp[DataW.trod]at h
  |n+1,t,hp,cs,x,h,hwt=>by
    have hp:qFS P S t=true:=zal39q.1 hS t hp
    have one:∀(d:D)(v:Value),DRep w (·<w.heap.size) d v->Pw (DRep w (·<w.heap.size)) [d] [v]:=λd v hd=>⟨rfl,λi x y hx hy=>by
      cases i with
      |zero=>simp at hx hy;subst hx hy;exact hd
      |succ i=>simp at hx⟩
    unfold qFS at hp;split at hp;rename_i hu;obtain⟨b,rfl,_⟩:=DataW.trod_bool hu h;exact⟨[.bool b],.bool t hu b,one _ _ (.bool b),λd hd=>Wa⟩;rename_i k hu;obtain⟨m,rfl,_,hw⟩:=DataW.trod_int hu h;have:k.min<=m/\m<=k.max:=by simpa[Lit.wf]using hw
    exact⟨[.int k m],.int t k hu m this,one _ _ (.int k m),λd hd=>Wa⟩;rename_i hu;obtain⟨s,rfl,rfl,hs⟩:=DataW.trod_string hu h;have hs:s.size<=reachBytes:=by have:=hwt s.data.toList.length (by simp[DataW.weights]);simpa using this
    exact⟨[.str s],.str t hu s hs,one _ _ (.str s),λd hd=>Wa⟩
    · rename_i e hu
      simp only[tY,decide_eq_true_eq,List.contains_iff_mem]at hp;rcases DataW.trod_slice hu h with⟨rfl,_⟩|⟨ad,len,cap,elems,rest,n',hn',rfl,rfl,hb,hl,hm,hlen0,hel,_⟩
      exact⟨[.sl (P.cellsOf e) []],.sl t e hu [] (iF _) (λc hc=>by simp at hc) (λc hc=>by simp at hc),one _ _ (.sl0 _ _ _),λd hd=>Wa⟩;obtain rfl : n = n' := aB
      have hex:∀i,i<len->∃ds vs,w.cells? base (ad.add (i*P.cellsOf e)) (P.cellsOf e)=some vs/\HasTy P e ds/\Pw (DRep w (·<w.heap.size)) ds vs/\∀d∈ds,d.one=true:=by
        intro i hi;have he:=hel i hi;rw[jT aB]at he;obtain⟨vs,hvs,htr⟩:=zal162q.1 he
        have hwe:∀m∈(elems[i]).1.weights P e,m<=reachBytes:=λm hm'=>hwt m (by
          simp only[DataW.weights,hu,ci,wX]
          exact .inr (.inl (N1 (zal115q.2 ⟨elems[i],aN,rfl⟩) m hm')))
        obtain⟨ds,h1,h2,h3⟩:=Iz hS n e hp.1.1 vs _ htr hwe;exact⟨ds,vs,hvs,h1,h2,h3⟩
      have hall:∀k,k<=len->∃css:List (List D),css.length=k/\∀(i:Nat)(cs:List D),css[i]?=some cs->∃vs,w.cells? base (ad.add (i*P.cellsOf e)) (P.cellsOf e)=some vs/\HasTy P e cs/\Pw (DRep w (·<w.heap.size)) cs vs/\∀d∈cs,d.one=true:=by
        intro k
        induction k with
        |zero=>intro _;exact⟨[],rfl,λi cs h=>nV⟩
        |succ k ih=>
          intro hk;obtain⟨css,h1,h2⟩:=ih aB;obtain⟨ds,vs,g1,g2,g3,g4⟩:=hex k aB;refine⟨css++[ds],x8,λi cs hi=>?_⟩;rw[kN]at hi;split at hi;exact h2 i cs hi;rename_i hge
          have:i=k:=by
            rcases fU (i-css.length) 1 with h|h
            omega;rw[nB fc]at hi;cases hi
          subst this;rw[h1,Bf]at hi;simp at hi;subst hi;exact⟨vs,g1,g2,g3,g4⟩
      obtain⟨css,hcl,hcs⟩:=hall len (fY _)
      have hsz:∀(i:Nat)(cs:List D),css[i]?=some cs->cs.length=P.cellsOf e:=λi cs hi=>by
        obtain⟨vs,g1,_,g3,_⟩:=hcs i cs hi;obtain⟨_,g5,_⟩:=World.cells?_some g1;rw[g3.1,g5]
      have hof:∀(i:Nat)(cs:List D),css[i]?=some cs->(eI P e cs).cells=cs:=by
        intro i cs hi;have hl':=hsz i cs hi;obtain⟨vs,_,_,_,g4⟩:=hcs i cs hi
        have h1:P.cellsOf e=1->cs.headD .nilsl=cs.headD .nilsl->(cs.headD .nilsl).cells=cs:=by
          intro he _
          match cs,(hl'.trans he),g4 with
          |[c],_,g4=>exact D.cells_one (g4 c aN)
        have h2:=hp.2;unfold eI
        cases hue:P.underlying e with
        |none=>rw[hue]at h2;exact h1 yc rfl
        |some ue=>
          rw[hue]at h2;cases ue<;>first|rfl|exact h1 yc rfl
      have hmem:∀cs∈css,∃i,css[i]?=some cs:=λcs hc=>lO hc
      refine⟨[.sl (P.cellsOf e) (css.map (eI P e))],.sl t e hu css (by
        have h1:=hwt ((elems.length+rest.length)*P.bytesOf e) (by simp[DataW.weights,hu]);have h2:=Nat.le_mul_of_pos_right (elems.length+rest.length) hp.1.2.2
        omega) (λcs hc=>by obtain⟨i,hi⟩:=hmem cs hc;exact hsz i cs hi) (λcs hc=>by obtain⟨i,hi⟩:=hmem cs hc;obtain⟨_,_,g,_⟩:=hcs i cs hi;exact g),one _ _ ?_,λd hd=>Wa⟩
      by_cases hnil:css=[];subst hnil;have:len=0:=by simpa using hcl.symm
      subst this;exact .sl0 _ _ _
      have hgetc:∀(i:Nat)(d:D),(css.map (eI P e))[i]?=some d->∃cs,css[i]?=some cs/\d.cells=cs:=by
        intro i d hi;simp only[eS,zal165q]at hi;obtain⟨cs,hc,rfl⟩:=hi;exact⟨cs,hc,hof i cs hc⟩
      have hcell:∀(i:Nat)(d:D)(j:Nat)(c:D),(css.map (eI P e))[i]?=some d->d.cells[j]?=some c->∃v,w.cell? (ad.add (i*P.cellsOf e+j))=some v/\DRep w (·<w.heap.size) c v:=by
        intro i d j c hi hj;obtain⟨cs,hc,hd⟩:=hgetc i d hi;rw[hd]at hj;obtain⟨vs,g1,_,g3,_⟩:=hcs i cs hc;obtain⟨_,g5,g6⟩:=World.cells?_some g1;have hjl:j<vs.length:=by rw[<- g3.1];exact(zal72q.1 hj).1
        refine⟨vs[j],?_,g3.2 j c _ hj (jT hjl)⟩;rw[<- F5,g6 j aB];exact jT hjl
      have hlen:(css.map (eI P e)).length=len:=by simpa using hcl
      by_cases hblk:ad.block<w.heap.size
      have hfin := DRep.sl (w := w) (X := (· < w.heap.size)) (P.cellsOf e) (css.map (eI P e)) ad cap (fun i j => (w.cell? (ad.add (i * P.cellsOf e + j))).getD undef) hblk aB
        (λi d hi=>by obtain⟨cs,hc,hd⟩:=hgetc i d hi;rw[hd];exact hsz i cs hc)
        (λi d j c hi hj=>by
          obtain⟨cs,hc,hd⟩:=hgetc i d hi;rw[hd]at hj;obtain⟨_,_,_,_,g4⟩:=hcs i cs hc
          exact g4 c (fQ hj))
        (λi d j c hi hj=>by obtain⟨v,hv,_⟩:=hcell i d j c hi hj;rw[hv];rfl)
        (λi d j c hi hj=>by obtain⟨v,hv,hd⟩:=hcell i d j c hi hj;rw[hv];exact hd)
      rw[hlen]at hfin;exact hfin
      -- no cell at all: elements without cells
      exfalso;obtain⟨cs,r,rfl⟩:=List.exists_cons_of_ne_nil hnil;obtain⟨vs,g1,_,g3,_⟩:=hcs 0 cs rfl;obtain⟨_,g5,g6⟩:=World.cells?_some g1;have h6:=g6 0 (by have:=hp.1.2.1;omega);have hv:w.cell? ((ad.add (0*P.cellsOf e)).add 0)=some (vs[0]'(by have:=hp.1.2.1;omega)):=h6.trans (jT _);have:=World.block_lt_of_cell? w _ hv;exact hblk (by simpa[Addr.add]using this)
    rename_i fs hu;simp only[tY,zal39q,List.contains_iff_mem]at hp;obtain⟨xs,m,hnm,rfl,hlen,hxl,hf⟩:=DataW.trod_struct hu h;obtain rfl:n=m:=aB
    obtain⟨ds,p,o,t'⟩:=tiles S n (λf hpf cs x hx hw=>Iz hS n f.type hpf cs x hx hw) (P.cellsOf t) hlen fs.toList 0 hp.1 (λf hf'=>hp.2 f hf') (λf hf'=>by
      obtain⟨i,hi⟩:=lO hf';have hi':fs[i]?=some f:=Io
      have hlt:i<xs.length:=by rw[hxl];exact(zal5q.1 hi').1
      refine⟨xs[i],(hf i f hi').trans (jT hlt),λm hm'=>hwt m ?_⟩;simp only[DataW.weights,hu]
      exact DataW.weights_mem_each (j:=i) (t:=f.type) (d:=xs[i].1) xI bf m hm') (iF _)
    rw[List.drop_zero]at p;refine⟨ds,.struct t fs hu ds (by rw[p.1,hlen]) (λi f hi=>?_),p,o⟩;have:=(t' f (zal10q.2 (Array.mem_of_getElem? hi))).2;simpa using this;cases hp
end Go.TL
namespace Go.TL
open Go.ChangeShapes Go.WideShapes Go.RowKit Go.Deep Go.ChangeAt
def Zu(P:Program):List TypeId->List D->Prop
  |[],[]=>True
  |t::ts,d::ds=>(∃cs,cs.length=P.cellsOf t/\HasTy P t cs/\d=eI P t cs)/\Zu P ts ds
  |_,_=>False
def qFT(P:Program)(S:List TypeId)(t:TypeId):Bool:=S.contains t&&(match P.underlying t with|some (.struct _)=>true|some (.array _ _)=>true|_=>P.cellsOf t == 1)
theorem HasTy.length{P:Program}{t:TypeId}{cs:List D}(h:HasTy P t cs)(h1:(match P.underlying t with|some (.struct _)=>true|some (.array _ _)=>true|_=>P.cellsOf t == 1)=true):cs.length=P.cellsOf t:=by cases h with|bool _ ht b=>rw[ht]at h1;exact(show P.cellsOf t=1 by simpa using h1).symm|int _ _ ht=>rw[ht]at h1;exact(show P.cellsOf t=1 by simpa using h1).symm|str _ ht=>rw[ht]at h1;exact(show P.cellsOf t=1 by simpa using h1).symm|sl _ _ ht=>rw[ht]at h1;exact(show P.cellsOf t=1 by simpa using h1).symm|struct _ _ ht _ hl=>exact hl
variable {P:Program}{H:Type}{enc:TypeId×Value->H}{w:World}
theorem arg_data{S:List TypeId}(hS:Kj P S=true){t:TypeId}{v:Value}{d:DataW H}{ps:List MemPlace}(hp:qFT P S t=true){base:Nat}(ok:Value.okWide P w .any base t v)(h:DataW.Trod enc P w 0 (λ_=>true) true t v d ps)(hwt:∀n∈d.weights P t,n<=reachBytes):∃cs,cs.length=P.cellsOf t/\HasTy P t cs/\DRep w (·<w.heap.size) (eI P t cs) v:=by simp only[qFT,tY,List.contains_iff_mem]at hp;obtain⟨fuel,hf⟩:=h;obtain⟨ds,ht,hpw,ho⟩:=Iz hS fuel t hp.1 _ _ hf hwt;refine⟨ds,ht.length hp.2,ht,?_⟩;have single:(∀xs,v≠.agg xs)->(eI P t ds=ds.headD .nilsl)->DRep w (·<w.heap.size) (eI P t ds) v:=(by intro hv he;have hc:v.cells=#[v]:=(by cases v<;>first|rfl|exact absurd rfl (hv _));rw[hc]at hpw;rw[he];match ds,hpw with|[c],hpw=>exact hpw.2 0 c v rfl rfl|[],hpw=>have:=hpw.1;simp at this|_::_::_,hpw=>have:=hpw.1;simp at this);cases ht with|bool _ hu=>obtain⟨b,rfl⟩:=okWide_bool hu ok;exact single (λ_ h=>by cases h) V8|int _ _ hu=>obtain⟨b,rfl⟩:=okWide_int hu ok;exact single (λ_ h=>by cases h) V8|str _ hu=>obtain⟨b,rfl⟩:=okWide_string hu ok;exact single (λ_ h=>by cases h) V8|sl _ _ hu=>obtain⟨_,_,_,rfl⟩:=okWide_slice hu ok;exact single (λ_ h=>by cases h) V8|struct _ _ hu _ hl=>obtain⟨cs,rfl,hs⟩:=okWide_struct hu ok;have:eI P t ds=.agg ds:=V8;rw[this];exact .agg ds cs (by simpa[Value.cells]using hpw.1) ho λi c v hc hv=>hpw.2 i c v hc (by simpa[Value.cells]using hv)
theorem qCV{S : List TypeId}(hS : Kj P S = true) : ∀ {ts : List TypeId} {vs : List Value} {ds : List (DataW H)} {ps : List MemPlace} {base : Nat}, (∀ t ∈ ts, qFT P S t = true) -> (∀ (j : Nat) t v, ts[j]? = some t -> vs[j]? = some v -> Value.okWide P w .any base t v) -> DataW.TrodAll enc P w 0 (fun _ => true) true ts vs ds ps -> (∀ n ∈ DataW.weightsEach P ts ds, n <= reachBytes) ->
    ds.length=ts.length/\∃es,Zu P ts es/\Pw (DRep w (·<w.heap.size)) es vs
  |[],[],[],_,_,_,_,_,_=>⟨rfl,[],trivial,rfl,λi x y hx=>Js⟩
  |t::ts,v::vs,d::ds,ps,base,hp,hok,h,hwt=>by
    obtain⟨p,q,h1,h2,_⟩:=h;obtain⟨cs,k1,k2,k3⟩:=arg_data hS (hp t aN) (hok 0 t v rfl rfl) h1 (λn hn=>hwt n (by simp only[DataW.weightsEach,wX];exact .inl hn));obtain⟨k4,es,k5,k6⟩:=qCV hS (λt ht=>hp t (by simp[ht])) (λj t v ht hv=>hok (j+1) t v (by simpa using ht) tZ) h2 (λn hn=>hwt n (by simp only[DataW.weightsEach,wX];exact .inr hn));refine⟨by simp[k4],_::es,⟨⟨cs,k1,k2,rfl⟩,k5⟩,by simp[k6.1],λi x y hx hy=>?_⟩
    cases i with
    |zero=>simp at hx hy;subst hx hy;exact k3
    |succ i=>exact k6.2 i x y yd yR
  |[],_::_,_,_,_,_,_,h,_=>D9
  |[],[],_::_,_,_,_,_,h,_=>D9
  |_::_,[],_,_,_,_,_,h,_=>D9
  |_::_,_::_,[],_,_,_,_,h,_=>D9
theorem Hy(hl : laidOutB P = true){W W' : World}(hb : Below W.heap.size W W') : ∀ {ts : List TypeId} {vs : List Value} {ds : List (DataW H)} {ps : List MemPlace}, (∀ t ∈ ts, P.readableRec t = true /\ t < P.types.size) -> (∀ x ∈ ps, x.block < W.heap.size) -> DataW.TrodAll enc P W 0 (fun _ => true) true ts vs ds ps ->
    DataW.TrodAll enc P W' 0 (λb=>decide (b<W.heap.size)) true ts vs ds ps
  |[],[],[],_,_,_,h=>h
  |t::ts,v::vs,d::ds,ps,hp,hlt,h=>by
    obtain⟨p,q,h1,h2,rfl⟩:=h;exact⟨p,q,Below.trod hl (hp t aN).1 (hp t aN).2 h1 hb λx hx=>hlt x (by simp[hx]),Hy hl hb (λt ht=>hp t (by simp[ht])) (λx hx=>hlt x (by simp[hx])) h2,rfl⟩
  |[],_::_,_,_,_,_,h=>D9
  |[],[],_::_,_,_,_,h=>D9
  |_::_,[],_,_,_,_,h=>D9
  |_::_,_::_,[],_,_,_,h=>D9
def qLF(P:Program)(S:List TypeId)(fn:Func):Bool:=Kj P S&&fn.params.toList.all (λt=>qFT P S t&&P.readableRec t&&decide (t<P.types.size))&&(match fn.resultTypes.toList with|[tb]=>(match P.underlying tb with|some .bool=>true|_=>false)|_=>false)
variable {P:Program}{H:Type}{enc:TypeId×Value->H}{w:World}{base:Nat}{spare:Nat->Bool}{held:Bool}
theorem qLE(S:List TypeId){C:Checked}{F:FuncId}{fn:Func}{s:ChangeSpec}{so:OpenSpec}{laidv:List (String×DataW Unit)}{F':Stop.Interp}(hat:∀{P:Program}{fn:Func}{a b c d:Bool}{w:World}{args:Array Value}{v:Value}{w':World},s.post enc P fn a b c d w args v w'->(so.at F').post enc P fn a b c d w args v w')(hbare:so.bare.plain.varTypes C.prog=[])(hvars:so.vars=[])(os:Os)(own:ownKnob C.prog.godebug=none)(started:os.Started)(laid:laidOutB C.prog=true)(noInit:C.prog.inits.idxOf? F=none)(hfn:C.prog.funcs[F]?=some fn)
    (wit:∃(w:World)(tape:Tape)(i:Input),w.os=os/\(w.forCall tape i).Shaped C.prog/\i.vars=[]/\Input.okWide C.prog (w.forCall tape i) .any w.heap.size F i/\
      so.preRow enc C.prog fn [] false laidv (w.forCall tape i).memory i.args/\({}:Assume).holds C.prog (lone (Frame.enter C.prog F i.args .normal) [] (w.forCall tape i)))
    (hf:qLF C.prog S fn=true) (hsv:s.vars=[]) (hs:∀ds:List (DataW H),ds.length=fn.params.toList.length->s.fn H ds={ results:=[.lit (.bool true)],args:=ds })
    (hret:∀ds,Zu C.prog fn.params.toList ds->Ret C.prog F [] (λ_=>false) (ds.map .d) (.d (.bool true)) []) (hL:∀W,laidMetH C.prog laidv W->qNG W (hU λb=>b<W.heap.size)):
    ReturnsInHanded {} C os F .any (so.preRow enc C.prog fn [] false laidv) ((so.at F').post enc C.prog fn false true false false):=by
  refine returnsInHanded_of_row own started noInit hfn wit ?_;intro W base args ds gs before hval hW _ hkk hwt hlm _ _;rw[hvars]at hW;rw[hbare]at hwt;rw[<- hsv]at hW;have hW':=hW;obtain⟨p,q,hA,hV,rfl,hfz,_⟩:=hW;rw[hsv]at hV;obtain⟨rfl,rfl⟩:=trodVars_none hV;simp only[kU]at hW';simp only[qLF,tY,zal39q,decide_eq_true_eq]at hf
  obtain⟨hl,es,hes,hpw⟩:=qCV hf.1.1 (base:=base) (λt ht=>(hf.1.2 t ht).1.1) (λj t v ht hv=>hval j t v (by simpa using ht) tZ) hA (λn hn=>by
    rw[kU,kU]at hwt
    simpa using zal39q.1 hwt n hn)
  have hlt:∀x∈p,x.block<W.heap.size:=λx hx=>by simpa using hW'.lt x hx
  obtain⟨_,hcall⟩:=hret es hes;refine(hcall W (hU λb=>b<W.heap.size) args ?_ ?_).mono λe W' hh=>?_
  exact { defers := rfl, size := rfl, fr := fun _ => .junk _, hp := fun i B h => by simp at h, lt := fun i b h => by simp [hU] at h, inj := fun i j b _ _ _ _ _ _ h => by simp [hU] at h, Xlt := fun b h => h, Xold := fun b h _ => h
          os:=rfl,tape:=rfl,output:=rfl,drawn:=fY _,grown:=fY _,keep:=λ_ _ _=>rfl,own:=λi b h=>by simp[hU]at h,stay:=λi b h=>absurd h (rL i),kle:=iF _,laid:=hL W hlm }
  refine ⟨by simpa using hpw.1, fun i x v hx hv => ?_⟩;simp only[eS,zal165q]at hx;obtain⟨d,hd,rfl⟩:=hx;exact .d d v (hpw.2 i d v hd hv);obtain⟨v,g',rfl,ho,hv⟩:=hh
  cases hv with
  |d _ _ hv=>
    cases hv;have hb:Below W.heap.size W W':=⟨ho.os,ho.tape,ho.output,ho.grown,λb hb=>ho.keep b hb λi hi=>absurd hi (rL i)⟩;have e:s.fn H (ds++[])={ results:=[.lit (.bool true)],args:=ds }:=by rw[kU];exact hs ds hl
    refine⟨_,rfl,hat ⟨ds,[],p,[],p,[],hW',?_,?_,?_,hb.frame _,λh=>by cases h⟩⟩
    · rw[e]
      have h2:=hf.2;split at h2
      · rename_i tb hts
        have hsz:fn.resultTypes.size=1:=by have:=congrArg List.length hts;simpa using this
        rw[hts,hsz];have hu:C.prog.underlying tb=some .bool:=by split at h2<;>first|assumption|cases h2
        exact trodAll_mk1 (shut_bool hu true)
      cases h2
    rw[e];exact Hy laid hb (λt ht=>⟨(hf.1.2 t ht).1.2,(hf.1.2 t ht).2⟩) hlt hA;rw[hsv,e];rfl
end Go.TL
namespace Go.TL
variable {C:Ctx}{ops:Array Oper}{l:List Oper}{K:St->Prop}{fr:Fr}{hp:List Blk}{P:Program}
section forms
variable {o:Oper}{ev:Operand->AV}{x c y:Operand}
variable {bt t t':TypeId}{by' id idx n off s sz:Nat}{d e:D}{es:List D}{k:IntKind}
theorem bp(ho:o.op=.move x\/o.op=.assign x)(h:ev x=.d d):RdOk C o ev hp (.d d):=h ▸ Ka ho
theorem yk{i f:Nat}(ho:o.op=.move x\/o.op=.assign x)(h:ev x=.msl i s f n):RdOk C o ev hp (.msl i s f n):=h ▸ Ka ho
theorem pick_T{u:AV}(ho:o.op=.pick c x y)(hc:ev c=.d (.bool true))(hu:ev x=u):RdOk C o ev hp u:=by subst hu;exact qSA true _ ho hc rfl
theorem pick_F{u:AV}(ho:o.op=.pick c x y)(hc:ev c=.d (.bool false))(hu:ev y=u):RdOk C o ev hp u:=by subst hu;exact qSA false _ ho hc rfl
theorem zk(ho:o.op=.load t x)(hl:lay C.P t=some (false,s))(hx:ev x=.d (.ptr e off))(hc:e.cells[off]?=some d):RdOk C o ev hp (.d d):=N6 e d off s ho hl hx hc
theorem qWE(ho:o.op=.load t x)(hl:lay C.P t=some (true,s))(hx:ev x=.d (.ptr e 0))(hs:e.cells.length=s)(h1:e.one=false):RdOk C o ev hp (.d e):=by have h:=Eu (o:=o) (ev:=ev) (hp:=hp) e 0 s ho hl hx aB;have he:e.part 0 s=e:=(by cases e with|agg cs=>subst hs;simp[D.part,D.cells]|_=>cases h1);rwa [he]at h
theorem qWF(ho:o.op=.load t x)(hl:lay C.P t=some (false,s))(hx:ev x=.mptr id sz idx off)(hb:hp[id]?=some (.flat bt sz es))(he:es[idx]?=some e)(hc:e.cells[off]?=some d):RdOk C o ev hp (.d d):=qFI id sz idx off s es e d ho hl hx hb he hc
theorem qPR(ho:o.op=.load t x)(hl:lay C.P t=some (true,s))(hx:ev x=.mptr id sz idx 0)(hb:hp[id]?=some (.flat bt sz es))(he:es[idx]?=some e)(hs:e.cells.length=s)(h1:e.one=false):RdOk C o ev hp (.d e):=by have h:=Dh (o:=o) (ev:=ev) (hp:=hp) id sz idx 0 s es e ho hl hx hb he aB;have he:e.part 0 s=e:=(by cases e with|agg cs=>subst hs;simp[D.part,D.cells]|_=>cases h1);rwa [he]at h
theorem vn{e:TypeId}{i:Int}(ho:o.op=.indexAddr t x y)(hl:sel C.P t=some (e,sz,by'))(hx:ev x=.d (.sl sz es))(hy:ev y=.d (.int k i))(h:0<=i/\es[i.toNat]?=some d):RdOk C o ev hp (.d (.ptr d 0)):=Qd sz by' es k i d ho hl hx hy h.1 h.2
theorem qCB{e:TypeId}{len:Nat}{i:Int}(ho:o.op=.indexAddr t x y)(hl:sel C.P t=some (e,sz,by'))(hx:ev x=.msl id sz off len)(hy:ev y=.d (.int k i))(h:0<=i/\i<len){j:Nat}(hj:off+i.toNat=j):RdOk C o ev hp (.mptr id sz j 0):=hj ▸ Mw id sz by' off len k i ho hl hx hy h.1 h.2
theorem Ll{op:BinOp}{m n:Int}{b:Bool}(ho:o.op=.binOp op t x y t')(hx:ev x=.d (.int k m))(hy:ev y=.d (.int k n))(hb:qHK op m n=some b):RdOk C o ev hp (.d (.bool b)):=rd_cmp k m n b ho hx hy hb
theorem Lu{op:BinOp}{m n r:Int}(ho:o.op=.binOp op t x y t')(hx:ev x=.d (.int .i64 m))(hy:ev y=.d (.int .i64 n))(hr:qCW op m n=some r)(hb:-9223372036854775808<=r/\r<=9223372036854775807):RdOk C o ev hp (.d (.int .i64 r)):=rd_arith .i64 m n r ho hx hy (by cases op<;>simp only[qCW]at hr<;>cases hr<;>simp only[arInt,wrap64 hb])
theorem not_b{b b':Bool}(ho:o.op=.unOp .not t x)(hx:ev x=.d (.bool b))(hb:(!b)=b'):RdOk C o ev hp (.d (.bool b')):=hb ▸ rd_not b ho hx
theorem zl{e:TypeId}(ho:o.op=.call { callee:=.builtin .len,args:=#[x],argTypes:=#[t] })(hl:sel C.P t=some (e,s,by'))(hx:ev x=.d (.sl sz es))(hn:es.length=n):RdOk C o ev hp (.d (.int .i64 n)):=Mv _ s by' n ho hl hx (by subst hn;rfl)
theorem pS{e:TypeId}(ho:o.op=.call { callee:=.builtin .len,args:=#[x],argTypes:=#[t] })(hl:sel C.P t=some (e,s,by'))(hx:ev x=.d .nilsl):RdOk C o ev hp (.d (.int .i64 (Int.ofNat 0))):=Mv _ s by' 0 ho hl hx rfl
end forms
variable {F:FuncId}{L M:List Lit}{Q:Exit->St->Prop}{b:Bool}{c:Code}{cs zc:List AV}{d:D}{ds es:List D}{hp':List Blk}{i n sz:Nat}{ks:List TypeDesc}{o:Oper}{parts:Array (Nat×Operand)}{pl:List (Nat×Nat)}{r v:AV}{t t' ty:TypeId}{x y:Operand}{z:Value}{α:Type}{xs:List α}
theorem Snap.le{hp:List Blk}(h:HpLe hp hp'){x:AV}(hs:Snap hp x d):Snap hp' x d:=by induction hs with|d x=>exact .d x|msl id sz off len ty es h1 hl=>exact .msl id sz off len ty es (h _ _ h1 (λe=>by cases e)) hl|mptrF id sz idx off ty es e h1 he=>exact .mptrF id sz idx off ty es e (h _ _ h1 (λe=>by cases e)) he|mptrB id off ty cs ds h1 hl h2 _ ih=>exact .mptrB id off ty cs ds (h _ _ h1 (λe=>by cases e)) hl h2 ih|agg cs ds hl h2 _ ih=>exact .agg cs ds hl h2 ih|clo f cs ds hl _ ih=>exact .clo f cs ds hl ih|ifc t c d _ ih=>exact .ifc t c d ih
def RetD(P:Program)(F:FuncId)(ds:List D)(d:D):Prop:=∃mv r hp',Ret P F [] mv (ds.map .d) r hp'/\Snap hp' r d
def RetN(P:Program)(F:FuncId)(ds:List D)(d:D):Prop:=∃mv r hp',Ret P F [] mv (ds.map .d) r hp'/\Snap hp' r d/\AMem0 r/\∀B∈hp',qDA B
theorem RetN.retD(h:RetN P F ds d):RetD P F ds d:=by obtain⟨mv,r,hp',h1,h2,_⟩:=h;exact⟨mv,r,hp',h1,h2⟩
section calls
variable {o:Oper}{ev:Operand->AV}{f:Operand}{xs:Array Operand}{ts:Array TypeId}{F:FuncId}
variable {ds:List D}
theorem RD{d:D}(ho:o.op=.call { callee:=.value f,args:=xs,argTypes:=ts })(hf:ev f=.d (.fn F))(hx:xs.toList.map ev=ds.map .d)(hret:RetD C.P F ds d):RdOk C o ev hp (.d d):=by obtain⟨mv,r,hp',h1,h2⟩:=hret;exact rd_callD ds r hp' d ho hf hx h1 h2
theorem RN{d:D}(ho:o.op=.call { callee:=.value f,args:=xs,argTypes:=ts })(hf:ev f=.d (.fn F))(hx:Dq hp (xs.toList.map ev) ds)(hret:RetN C.P F ds d):RdOk C o ev hp (.d d):=by
  obtain⟨mv,r,hp',hret,hsn,hm,hm'⟩:=hret;intro st hhp hag g a w hs Q K' hK;have hfv:=hs.ev f;rw[hag f C8,hf]at hfv
  have hx':Dq st.hp (xs.toList.map st.fr.ev) ds:=by
    refine⟨by have:=hx.1;simpa using this,λi x d hxi hd=>?_⟩;simp only[eS,zal165q]at hxi;obtain⟨y,hy,rfl⟩:=hxi;rw[hag y zaP38q];exact(hx.2 i (ev y) d ya hd).le hhp
  have hargs:=Zc hs hx' (Y:=λb=>b<w.heap.size) hs.Xlt λi b hp=>(hs.lt i b hp).1;simp only[Oper.wp,kO ho (Nr hfv) hret.1,Oper.upon_enter,qAM];refine(hret.2 w (hU λb=>b<w.heap.size) _ (qKE hs mv λ_ h=>h) hargs).mono ?_;rintro e w' ⟨v,g',rfl,hout,hr⟩;have hold:∀b,b<w.heap.size->w'.heap[b]?=w.heap[b]?:=λb hb=>hout.keep b hb λi hi=>absurd hi (rL i);have hsz:=hout.grown;simp only at hsz
  let g3:Gh:={ g' with X:=λb=>g'.X b/\w.heap.size<=b }
  have hrep3:∀(i:Nat)(B:Blk),hp'[i]?=some B->BRep w' g3 i B:=λi B hB=>(hout.hp i B hB).any (hm' B (fQ hB))
  let g2:Gh:={ g with X:=λb=>g.X b\/(w.heap.size<=b/\b<w'.heap.size) }
  have hgr:Grow w g w' g2:=⟨λ_ _ h=>h,λ_ _ _=>rfl,λ_ h=>.inl h,λb hb=>hold b (hs.Xlt b hb)⟩;refine hK v w' g2 ?_ (.d _ _ (zA (st:=⟨[],hp'⟩) (g:=g3) hrep3 hsn (Y:=g2.X) (λb hb=>?_) (λi b hp=>?_) (hr.any hm)))
  refine { defers := hs.defers, size := hs.size, fr := fun t => (hs.fr t).mono hgr, hp := fun i B hB => (hs.hp i B hB).mono hgr id fun b hb => hold b (hs.lt i b hb).1, lt := ?_, inj := hs.inj, Xlt := ?_, Xold := ?_
           os:=hout.os.trans hs.os,tape:=hout.tape.trans hs.tape,output:=hout.output.trans hs.output,drawn:=eR hs.drawn hout.drawn,grown:=eR hs.grown hsz,keep:=?_,own:=hs.own,stay:=hs.stay,kle:=hs.kle,laid:=hs.laid }
  · intro i b hp
    have:=hs.lt i b hp;refine⟨aB,this.2.1,λhX=>?_⟩;rcases hX with hX|⟨hX,_⟩
    exact this.2.2 hX;omega
  intro b hb;rcases hb with hb|⟨_,hb⟩
  have:=hs.Xlt b hb;omega;exact hb;intro b hb hlt;rcases hb with hb|⟨hge,_⟩
  exact hs.Xold b hb hlt;have:=hs.grown;omega;intro b hb hk;rw[hold b (by have:=hs.grown;omega)];exact hs.keep b hb hk;exact .inr ⟨hb.2,hout.Xlt b hb.1⟩;refine .inr ⟨?_,(hout.lt i b hp).1⟩;rcases fU b w.heap.size with hlt|hge
  exact absurd (hout.own i b hp hlt).1 (rL _);exact hge
end calls
theorem qM{hp:List Blk}:∀{xs:List AV}{ds:List D},xs=ds.map .d->Dq hp xs ds
  |_,[],h=>by subst h;exact SN
  |_,d::ds,h=>by subst h;exact SC (.d d) (qM rfl)
inductive SubK (fr:Fr):List Nat->Fr->Prop
  |nil:SubK fr [] []
  |cons (k:Nat) (v:AV) (ks:List Nat) (r:Fr) (h:fr.get k=v) (hr:SubK fr ks r):SubK fr (k::ks) ((k,v)::r)
section
variable {k:Nat}{ks:List Nat}{r:Fr}
theorem dG{d:D}(h:fr.get k=.d d)(hr:SubK fr ks r):SubK fr (k::ks) ((k,.d d)::r):=.cons _ _ _ _ h hr
theorem vJ{a b c d:Nat}(h:fr.get k=.msl a b c d)(hr:SubK fr ks r):SubK fr (k::ks) ((k,.msl a b c d)::r):=.cons _ _ _ _ h hr
theorem qIR(hr:SubK fr ks r):∃r',SubK fr ks r':=⟨r,hr⟩
end
theorem SubK.keep:∀{fr r:Fr}{ks:List Nat},SubK fr ks r->r=Fr.keep ks fr
  |_,_,_,.nil=>rfl
  |fr,_,_,.cons k v ks r h hr=>by simp only[Fr.keep,iW,h];rw[hr.keep];rfl
theorem gD{hp:List Blk}(h:hp=[]):hp=[]:=h
theorem oD{hp r r':List Blk}{t s:Nat}(h:hp=.flat t s es::r)(hr:r=r'):hp=.flat t s es::r':=hr ▸ h
theorem fK{fr':Fr}(ks:List Nat)(h1:SubK fr ks fr')(h2:hp=hp')(h:TWp C c ⟨fr',hp'⟩ Q):TWp C c ⟨fr,hp⟩ Q:=by subst h2;rw[h1.keep]at h;exact twp_keep ks h
section ways
variable {next:St->Prop}{Q:Exit->St->Prop}{st:St}
theorem WT(h:next st):yV next Q .normal st:=h
variable {i:Nat}
theorem WX(h:Q (.exit i) st):yV next Q (.exit i) st:=h
theorem WR(h:Q .ret st):yV next Q .ret st:=h
theorem WK(h:Q .normal st):er i Q .normal st:=h
theorem WH(h:Q .normal st):er i Q (.exit i) st:=by simp only[er,if_true];exact h
end ways
theorem qUC(S:α->St)(ok:α->Prop)(m:α->Nat)(ks ids:List Nat)(x0:α)(hnd:ids.Nodup)(hk:∀i,i<C.k->ids[i]?=some i){st:St}(h0:ok x0)(hS:st.canon ks ids=S x0)(round:∀x,ok x->TWp C c (S x) (yV (λst'=>∃y ids',ids'.Nodup/\(∀i,i<C.k->ids'[i]?=some i)/\ok y/\m y<m x/\st'.canon ks ids'=S y) Q)):TWp C (.loop c) st Q:=by refine twp_loop (λn st=>∃x ids,ids.Nodup/\(∀i,i<C.k->ids[i]?=some i)/\ok x/\m x=n/\st.canon ks ids=S x) (m x0) ⟨x0,ids,hnd,hk,h0,rfl,hS⟩ ?_;rintro n st ⟨x,ids,hnd,hk,hx,rfl,he⟩;refine yy ks ids hnd hk ?_;rw[he];refine(round x hx).mono ?_;rintro e st' hq;cases e with|normal=>obtain⟨y,ids',h1,h2,h3,h4,h5⟩:=hq;exact⟨m y,h4,y,ids',h1,h2,h3,rfl,h5⟩|_=>exact hq
variable {C:Ctx}{ops:Array Oper}{l:List Oper}{K:St->Prop}{fr:Fr}{hp:List Blk}{P:Program}{w:World}{g:Gh}
section drawn
variable {acc:List Rec}{d:Nat}{op:Op}{ty:TypeId}{pos:String}{after:Array Edge}{gd:Option (Nat×Bool)}
theorem DT(h:cP C ops l ⟨fr,hp⟩ K)(hE:Lh ops.toList acc.length (acc.map Rec.d) (acc.map yE)=true):TDr C ops K l fr hp acc:=.tail l fr hp acc hE h
end drawn
def Gt(P:Program)(t:TypeId):Option (List (Nat×Nat)):=match P.underlying t with|some (.struct fs)=>fs.toList.mapM λf=>(P.info? f.type).map λi=>(f.offset,i.size)|_=>none
def qCK(pl:List (Nat×Nat)):List AV->List (Nat×AV)->Option (List AV)
  |cs,[]=>some cs
  |cs,(i,v)::r=>
    match pl[i]? with
    |some (off,s)=>bif v.flat&&v.cells.length == s&&Nat.ble (off+s) cs.length then qCK pl (spl cs off v.cells) r else none
    |none=>none
theorem Yk(pl : Array (Nat × Nat)) : ∀ (parts : List (Nat × AV)) (vals : List (Nat × Value)) (cs cs' : List AV) (cells : Array Value), Pw (fun (x : Nat × AV) (y : Nat × Value) => x.1 = y.1 /\ ARep w g x.2 y.2) parts vals ->
    Pw (ARep w g) cs cells.toList->qCK pl.toList cs parts=some cs'->∃cells',Instr.fill (pl[·]?) cells vals=some cells'/\Pw (ARep w g) cs' cells'.toList
  |[],vals,cs,cs',cells,hp,hc,h=>by
    have:vals=[]:=by have:=hp.1;simpa using this.symm
    subst this;cases h;exact⟨cells,rfl,hc⟩
  |(i,v)::r,[],cs,cs',cells,hp,hc,h=>by have:=hp.1;simp at this
  |(i,v)::r,(j,u)::vals,cs,cs',cells,hp,hc,h=>by
    obtain⟨he,hvu⟩:=hp.2 0 _ _ rfl rfl;simp only at he hvu;subst he;simp only[qCK]at h;split at h;rename_i off s hpl
    cases hb:(v.flat&&v.cells.length == s&&Nat.ble (off+s) cs.length)with
    |false=>rw[hb]at h;cases h
    |true=>
      rw[hb]at h;simp only[tY,beq_iff_eq,Nat.ble_eq]at hb;obtain⟨⟨hf,hs⟩,hle⟩:=hb;have hpv:=(hvu.pw hf).1;have hus:u.cells.size=s:=by have:=hpv.1;simp at this;omega
      have hcl:=hc.1;simp only[cy]at hcl;have hfo:=qTB cells u.cells off aB
      obtain ⟨cells', h1, h2⟩ := Yk pl r vals (spl cs off v.cells) cs' (u.cells.zipIdx.foldl (fun cs (c, j) => cs.setIfInBounds (off + j) c) cells)
        ⟨by have:=hp.1;simpa using this,λi x y hx hy=>hp.2 (i+1) x y yd yR⟩ (by rw[hfo];exact hc.spl off hpv) h
      refine⟨cells',?_,h2⟩;have hpl':pl[i]?=some (off,s):=by simpa using hpl
      simp only[Instr.fill,hpl'];rw[if_neg (by simp[hus];omega)];exact h1
    cases h
theorem run_plc{fs:List Field}(w:World)(h:fs.mapM (λf=>(P.info? f.type).map λi=>(f.offset,i.size))=some pl):(fs.mapM (m:=Sem) λf=>do pure (f.offset,<- sizeOf f.type)).run P w=.ok pl w:=by
  induction fs generalizing pl with
  |nil=>simp at h;subst h;simp
  |cons f r ih=>
    rw[L8]at h;simp only[bind,zal162q,pure,jA,zal165q]at h;obtain⟨p,⟨i,hi,rfl⟩,pl',hpl,rfl⟩:=h;have hf:(do pure (f.offset,<- sizeOf f.type):Sem (Nat×Nat)).run P w=.ok (f.offset,i.size) w:=by simp[sizeOf,typeInfo,hi]
    rw[L8,Sem.run_bind,hf,Result.andThen_ok,Sem.run_bind,ih hpl,Result.andThen_ok,Sem.run_pure]
theorem lW{ev:Operand->AV}(ho:o.op=.build t parts)(hpl:Gt C.P t=some pl)(hz:(C.P.info? t).bind (·.zero)=some z)(hzf:(gP z).flat=true)(hzc:(gP z).cells=zc)
    (hf:qCK pl zc (parts.toList.map λp=>(p.1,ev p.2))=some cs) (hv:zg cs=v):RdOk C o ev hp v:=
  RdOk.mk λst hhp hag g a w hs=>by
    subst hv hzc;have hz':=oY w g z;have hpz:=(hz'.pw hzf).1
    have hparts:Pw (λ(x:Nat×AV)(y:Nat×Value)=>x.1=y.1/\ARep w g x.2 y.2) (parts.toList.map λp=>(p.1,ev p.2)) (parts.map λp=>(p.1,a.eval p.2)).toList:=by
      refine⟨aN,λi x y hx hy=>?_⟩;simp only[eS,zal165q,fb]at hx hy;obtain⟨p,hp,rfl⟩:=hx;obtain⟨q,hq,rfl⟩:=hy;rw[hp]at hq;cases hq;refine⟨rfl,?_⟩;have:=hs.ev p.2
      rw[hag p.2 (by
        simp only[ho,Op.operands];have:=fQ hp
        first|exact Array.mem_map.2 ⟨p,zal10q.1 this,rfl⟩|(simp only[List.mem_toArray,zal115q];exact⟨p,this,rfl⟩))]at this
      exact this
    unfold Gt at hpl;split at hpl;rename_i fs hu;obtain⟨cells',h1,h2⟩:=Yk pl.toArray _ _ _ _ z.cells hparts hpz (by simpa using hf);refine⟨.agg cells',?_,zf (by have:=h2.1;simpa using this) λi c v hc hv=>h2.2 i c v hc tZ⟩;obtain⟨inf,hinf,hzz⟩:=zal162q.1 hz;have hm:=run_plc (P:=C.P) w hpl
    have hma:(fs.mapM (m:=Sem) λf=>do pure (f.offset,<- sizeOf f.type)).run C.P w=.ok pl.toArray w:=by
      rw[Array.mapM_eq_mapM_toList,Sem.run_map,hm];rfl
    have h1':Instr.fill (λx=>pl.toArray[x]?) z.cells (parts.map λp=>(p.1,a.eval p.2)).toList=some cells':=h1;have hzv:(zeroValue t).run C.P w=.ok z w:=by simp[zeroValue,typeInfo,hinf,hzz]
    have hb:(Instr.build t (parts.map λp=>(p.1,a.eval p.2))).run C.P w=.ok (.agg cells') w:=by
      unfold Instr.build;rw[Sem.run_bind,hzv,Result.andThen_ok,Sem.run_bind,run_underlying hu,Result.andThen_ok];simp only;rw[Sem.run_bind,hma,Result.andThen_ok];simp only[h1',Sem.run_pure]
    simp only[execOp,ho];simp only[Sem.run_bind];have hb':(Instr.build t (parts.map λx=>(x.1,a.eval x.2))).run C.P w=.ok (.agg cells') w:=hb;rw[hb'];rfl;cases hpl
def Dl(P:Program):Nat->TypeId->Option (List TypeDesc)
  |0,_=>none
  |n+1,t=>
    match P.underlying t with
    |some .bool=>some [.bool]
    |some (.int k)=>some [.int k]
    |some .string=>some [.string]
    |some (.struct fs)=>
      match fs.toList.mapM λf=>Dl P n f.type with
      | some kss => bif ql P fs.toList 0 (P.cellsOf t) && (kss.map List.length == fs.toList.map fun f => P.cellsOf f.type) && fs.all (·.name != "_") then some kss.flatten else none
      |none=>none
    |_=>none
def qBU:TypeDesc->Lit->Prop
  |.bool,.bool _=>True
  |.int k,.int k' n=>k'=k/\k.min<=n/\n<=k.max
  |.string,.string bs=>bs.length<=maxLen
  |_,_=>False
def jV:Lit->Value
  |.bool b=>.bool b
  |.int k n=>.int k n
  |.string bs=>.string ⟨bs.toArray⟩
  |_=>undef
def qLC:D->Option Lit
  |.bool b=>some (.bool b)
  |.int k n=>some (.int k n)
  |.str s=>some (.string s.data.toList)
  |_=>none
def uM:List D->Option (List Lit)
  |[]=>some []
  |d::r=>match qLC d,uM r with
    |some x,some xs=>some (x::xs)
    |_,_=>none
def nX:List TypeDesc->List Lit->Prop
  |[],[]=>True
  |k::ks,x::xs=>qBU k x/\nX ks xs
  |_,_=>False
theorem Gx{X:Nat->Prop}:∀(cs:List D)(L:List Lit)(vs:List Value),uM cs=some L->Pw (DRep w X) cs vs->vs=L.map jV
  |[],L,vs,h,hp=>by
    cases h;have:=hp.1;simpa using this.symm
  |d::r,L,[],h,hp=>by have:=hp.1;simp at this
  |d::r,L,v::vs,h,hp=>by
    simp only[uM]at h;split at h;rename_i x xs hx hxs;cases h;rw[iW,Gx r xs vs hxs ⟨by have:=hp.1;simpa using this,λi x y hx hy=>hp.2 (i+1) x y yd yR⟩];have hd:=hp.2 0 d v rfl rfl
    congr 1
    cases d<;>simp only[qLC]at hx<;>cases hx<;>cases hd<;>simp[jV];cases h
theorem tS:∀{ks:List TypeDesc}{L:List Lit},nX ks L->L.length=ks.length
  |[],[],_=>rfl
  |k::ks,x::xs,h=>by simp[tS h.2]
  |[],_::_,h=>h.elim
  |_::_,[],h=>h.elim
theorem Cy:∀{ks ks':List TypeDesc}{L:List Lit},nX (ks++ks') L->nX ks (L.take ks.length)/\nX ks' (L.drop ks.length)
  |[],_,_,h=>⟨trivial,h⟩
  |_::_,_,_::_,h=>⟨⟨h.1,(Cy h.2).1⟩,(Cy h.2).2⟩
  |_::_,_,[],h=>h.elim
theorem If(n m:Nat)(IH:∀(t:TypeId)(ks:List TypeDesc)(L:List Lit),Dl P n t=some ks->nX ks L->P.keyLits n t (L.map jV)=some L)(A:List Value)(tot:Nat):
    ∀ (fs : List Field) (kss : List (List TypeDesc)) (L : List Lit) (o : Nat), fs.mapM (fun f => Dl P n f.type) = some kss -> kss.map List.length = (fs.map fun f => P.cellsOf f.type) -> ql P fs o tot = true -> nX kss.flatten L -> A.drop o = L.map jV ->
      ∃Ls,fs.mapM (λf=>P.keyLits n f.type ((A.drop f.offset).take (P.cellsOf f.type)))=some Ls/\Ls.flatten=L
  |[],kss,L,o,hk,_,ht,hL,hA=>by
    simp at hk;subst hk
    cases L with
    |nil=>exact⟨[],aN,rfl⟩
    |cons x r=>exact hL.elim
  |f::fs,kss,L,o,hk,hlen,ht,hL,hA=>by
    rw[L8]at hk;simp only[bind,zal162q,pure,jA]at hk;obtain⟨k1,hk1,kr,hkr,rfl⟩:=hk;simp only[iW,jJ]at hlen;simp only[ql,tY,beq_iff_eq]at ht;simp only[List.flatten_cons]at hL;obtain⟨h1,h2⟩:=Cy hL;obtain⟨Ls,e1,e2⟩:=If n m IH A tot fs kr (L.drop k1.length) (o+P.cellsOf f.type) hkr hlen.2 ht.2 h2 (by rw[<- List.drop_drop,hA,<- hlen.1,Bo]);refine⟨L.take k1.length::Ls,?_,by rw[List.flatten_cons,e2,Qy]⟩;rw[L8];have:(A.drop f.offset).take (P.cellsOf f.type)=(L.take k1.length).map jV:=by rw[ht.1,hA,<- hlen.1,wy]
    rw[this,IH f.type k1 _ hk1 h1,e1];rfl
theorem vm:∀(n:Nat)(t:TypeId)(ks:List TypeDesc)(L:List Lit),Dl P n t=some ks->nX ks L->P.keyLits n t (L.map jV)=some L
  |0,_,_,_,h,_=>by cases h
  |n+1,t,ks,L,h,hL=>by
    unfold Dl at h;unfold Program.keyLits;split at h
    · rename_i hu
      cases h
      match L,hL with
      |[x],hL=>cases x<;>first|exact hL.1.elim|(simp only[hu,iW,uH,jV])
      |[],hL=>exact hL.elim
      |_::_::_,hL=>exact hL.2.elim
    · rename_i k hu
      cases h
      match L,hL with
      |[x],hL=>
        cases x<;>first|exact hL.1.elim|skip
        rename_i k' m;obtain⟨⟨rfl,h1,h2⟩,_⟩:=hL;simp only[hu,iW,uH,jV];rw[if_pos (by simp[Lit.wf,h1,h2])]
      |[],hL=>exact hL.elim
      |_::_::_,hL=>exact hL.2.elim
    · rename_i hu
      cases h
      match L,hL with
      |[x],hL=>
        cases x<;>first|exact hL.1.elim|skip
        rename_i bs;have:bs.length<=maxLen:=hL.1;simp only[hu,iW,uH,jV];rw[if_pos (by simpa[ByteArray.size]using this)]
      |[],hL=>exact hL.elim
      |_::_::_,hL=>exact hL.2.elim
    rename_i fs hu;split at h;rename_i kss hk
    cases hb : (ql P fs.toList 0 (P.cellsOf t) && (kss.map List.length == fs.toList.map fun f => P.cellsOf f.type) && fs.all (·.name != "_")) with
    |false=>rw[hb]at h;cases h
    |true=>
      rw[hb]at h;cases h;simp only[tY,beq_iff_eq]at hb;obtain⟨Ls,e1,e2⟩:=If n n (vm n) (L.map jV) (P.cellsOf t) fs.toList kss L 0 hk hb.1.2 hb.1.1 hL aN
      have hlen:(L.map jV).length=P.cellsOf t:=by
        rw[uR,tS hL]
        have:∀(fs:List Field)(kss:List (List TypeDesc)) (o:Nat),kss.map List.length=(fs.map λf=>P.cellsOf f.type)->ql P fs o (P.cellsOf t)=true->o+kss.flatten.length=P.cellsOf t:=by
          intro fs
          induction fs with
          | nil => intro kss o h1 h2; have : kss = [] := sN
                   subst this;simpa[ql]using h2
          |cons f r ih=>
            intro kss o h1 h2
            match kss,h1 with
            |k::kr,h1=>
              simp only[iW,jJ]at h1;simp only[ql,tY,beq_iff_eq]at h2;have:=ih kr _ h1.2 h2.2;simp only[List.flatten_cons,sH];omega
            |[],h1=>simp at h1
        have:=this fs.toList kss 0 hb.1.2 hb.1.1;omega
      simp only[hu];rw[if_pos ⟨hlen,hb.2⟩,e1];simp[e2]
    cases h;cases h
theorem eq_agg{ev:Operand->AV}{cs:List D}(ho:o.op=.binOp .eql t x y t'\/o.op=.binOp .neq t x y t')(hx:ev x=.d (.agg cs))(hy:ev y=.d (.agg ds))(hk:Dl C.P 30 t=some ks)(hkt:(C.P.keyTypeAt 30 t&&!C.P.eqGuardType C.P.depth t&&(match C.P.underlying t with|some (.struct _)=>true|_=>false)&&ks.length == C.P.cellsOf t)=true)(hL:uM cs=some L)(hM:uM ds=some M)(h1:nX ks L)(h2:nX ks M)(hb:L=M↔b=true):RdOk C o ev hp (.d (.bool (match o.op with|.binOp .neq _ _ _ _=>!b|_=>b))):=RdOk.mk λst hhp hag g a w hs=>by simp only[tY,gH,beq_iff_eq]at hkt;obtain⟨⟨⟨hkt,hgd⟩,hst⟩,hkl⟩:=hkt;have open':∀(z:Operand)(cs:List D)(L:List Lit),z∈o.op.operands->ev z=.d (.agg cs)->uM cs=some L->a.eval z=.agg (L.map jV).toArray:=(by intro z cs L hz he hl;have h:=hs.ev z;rw[hag z hz,he]at h;generalize a.eval z=v at *;cases h with|d _ _ h=>cases h with|agg _ vs hlen _ h=>have:=Gx cs L vs.toList hl ⟨V5,λi x y hx hy=>h i x y hx yR⟩;rw[<- this]);have hxm:x∈o.op.operands:=(by rcases ho with ho|ho<;>simp[ho,Op.operands]);have hym:y∈o.op.operands:=(by rcases ho with ho|ho<;>simp[ho,Op.operands]);have e1:=open' x cs L hxm hx hL;have e2:=open' y ds M hym hy hM;have formed:∀N:List Lit,nX ks N->Value.formed C.P t (.agg (N.map jV).toArray)=true:=λN hN=>(by have:=tS hN;split at hst;rename_i hu;simp[Value.formed,hu];omega;cases hst);obtain⟨r,hr,hiff⟩:=run_equalIn_deep (P:=C.P) (10000-30) 30 t hkt w 30 30 _ _ L M (formed L h1) (formed M h2) (by simpa[Value.cells]using vm 30 t ks L hk h1) (by simpa[Value.cells]using vm 30 t ks M hk h2);have hrb:r=b:=(by cases r<;>cases b<;>simp_all);subst hrb;have heq:(Op.equal t (.agg (L.map jV).toArray) (.agg (M.map jV).toArray)).run C.P w=.ok r w:=hr;rcases ho with ho|ho;refine⟨.bool r,?_,?_⟩;simp only[execOp,ho,e1,e2];simp[eqGuard,binOp,hgd,heq];simp only[ho];exact .d _ _ (.bool _);refine⟨.bool (!r),?_,?_⟩;simp only[execOp,ho,e1,e2];simp[eqGuard,binOp,hgd,heq];simp only[ho];exact .d _ _ (.bool _)
theorem eq_yes{ev:Operand->AV}{cs:List D}(ho:o.op=.binOp .eql t x y t')(hx:ev x=.d (.agg cs))(hy:ev y=.d (.agg ds))(hk:Dl C.P 30 t=some ks)(hkt:(C.P.keyTypeAt 30 t&&!C.P.eqGuardType C.P.depth t&&(match C.P.underlying t with|some (.struct _)=>true|_=>false)&&ks.length == C.P.cellsOf t)=true)(hL:uM cs=some L)(hM:uM ds=some M)(h1:nX ks L)(h2:nX ks M)(hb:L=M↔b=true):RdOk C o ev hp (.d (.bool b)):=by have:=eq_agg (hp:=hp) (.inl ho) hx hy hk hkt hL hM h1 h2 hb;simpa only[ho]using this
theorem eq_not{ev:Operand->AV}{cs:List D}(ho:o.op=.binOp .neq t x y t')(hx:ev x=.d (.agg cs))(hy:ev y=.d (.agg ds))(hk:Dl C.P 30 t=some ks)(hkt:(C.P.keyTypeAt 30 t&&!C.P.eqGuardType C.P.depth t&&(match C.P.underlying t with|some (.struct _)=>true|_=>false)&&ks.length == C.P.cellsOf t)=true)(hL:uM cs=some L)(hM:uM ds=some M)(h1:nX ks L)(h2:nX ks M)(hb:L=M↔b=true):RdOk C o ev hp (.d (.bool (!b))):=by have:=eq_agg (hp:=hp) (.inr ho) hx hy hk hkt hL hM h1 h2 hb;simpa only[ho]using this
theorem cB{ev:Operand->AV}(ho:o.op=.build t parts)(hpl:Gt C.P t=some pl)(hz:(C.P.info? t).bind (·.zero)=some z)(hzf:(gP z).flat=true)(hzc:(gP z).cells=zc)(hf:qCK pl zc (parts.toList.map λp=>(p.1,ev p.2))=some cs)(hv:zg cs=.d (.agg ds)):RdOk C o ev hp (.d (.agg ds)):=lW ho hpl hz hzf hzc hf hv
theorem cU{fn:Func}{hp:List Blk}{mv:Nat->Bool}{args:List AV}{rs:List ResultVar}(hcb:tR P F=true)(hf:P.funcs[F]?=some fn)(hb:fn.body=some c)(hn:fn.ntmps=n)(hrs:fn.results.toList=rs)(hle:Nat.ble args.length n=true)(h:∀w g,TWp ⟨P,n,w,hp.length,g,mv⟩ c ⟨zZ args,hp⟩ (qTQ P hp.length rs r hp')):Ret P F hp mv args r hp':=by subst hn hrs;exact qJL hcb hf hb (iP hle) h
theorem twp_hyp{c:Operand}{x y:Code}(hc:fr.ev c=.d (.bool b))(k:Bool)(hk:b=k)(h:TWp C (bif k then x else y) ⟨fr,hp⟩ Q):TWp C (.cond c x y) ⟨fr,hp⟩ Q:=by subst hk;exact TC b hc (λe=>by subst e;exact h) (λe=>by subst e;exact h)
theorem Cb(t:Nat)(v':AV)(hv:Fr.get fr t=v)(he:v=v')(h:cP C ops l ⟨(t,v')::fr,hp⟩ K):cP C ops l ⟨fr,hp⟩ K:=by subst he;intro g a w hs;refine h g a w { hs with fr:=λt'=>?_ };have:=hs.fr t';simp only[Fr.get];split;rename_i e;subst e;rw[<- hv];exact this;exact this
theorem qAS{id:Nat}(h:hp[id]?=some (.flat ty sz es))(hn:n=es.length):Snap hp (.msl id sz 0 n) (.sl sz es):=(Snap.msl id sz 0 n ty es h aB).same (by subst hn;simp)
inductive SnapsO (hp:List Blk):List AV->List D->Prop
  |nil:SnapsO hp [] []
  |cons {x:AV} {d:D} {xs:List AV} {ds:List D} (h:Snap hp x d) (h1:d.one=true) (hr:SnapsO hp xs ds):SnapsO hp (x::xs) (d::ds)
theorem nE(h:SnapsO hp cs ds):Snap hp (.agg cs) (.agg ds):=by have key:cs.length=ds.length/\(∀d∈ds,d.one=true)/\∀(i:Nat)(c:AV)(d:D),cs[i]?=some c->ds[i]?=some d->Snap hp c d:=(by induction h with|nil=>exact⟨rfl,λd hd=>by simp at hd,λi c d hc=>by simp at hc⟩|cons h h1 _ ih=>refine⟨by simp[ih.1],λd hd=>?_,λi c d hc hd=>?_⟩;simp only[ci]at hd;rcases hd with rfl|hd;exact h1;exact ih.2.1 d hd;cases i with|zero=>simp at hc hd;subst hc hd;exact h|succ i=>exact ih.2.2 i c d fe (by simpa using hd));exact .agg cs ds key.1 key.2.1 key.2.2
def qTE:List AV->Option (List D)
  |[]=>some []
  |.d x::r=>match qTE r with|some xs=>some (x::xs)|none=>none
  |_=>none
theorem F0:∀{cs:List AV}{ds:List D},qTE cs=some ds->cs=ds.map .d
  |[],ds,h=>by cases h;rfl
  |c::r,ds,h=>by
    cases c with
    |d x=>
      simp only[qTE]at h;split at h;rename_i xs hx;cases h;rw[F0 hx];rfl;cases h
    |_=>simp[qTE]at h
theorem s_litD{d:Nat}{pos:String}{after:Array Edge}{e:TypeId}{by':Nat}(xs:List Operand)(hd:decide (d<C.n)=true)(hl:sel C.P t=some (e,sz,by'))(hz:(C.P.info? e).bind (·.zero)=some z)(hp':vD parts xs)(hx:qTE (xs.map fr.ev)=some ds)(hn:Nat.beq ds.length n=true)(hs:(ds.all λd=>Nat.beq d.cells.length sz)=true)(hsmall:Nat.ble (n*sz) 16777216=true)(h:cP C ops l ⟨(d,.msl hp.length sz 0 n)::fr,hp++[.flat e sz ds]⟩ K):cP C ops (⟨some d,.buildSlice t n parts,ty,pos,after,none⟩::l) ⟨fr,hp⟩ K:=s_lit xs hd hl hz hp' (F0 hx) (eU hn) (λd hd=>eU (zal39q.1 hs d hd)) (iP hsmall) h
theorem RetN.mk(h:Ret P F [] (λ_=>false) (ds.map .d) r hp')(hs:Snap hp' r d)(hm:AMem0 r)(hb:∀B∈hp',qDA B):RetN P F ds d:=⟨_,r,hp',h,hs,hm,hb⟩
theorem RetN.flat{F:FuncId}{ds:List D}{sz n:Nat}{ty:TypeId}{es:List D}(h:Ret P F [] (λ_=>false) (ds.map .d) (.msl 0 sz 0 n) [.flat ty sz es])(hn:n=es.length)(hm:∀e∈es,D.mem0 e=true):RetN P F ds (.sl sz es):=.mk h (qAS rfl hn) (.msl _ _ _ _) λB hB=>by simp only[zal121q]at hB;subst hB;exact hm
theorem RetN.lit(h:Ret P F [] (λ_=>false) (ds.map .d) (.d d) [])(hm:D.mem0 d=true):RetN P F ds d:=.mk h (.d d) (.d d hm) λB hB=>by simp at hB
theorem G2{f:α->D}{x:α}(h:xs[i]?=some x):(0:Int)<=(i:Int)/\(xs.map f)[((i:Int)).toNat]?=some (f x):=⟨aB,Gd⟩
theorem qQG{f:α->D}{x:α}(h:xs[i]?=some x):(xs.map f)[i]?=some (f x):=Gd
end Go.TL
