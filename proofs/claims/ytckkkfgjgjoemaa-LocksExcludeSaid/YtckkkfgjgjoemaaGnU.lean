/- What the walks must know of the program's types. No condition. -/
import Derived.Test.YtckkkfgjgjoemaaGnT
import Derived.Test.YtckkkfgjgjoemaaRows
import Derived.KernelRfl
set_option maxHeartbeats 400000
set_option linter.unusedSimpArgs false
set_option linter.unusedVariables false
set_option maxRecDepth 20000
namespace Go.Proofs.Ytckkkfgjgjoemaa
open Go Go.TL

theorem follows : Try.prog.follows .mixedOrders = true := by kernel_rfl
theorem own : ownKnob Try.prog.godebug = none := by kernel_rfl
theorem laidOut : laidOutB Try.prog = true := by kernel_rfl
def tab : Tab where
  lay := [(3, false, 1), (4, false, 1), (9, false, 1), (22, false, 1), (23, false, 1), (25, true, 5), (26, false, 1), (28, true, 2), (34, false, 1), (37, false, 1), (39, true, 7), (44, true, 3), (45, false, 1), (48, true, 14), (54, true, 2), (57, false, 1), (61, true, 2)]
  fs := [(25, [(0, false, 1), (1, false, 1), (2, false, 1), (3, false, 1), (4, false, 1)]), (28, [(0, false, 1), (1, false, 1)]), (39, [(0, false, 1), (1, false, 1), (2, false, 1), (3, false, 1), (4, false, 1), (5, false, 1), (6, false, 1)]), (44, [(0, false, 1), (1, false, 1), (2, false, 1)]), (48, [(0, false, 1), (1, false, 1), (2, false, 1), (3, false, 1), (4, false, 1), (5, false, 1), (6, false, 1), (7, false, 1), (8, false, 1), (9, false, 1), (10, false, 1), (11, false, 1), (12, false, 1), (13, false, 1)]), (54, [(0, false, 1), (1, false, 1)])]
  sel := [(22, 48, 14, 264), (23, 3, 1, 8), (26, 44, 3, 24), (34, 54, 2, 16), (37, 4, 1, 1), (45, 66, 3, 24), (56, 57, 1, 24), (57, 61, 2, 16), (88, 34, 1, 24), (109, 23, 1, 24)]
  str := []
  boo := [(4, ())]
  con := []
theorem tab_ok : TabOk Try.prog tab := tabB_ok (by kernel_rfl)
theorem asel61 : asel Try.prog 61 = some (2, 1) := by kernel_rfl
theorem asel94 : asel Try.prog 94 = some (24, 1) := by kernel_rfl
theorem callB10 : callB Try.prog 10 = true := by kernel_rfl
theorem callB11 : callB Try.prog 11 = true := by kernel_rfl
theorem callB12 : callB Try.prog 12 = true := by kernel_rfl
theorem callB13 : callB Try.prog 13 = true := by kernel_rfl
theorem callB14 : callB Try.prog 14 = true := by kernel_rfl
theorem callB15 : callB Try.prog 15 = true := by kernel_rfl
theorem callB16 : callB Try.prog 16 = true := by kernel_rfl
theorem callB17 : callB Try.prog 17 = true := by kernel_rfl
theorem callB18 : callB Try.prog 18 = true := by kernel_rfl
theorem callB19 : callB Try.prog 19 = true := by kernel_rfl
theorem callB20 : callB Try.prog 20 = true := by kernel_rfl
theorem callB21 : callB Try.prog 21 = true := by kernel_rfl
theorem callB22 : callB Try.prog 22 = true := by kernel_rfl
theorem callB23 : callB Try.prog 23 = true := by kernel_rfl
theorem callB24 : callB Try.prog 24 = true := by kernel_rfl
theorem callB25 : callB Try.prog 25 = true := by kernel_rfl
theorem callB26 : callB Try.prog 26 = true := by kernel_rfl
theorem callB27 : callB Try.prog 27 = true := by kernel_rfl
theorem callB28 : callB Try.prog 28 = true := by kernel_rfl
theorem callB29 : callB Try.prog 29 = true := by kernel_rfl
theorem callB3 : callB Try.prog 3 = true := by kernel_rfl
theorem callB30 : callB Try.prog 30 = true := by kernel_rfl
theorem callB31 : callB Try.prog 31 = true := by kernel_rfl
theorem callB32 : callB Try.prog 32 = true := by kernel_rfl
theorem callB33 : callB Try.prog 33 = true := by kernel_rfl
theorem callB34 : callB Try.prog 34 = true := by kernel_rfl
theorem callB35 : callB Try.prog 35 = true := by kernel_rfl
theorem callB36 : callB Try.prog 36 = true := by kernel_rfl
theorem callB37 : callB Try.prog 37 = true := by kernel_rfl
theorem callB38 : callB Try.prog 38 = true := by kernel_rfl
theorem callB39 : callB Try.prog 39 = true := by kernel_rfl
theorem callB4 : callB Try.prog 4 = true := by kernel_rfl
theorem callB40 : callB Try.prog 40 = true := by kernel_rfl
theorem callB41 : callB Try.prog 41 = true := by kernel_rfl
theorem callB42 : callB Try.prog 42 = true := by kernel_rfl
theorem callB43 : callB Try.prog 43 = true := by kernel_rfl
theorem callB44 : callB Try.prog 44 = true := by kernel_rfl
theorem callB45 : callB Try.prog 45 = true := by kernel_rfl
theorem callB46 : callB Try.prog 46 = true := by kernel_rfl
theorem callB47 : callB Try.prog 47 = true := by kernel_rfl
theorem callB48 : callB Try.prog 48 = true := by kernel_rfl
theorem callB49 : callB Try.prog 49 = true := by kernel_rfl
theorem callB5 : callB Try.prog 5 = true := by kernel_rfl
theorem callB50 : callB Try.prog 50 = true := by kernel_rfl
theorem callB51 : callB Try.prog 51 = true := by kernel_rfl
theorem callB52 : callB Try.prog 52 = true := by kernel_rfl
theorem callB53 : callB Try.prog 53 = true := by kernel_rfl
theorem callB54 : callB Try.prog 54 = true := by kernel_rfl
theorem callB55 : callB Try.prog 55 = true := by kernel_rfl
theorem callB56 : callB Try.prog 56 = true := by kernel_rfl
theorem callB57 : callB Try.prog 57 = true := by kernel_rfl
theorem callB58 : callB Try.prog 58 = true := by kernel_rfl
theorem callB59 : callB Try.prog 59 = true := by kernel_rfl
theorem callB60 : callB Try.prog 60 = true := by kernel_rfl
theorem callB61 : callB Try.prog 61 = true := by kernel_rfl
theorem callB62 : callB Try.prog 62 = true := by kernel_rfl
theorem callB63 : callB Try.prog 63 = true := by kernel_rfl
theorem callB64 : callB Try.prog 64 = true := by kernel_rfl
theorem callB65 : callB Try.prog 65 = true := by kernel_rfl
theorem callB66 : callB Try.prog 66 = true := by kernel_rfl
theorem callB67 : callB Try.prog 67 = true := by kernel_rfl
theorem callB68 : callB Try.prog 68 = true := by kernel_rfl
theorem callB69 : callB Try.prog 69 = true := by kernel_rfl
theorem callB7 : callB Try.prog 7 = true := by kernel_rfl
theorem callB70 : callB Try.prog 70 = true := by kernel_rfl
theorem callB71 : callB Try.prog 71 = true := by kernel_rfl
theorem callB72 : callB Try.prog 72 = true := by kernel_rfl
theorem callB73 : callB Try.prog 73 = true := by kernel_rfl
theorem callB74 : callB Try.prog 74 = true := by kernel_rfl
theorem callB75 : callB Try.prog 75 = true := by kernel_rfl
theorem callB78 : callB Try.prog 78 = true := by kernel_rfl
theorem callB79 : callB Try.prog 79 = true := by kernel_rfl
theorem callB8 : callB Try.prog 8 = true := by kernel_rfl
theorem callB80 : callB Try.prog 80 = true := by kernel_rfl
theorem callB9 : callB Try.prog 9 = true := by kernel_rfl
theorem callB91 : callB Try.prog 91 = true := by kernel_rfl
theorem keyt54 : (Try.prog.keyTypeAt 30 54 && !Try.prog.eqGuardType Try.prog.depth 54 && (match Try.prog.underlying 54 with | some (.struct _) => true | _ => false) && [TypeDesc.int .i64, TypeDesc.int .i64].length == Try.prog.cellsOf 54) = true := by kernel_rfl
theorem keytA61 : (Try.prog.keyTypeAt 30 61 && !Try.prog.eqGuardType Try.prog.depth 61) = true := by kernel_rfl
theorem kinds54 : kinds Try.prog 30 54 = some [.int .i64, .int .i64] := by kernel_rfl
theorem kindsA61 : kindsA Try.prog 61 = some (List.replicate 2 (TypeDesc.int .i64)) := by kernel_rfl
theorem lay23 : lay Try.prog 23 = some (false, 1) := by kernel_rfl
theorem lay34 : lay Try.prog 34 = some (false, 1) := by kernel_rfl
theorem mty86 : mty Try.prog 86 = some (9, .string, 4) := by kernel_rfl
theorem plc25 : plc Try.prog 25 = some [(0, 1), (1, 1), (2, 1), (3, 1), (4, 1)] := by kernel_rfl
theorem plc28 : plc Try.prog 28 = some [(0, 1), (1, 1)] := by kernel_rfl
theorem plc39 : plc Try.prog 39 = some [(0, 1), (1, 1), (2, 1), (3, 1), (4, 1), (5, 1), (6, 1)] := by kernel_rfl
theorem plc44 : plc Try.prog 44 = some [(0, 1), (1, 1), (2, 1)] := by kernel_rfl
theorem plc48 : plc Try.prog 48 = some [(0, 1), (1, 1), (2, 1), (3, 1), (4, 1), (5, 1), (6, 1), (7, 1), (8, 1), (9, 1), (10, 1), (11, 1), (12, 1), (13, 1)] := by kernel_rfl
theorem plc54 : plc Try.prog 54 = some [(0, 1), (1, 1)] := by kernel_rfl
theorem plc66 : plc Try.prog 66 = some [(0, 1), (1, 1), (2, 1)] := by kernel_rfl
theorem sel109 : sel Try.prog 109 = some (23, 1, 24) := by kernel_rfl
theorem sel23 : sel Try.prog 23 = some (3, 1, 8) := by kernel_rfl
theorem sel34 : sel Try.prog 34 = some (54, 2, 16) := by kernel_rfl
theorem sel88 : sel Try.prog 88 = some (34, 1, 24) := by kernel_rfl
theorem zero23 : (Try.prog.info? 23).bind (·.zero) = Option.some (Go.Value.slice Option.none 0 0) := by kernel_rfl
theorem zero25 : (Try.prog.info? 25).bind (·.zero) = Option.some (Go.Value.agg #[Go.Value.slice Option.none 0 0, Go.Value.slice Option.none 0 0, Go.Value.slice Option.none 0 0, Go.Value.int Go.IntKind.i64 0, Go.Value.int Go.IntKind.i64 0]) := by kernel_rfl
theorem zero28 : (Try.prog.info? 28).bind (·.zero) = Option.some (Go.Value.agg #[Go.Value.slice Option.none 0 0, Go.Value.slice Option.none 0 0]) := by kernel_rfl
theorem zero3 : (Try.prog.info? 3).bind (·.zero) = Option.some (Go.Value.int Go.IntKind.i64 0) := by kernel_rfl
theorem zero34 : (Try.prog.info? 34).bind (·.zero) = Option.some (Go.Value.slice Option.none 0 0) := by kernel_rfl
theorem zero39 : (Try.prog.info? 39).bind (·.zero) = Option.some (Go.Value.agg #[Go.Value.slice Option.none 0 0, Go.Value.slice Option.none 0 0, Go.Value.slice Option.none 0 0, Go.Value.slice Option.none 0 0, Go.Value.slice Option.none 0 0, Go.Value.slice Option.none 0 0, Go.Value.slice Option.none 0 0]) := by kernel_rfl
theorem zero4 : (Try.prog.info? 4).bind (·.zero) = Option.some (Go.Value.bool Bool.false) := by kernel_rfl
theorem zero44 : (Try.prog.info? 44).bind (·.zero) = Option.some (Go.Value.agg #[Go.Value.int Go.IntKind.i64 0, Go.Value.int Go.IntKind.i64 0, Go.Value.int Go.IntKind.i64 0]) := by kernel_rfl
theorem zero48 : (Try.prog.info? 48).bind (·.zero) = Option.some (Go.Value.agg #[Go.Value.string { data := #[] }, Go.Value.int Go.IntKind.i64 0, Go.Value.int Go.IntKind.i64 0, Go.Value.slice Option.none 0 0, Go.Value.slice Option.none 0 0, Go.Value.slice Option.none 0 0, Go.Value.int Go.IntKind.i64 0, Go.Value.int Go.IntKind.i64 0, Go.Value.slice Option.none 0 0, Go.Value.slice Option.none 0 0, Go.Value.slice Option.none 0 0, Go.Value.slice Option.none 0 0, Go.Value.slice Option.none 0 0, Go.Value.slice Option.none 0 0]) := by kernel_rfl
theorem zero54 : (Try.prog.info? 54).bind (·.zero) = Option.some (Go.Value.agg #[Go.Value.int Go.IntKind.i64 0, Go.Value.int Go.IntKind.i64 0]) := by kernel_rfl
theorem zero57 : (Try.prog.info? 57).bind (·.zero) = Option.some (Go.Value.slice Option.none 0 0) := by kernel_rfl
theorem zero61 : (Try.prog.info? 61).bind (·.zero) = Option.some (Go.Value.agg #[Go.Value.int Go.IntKind.i64 0, Go.Value.int Go.IntKind.i64 0]) := by kernel_rfl
theorem zero66 : (Try.prog.info? 66).bind (·.zero) = Option.some (Go.Value.agg #[Go.Value.int Go.IntKind.i64 0, Go.Value.int Go.IntKind.i64 0, Go.Value.int Go.IntKind.i64 0]) := by kernel_rfl
theorem zero94 : (Try.prog.info? 94).bind (·.zero) = Option.some (Go.Value.agg #[Go.Value.bool Bool.false, Go.Value.bool Bool.false, Go.Value.bool Bool.false, Go.Value.bool Bool.false, Go.Value.bool Bool.false, Go.Value.bool Bool.false, Go.Value.bool Bool.false, Go.Value.bool Bool.false, Go.Value.bool Bool.false, Go.Value.bool Bool.false, Go.Value.bool Bool.false, Go.Value.bool Bool.false, Go.Value.bool Bool.false, Go.Value.bool Bool.false, Go.Value.bool Bool.false, Go.Value.bool Bool.false, Go.Value.bool Bool.false, Go.Value.bool Bool.false, Go.Value.bool Bool.false, Go.Value.bool Bool.false, Go.Value.bool Bool.false, Go.Value.bool Bool.false, Go.Value.bool Bool.false, Go.Value.bool Bool.false]) := by kernel_rfl
theorem plcA61 : plcA Try.prog 61 = some [(0, 1), (1, 1)] := by kernel_rfl
theorem Setting_eq {w : World} {n k : Nat} {g : Gh} {mv : Nat → Bool} {o : Oper} {ev : Operand → AV} {hp : List Blk} {a b : Operand} {t' : TypeId} {x y : Setting} (ho : o.op = .binOp .eql 54 a b t') (hx : ev a = .d x.enc) (hy : ev b = .d y.enc) (h1 : x.ok) (h2 : y.ok) : RdOk ⟨Try.prog, n, w, k, g, mv⟩ o ev hp (.d (.bool (decide (x = y)))) :=
  eq_yes ho hx hy kinds54 keyt54 rfl rfl ⟨⟨rfl, h1.1⟩, ⟨rfl, h1.2⟩, trivial⟩ ⟨⟨rfl, h2.1⟩, ⟨rfl, h2.2⟩, trivial⟩ (Setting_lits x y)
theorem Setting_ne {w : World} {n k : Nat} {g : Gh} {mv : Nat → Bool} {o : Oper} {ev : Operand → AV} {hp : List Blk} {a b : Operand} {t' : TypeId} {x y : Setting} (ho : o.op = .binOp .neq 54 a b t') (hx : ev a = .d x.enc) (hy : ev b = .d y.enc) (h1 : x.ok) (h2 : y.ok) : RdOk ⟨Try.prog, n, w, k, g, mv⟩ o ev hp (.d (.bool (!decide (x = y)))) :=
  eq_not ho hx hy kinds54 keyt54 rfl rfl ⟨⟨rfl, h1.1⟩, ⟨rfl, h1.2⟩, trivial⟩ ⟨⟨rfl, h2.1⟩, ⟨rfl, h2.2⟩, trivial⟩ (Setting_lits x y)
theorem A2_int_eq {w : World} {n k : Nat} {g : Gh} {mv : Nat → Bool} {o : Oper} {ev : Operand → AV} {hp : List Blk} {a b : Operand} {t' : TypeId} {x y : A2_int} (ho : o.op = .binOp .eql 61 a b t') (hx : ev a = .d x.enc) (hy : ev b = .d y.enc) (h1 : x.ok) (h2 : y.ok) : RdOk ⟨Try.prog, n, w, k, g, mv⟩ o ev hp (.d (.bool (decide (x = y)))) :=
  eqA_yes ho hx hy kindsA61 keytA61 rfl rfl ⟨⟨rfl, h1.1⟩, ⟨rfl, h1.2⟩, trivial⟩ ⟨⟨rfl, h2.1⟩, ⟨rfl, h2.2⟩, trivial⟩ (A2_int_lits x y)
theorem A2_int_ne {w : World} {n k : Nat} {g : Gh} {mv : Nat → Bool} {o : Oper} {ev : Operand → AV} {hp : List Blk} {a b : Operand} {t' : TypeId} {x y : A2_int} (ho : o.op = .binOp .neq 61 a b t') (hx : ev a = .d x.enc) (hy : ev b = .d y.enc) (h1 : x.ok) (h2 : y.ok) : RdOk ⟨Try.prog, n, w, k, g, mv⟩ o ev hp (.d (.bool (!decide (x = y)))) :=
  eqA_not ho hx hy kindsA61 keytA61 rfl rfl ⟨⟨rfl, h1.1⟩, ⟨rfl, h1.2⟩, trivial⟩ ⟨⟨rfl, h2.1⟩, ⟨rfl, h2.2⟩, trivial⟩ (A2_int_lits x y)

end Go.Proofs.Ytckkkfgjgjoemaa
