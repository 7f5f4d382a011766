/- The program's types as structures of Lean's own. No condition. -/
import Derived.Test.YtckkkfgjgjoemaaTl1
set_option maxHeartbeats 400000
set_option linter.unusedSimpArgs false
set_option linter.unusedVariables false
set_option maxRecDepth 20000
namespace Go.Proofs.Ytckkkfgjgjoemaa
open Go Go.TL

structure Step where
  el : Int
  inV : Int
  out : Int
deriving DecidableEq, Inhabited
def Step.enc (x : Step) : D := .agg [.int .i64 x.el, .int .i64 x.inV, .int .i64 x.out]
structure Step.Wf (x : Step) : Prop where
  el : I64 x.el
  inV : I64 x.inV
  out : I64 x.out

structure Setting where
  el : Int
  pos : Int
deriving DecidableEq, Inhabited
def Setting.enc (x : Setting) : D := .agg [.int .i64 x.el, .int .i64 x.pos]
structure Setting.Wf (x : Setting) : Prop where
  el : I64 x.el
  pos : I64 x.pos

structure End where
  el : Int
  side : Int
deriving DecidableEq, Inhabited
def End.enc (x : End) : D := .agg [.int .i64 x.el, .int .i64 x.side]
structure End.Wf (x : End) : Prop where
  el : I64 x.el
  side : I64 x.side

structure Route where
  name : ByteArray
  entry : Int
  exit : Int
  path : (List Step)
  points : (List Setting)
  sections : (List Int)
  approach : Int
  length : Int
  over : (List Step)
  overPoints : (List Setting)
  overSections : (List Int)
  flank : (List Setting)
  guards : (List Int)
  gaps : (List End)
deriving DecidableEq, Inhabited
def Route.enc (x : Route) : D := .agg [.str x.name, .int .i64 x.entry, .int .i64 x.exit, .sl 3 (x.path.map Step.enc), .sl 2 (x.points.map Setting.enc), .sl 1 (x.sections.map (D.int .i64)), .int .i64 x.approach, .int .i64 x.length, .sl 3 (x.over.map Step.enc), .sl 2 (x.overPoints.map Setting.enc), .sl 1 (x.overSections.map (D.int .i64)), .sl 2 (x.flank.map Setting.enc), .sl 1 (x.guards.map (D.int .i64)), .sl 2 (x.gaps.map End.enc)]
structure Route.Wf (x : Route) : Prop where
  name : x.name.size ≤ reachBytes
  entry : I64 x.entry
  exit : I64 x.exit
  path : x.path.length ≤ reachBytes ∧ ∀ y ∈ x.path, Step.Wf y
  points : x.points.length ≤ reachBytes ∧ ∀ y ∈ x.points, Setting.Wf y
  sections : x.sections.length ≤ reachBytes ∧ ∀ y ∈ x.sections, I64 y
  approach : I64 x.approach
  length : I64 x.length
  over : x.over.length ≤ reachBytes ∧ ∀ y ∈ x.over, Step.Wf y
  overPoints : x.overPoints.length ≤ reachBytes ∧ ∀ y ∈ x.overPoints, Setting.Wf y
  overSections : x.overSections.length ≤ reachBytes ∧ ∀ y ∈ x.overSections, I64 y
  flank : x.flank.length ≤ reachBytes ∧ ∀ y ∈ x.flank, Setting.Wf y
  guards : x.guards.length ≤ reachBytes ∧ ∀ y ∈ x.guards, I64 y
  gaps : x.gaps.length ≤ reachBytes ∧ ∀ y ∈ x.gaps, End.Wf y

structure Table where
  routes : (List Route)
  points : (List Int)
  homes : (List Int)
  sections : Int
  signals : Int
deriving DecidableEq, Inhabited
def Table.enc (x : Table) : D := .agg [.sl 14 (x.routes.map Route.enc), .sl 1 (x.points.map (D.int .i64)), .sl 1 (x.homes.map (D.int .i64)), .int .i64 x.sections, .int .i64 x.signals]
structure Table.Wf (x : Table) : Prop where
  routes : x.routes.length ≤ reachBytes ∧ ∀ y ∈ x.routes, Route.Wf y
  points : x.points.length ≤ reachBytes ∧ ∀ y ∈ x.points, I64 y
  homes : x.homes.length ≤ reachBytes ∧ ∀ y ∈ x.homes, I64 y
  sections : I64 x.sections
  signals : I64 x.signals

structure RouteState where
  state : Int
  rel : Int
  timer : Int
deriving DecidableEq, Inhabited
def RouteState.enc (x : RouteState) : D := .agg [.int .i64 x.state, .int .i64 x.rel, .int .i64 x.timer]
structure RouteState.Wf (x : RouteState) : Prop where
  state : I64 x.state
  rel : I64 x.rel
  timer : I64 x.timer

structure Inter where
  routes : (List RouteState)
  lies : (List Int)
deriving DecidableEq, Inhabited
def Inter.enc (x : Inter) : D := .agg [.sl 3 (x.routes.map RouteState.enc), .sl 1 (x.lies.map (D.int .i64))]
structure Inter.Wf (x : Inter) : Prop where
  routes : x.routes.length ≤ reachBytes ∧ ∀ y ∈ x.routes, RouteState.Wf y
  lies : x.lies.length ≤ reachBytes ∧ ∀ y ∈ x.lies, I64 y

structure A2_int where
  a0 : Int
  a1 : Int
deriving DecidableEq, Inhabited
def A2_int.enc (x : A2_int) : D := .agg [.int .i64 x.a0, .int .i64 x.a1]
structure A2_int.Wf (x : A2_int) : Prop where
  a0 : I64 x.a0
  a1 : I64 x.a1

structure Inputs where
  occupied : (List Bool)
  detected : (List Int)
  closed : (List Bool)
  claimed : (List Bool)
  passed : (List Bool)
  calls : (List Int)
  cancels : (List Int)
deriving DecidableEq, Inhabited
def Inputs.enc (x : Inputs) : D := .agg [.sl 1 (x.occupied.map D.bool), .sl 1 (x.detected.map (D.int .i64)), .sl 1 (x.closed.map D.bool), .sl 1 (x.claimed.map D.bool), .sl 1 (x.passed.map D.bool), .sl 1 (x.calls.map (D.int .i64)), .sl 1 (x.cancels.map (D.int .i64))]
structure Inputs.Wf (x : Inputs) : Prop where
  occupied : x.occupied.length ≤ reachBytes ∧ ∀ y ∈ x.occupied, True
  detected : x.detected.length ≤ reachBytes ∧ ∀ y ∈ x.detected, I64 y
  closed : x.closed.length ≤ reachBytes ∧ ∀ y ∈ x.closed, True
  claimed : x.claimed.length ≤ reachBytes ∧ ∀ y ∈ x.claimed, True
  passed : x.passed.length ≤ reachBytes ∧ ∀ y ∈ x.passed, True
  calls : x.calls.length ≤ reachBytes ∧ ∀ y ∈ x.calls, I64 y
  cancels : x.cancels.length ≤ reachBytes ∧ ∀ y ∈ x.cancels, I64 y

def Setting.ok (x : Setting) : Prop := I64 x.el ∧ I64 x.pos
instance (x : Setting) : Decidable (Setting.ok x) := by unfold Setting.ok; infer_instance
theorem Setting_lits (x y : Setting) : ([.int .i64 x.el, .int .i64 x.pos] : List Lit) = [.int .i64 y.el, .int .i64 y.pos] ↔ decide (x = y) = true := by
  rw [decide_eq_true_eq]
  obtain ⟨_, _⟩ := x
  obtain ⟨_, _⟩ := y
  simp [Setting.mk.injEq, bytes_data, and_assoc]
def A2_int.ok (x : A2_int) : Prop := I64 x.a0 ∧ I64 x.a1
instance (x : A2_int) : Decidable (A2_int.ok x) := by unfold A2_int.ok; infer_instance
theorem A2_int_lits (x y : A2_int) : ([.int .i64 x.a0, .int .i64 x.a1] : List Lit) = [.int .i64 y.a0, .int .i64 y.a1] ↔ decide (x = y) = true := by
  rw [decide_eq_true_eq]
  obtain ⟨_, _⟩ := x
  obtain ⟨_, _⟩ := y
  simp [A2_int.mk.injEq, bytes_data, and_assoc]

end Go.Proofs.Ytckkkfgjgjoemaa
