/- Texts of this proof, joined, without what it does not use. No condition. -/
import Derived.Lib.ItoaNum
import Derived.Test.YtcagmechagiclaaGreatDoorQo

set_option maxHeartbeats 8000000
set_option linter.unusedSimpArgs false
set_option linter.unusedVariables false
set_option maxRecDepth 20000
namespace Go.Proofs.YtcagmechagiclaaGreatDoor
open Go Go.TL

def law24_small (p0 : Table) : Option Bool :=
 bindS (
  loopM (fun x3 =>
   if x3 < (p0.routes.length : Int) then
    getM p0.routes x3 fun e6 =>
    guardM (I64 ((e6.path.length : Int) + (e6.sections.length : Int))) <|
    guardM (I64 (((e6.path.length : Int) + (e6.sections.length : Int)) + (e6.overSections.length : Int))) <|
    guardM (I64 ((((e6.path.length : Int) + (e6.sections.length : Int)) + (e6.overSections.length : Int)) + (e6.points.length : Int))) <|
    guardM (I64 (((((e6.path.length : Int) + (e6.sections.length : Int)) + (e6.overSections.length : Int)) + (e6.points.length : Int)) + (e6.overPoints.length : Int))) <|
    guardM (I64 ((((((e6.path.length : Int) + (e6.sections.length : Int)) + (e6.overSections.length : Int)) + (e6.points.length : Int)) + (e6.overPoints.length : Int)) + (e6.flank.length : Int))) <|
    if (200 : Int) < ((((((e6.path.length : Int) + (e6.sections.length : Int)) + (e6.overSections.length : Int)) + (e6.points.length : Int)) + (e6.overPoints.length : Int)) + (e6.flank.length : Int)) then
     inrM (
      inrM (
       some false))
    else
     guardM (I64 (x3 + (1 : Int))) <|
     some (.inl (x3 + (1 : Int)))
   else
    inrM (
     some (.inl ()))) (0 : Int)) fun _ =>
 some ((decide ((p0.routes.length : Int) ≤ (100 : Int))) && (decide ((p0.points.length : Int) ≤ (100 : Int))))

def law24_line  : Option Table :=
 some (⟨([(⟨(⟨#[115, 49, 45, 115, 50]⟩ : ByteArray), (0 : Int), (1 : Int), ([(⟨(1 : Int), (0 : Int), (1 : Int)⟩ : Step)] : List Step), ([] : List Setting), ([(1 : Int)] : List Int), (0 : Int), (20000 : Int), ([] : List Step), ([] : List Setting), ([] : List Int), ([] : List Setting), ([] : List Int), ([] : List End)⟩ : Route), (⟨(⟨#[115, 50, 45, 101, 110, 100]⟩ : ByteArray), (1 : Int), (-1 : Int), ([(⟨(2 : Int), (0 : Int), (1 : Int)⟩ : Step)] : List Step), ([] : List Setting), ([(2 : Int)] : List Int), (1 : Int), (20000 : Int), ([] : List Step), ([] : List Setting), ([] : List Int), ([] : List Setting), ([] : List Int), ([] : List End)⟩ : Route)] : List Route), ([] : List Int), ([] : List Int), (3 : Int), (2 : Int)⟩ : Table)

def table_within (p0 : Int) (p1 : Int) : Option Bool :=
 some ((decide ((0 : Int) ≤ p0)) && (decide (p0 < p1)))

def table_pointsRight (p0 : Table) : Option Bool :=
 if (p0.homes.length : Int) = (p0.points.length : Int) then
  bindS (
   loopM (fun x4 =>
    if x4 < (p0.points.length : Int) then
     getM p0.points x4 fun e7 =>
     bindM (
      if e7 < (0 : Int) then
       some true
      else
       if (0 : Int) < x4 then
        guardM (I64 (x4 - (1 : Int))) <|
        getM p0.points (x4 - (1 : Int)) fun e15 =>
        if e7 ≤ e15 then
         some true
        else
         getM p0.homes x4 fun e17 =>
         bindM (table_within e17 p0.sections) fun r18 =>
         some (!(r18))
       else
        getM p0.homes x4 fun e12 =>
        bindM (table_within e12 p0.sections) fun r13 =>
        some (!(r13))) fun x8 =>
     if x8 = true then
      inrM (
       inrM (
        some false))
     else
      guardM (I64 (x4 + (1 : Int))) <|
      some (.inl (x4 + (1 : Int)))
    else
     inrM (
      some (.inl ()))) (0 : Int)) fun _ =>
  some true
 else
  some false

def slices_Concat_int (p0 : List (List Int)) : Option (List Int) :=
 guardM (p0.length ≤ 1000 ∧ p0.flatten.length ≤ 1000000000) <|
 some p0.flatten

def table_routeRight (p0 : Table) (p1 : Route) : Option Bool :=
 bindM (
  bindM (table_within p1.entry p0.signals) fun r3 =>
  if (!(r3)) = true then
   some true
  else
   if p1.exit = (-1 : Int) then
    some false
   else
    bindM (table_within p1.exit p0.signals) fun r6 =>
    some (!(r6))) fun x1 =>
 if x1 = true then
  some false
 else
  if ((decide ((p1.path.length : Int) < (1 : Int))) || ((decide ((12 : Int) < (p1.path.length : Int))) || (decide ((p1.sections.length : Int) = (0 : Int))))) = true then
   some false
  else
   bindS (
    bindM (slices_Concat_int ([p1.sections, p1.overSections] : List (List Int))) fun r13 =>
    loopM (fun (x17, b18) =>
     if x17 < (r13.length : Int) then
      getM r13 x17 fun e21 =>
      bindM (
       bindM (table_within e21 p0.sections) fun r24 =>
       if (!(r24)) = true then
        some true
       else
        guardM (e21 < 24) <|
        getM b18 e21 fun e26 =>
        some e26) fun x22 =>
      if x22 = true then
       inrM (
        inrM (
         some false))
      else
       guardM (e21 < 24) <|
       getM b18 e21 fun e31 =>
       guardM (I64 (x17 + (1 : Int))) <|
       some (.inl ((x17 + (1 : Int)), (b18.set e21.toNat true)))
     else
      inrM (
       some (.inl b18))) ((0 : Int), (List.replicate 24 false))) fun b11 =>
   bindM (
    bindM (table_within p1.approach p0.sections) fun r37 =>
    if r37 = true then
     some (decide ((1 : Int) ≤ p1.length))
    else
     some false) fun x35 =>
   some x35

def slices_Index_int (p0 : (List Int)) (p1 : Int) : Option Int :=
 bindS (
  loopM (fun x3 =>
   if x3 < (p0.length : Int) then
    getM p0 x3 fun e6 =>
    if p1 = e6 then
     inrM (
      inrM (
       some x3))
    else
     guardM (I64 (x3 + (1 : Int))) <|
     some (.inl (x3 + (1 : Int)))
   else
    inrM (
     some (.inl ()))) (0 : Int)) fun _ =>
 some (-1 : Int)

def table_Index (p0 : Table) (p1 : Int) : Option Int :=
 bindM (slices_Index_int p0.points p1) fun r1 =>
 some r1

def table_settingsRight (p0 : Table) (p1 : (List Setting)) : Option Bool :=
 bindS (
  loopM (fun x3 =>
   if x3 < (p1.length : Int) then
    getM p1 x3 fun e6 =>
    bindM (
     if (0 : Int) < x3 then
      guardM (I64 (x3 - (1 : Int))) <|
      getM p1 (x3 - (1 : Int)) fun e12 =>
      if e6.el ≤ e12.el then
       some true
      else
       bindM (table_Index p0 e6.el) fun r14 =>
       some (decide (r14 < (0 : Int)))
     else
      bindM (table_Index p0 e6.el) fun r10 =>
      some (decide (r10 < (0 : Int)))) fun x7 =>
    if x7 = true then
     inrM (
      inrM (
       some false))
    else
     if ((!(decide (e6.pos = (1 : Int)))) && (!(decide (e6.pos = (2 : Int))))) = true then
      inrM (
       inrM (
        some false))
     else
      guardM (I64 (x3 + (1 : Int))) <|
      some (.inl (x3 + (1 : Int)))
   else
    inrM (
     some (.inl ()))) (0 : Int)) fun _ =>
 some true

def conflict_Agree (p0 : (List Setting)) (p1 : (List Setting)) : Option Bool :=
 bindS (
  loopM (fun x3 =>
   if x3 < (p0.length : Int) then
    bindS (
     getM p0 x3 fun e7 =>
     loopM (fun x9 =>
      if x9 < (p1.length : Int) then
       getM p1 x9 fun e12 =>
       if ((decide (e7.el = e12.el)) && (!(decide (e7.pos = e12.pos)))) = true then
        inrM (
         inrM (
          inrM (
           inrM (
            some false))))
       else
        guardM (I64 (x9 + (1 : Int))) <|
        some (.inl (x9 + (1 : Int)))
      else
       inrM (
        some (.inl ()))) (0 : Int)) fun _ =>
    guardM (I64 (x3 + (1 : Int))) <|
    some (.inl (x3 + (1 : Int)))
   else
    inrM (
     some (.inl ()))) (0 : Int)) fun _ =>
 some true

def table_Check (p0 : Table) : Option Int :=
 bindM (
  if (48 : Int) < (p0.routes.length : Int) then
   some true
  else
   if (32 : Int) < (p0.points.length : Int) then
    some true
   else
    bindM (table_within p0.sections (25 : Int)) fun r5 =>
    if (!(r5)) = true then
     some true
    else
     bindM (table_within p0.signals (21 : Int)) fun r7 =>
     some (!(r7))) fun x1 =>
 if x1 = true then
  some (2 : Int)
 else
  bindM (table_pointsRight p0) fun r9 =>
  if (!(r9)) = true then
   some (1 : Int)
  else
   bindS (
    loopM (fun x13 =>
     if x13 < (p0.routes.length : Int) then
      getM p0.routes x13 fun e16 =>
      bindM (table_routeRight p0 e16) fun r17 =>
      if (!(r17)) = true then
       inrM (
        inrM (
         some (1 : Int)))
      else
       guardM (I64 (x13 + (1 : Int))) <|
       some (.inl (x13 + (1 : Int)))
     else
      inrM (
       some (.inl ()))) (0 : Int)) fun _ =>
   bindS (
    loopM (fun x25 =>
     if x25 < (p0.routes.length : Int) then
      getM p0.routes x25 fun e28 =>
      bindM (
       bindM (table_settingsRight p0 e28.points) fun r31 =>
       if (!(r31)) = true then
        some true
       else
        bindM (table_settingsRight p0 e28.overPoints) fun r33 =>
        if (!(r33)) = true then
         some true
        else
         bindM (table_settingsRight p0 e28.flank) fun r35 =>
         some (!(r35))) fun x29 =>
      if x29 = true then
       inrM (
        inrM (
         some (1 : Int)))
      else
       guardM (I64 (x25 + (1 : Int))) <|
       some (.inl (x25 + (1 : Int)))
     else
      inrM (
       some (.inl ()))) (0 : Int)) fun _ =>
   bindS (
    loopM (fun x43 =>
     if x43 < (p0.routes.length : Int) then
      getM p0.routes x43 fun e46 =>
      bindM (
       bindM (conflict_Agree e46.points e46.overPoints) fun r49 =>
       if (!(r49)) = true then
        some true
       else
        bindM (conflict_Agree e46.points e46.flank) fun r51 =>
        if (!(r51)) = true then
         some true
        else
         bindM (conflict_Agree e46.overPoints e46.flank) fun r53 =>
         some (!(r53))) fun x47 =>
      if x47 = true then
       inrM (
        inrM (
         some (10 : Int)))
      else
       guardM (I64 (x43 + (1 : Int))) <|
       some (.inl (x43 + (1 : Int)))
     else
      inrM (
       some (.inl ()))) (0 : Int)) fun _ =>
   bindS (
    loopM (fun (x64, b65) =>
     if x64 < (p0.routes.length : Int) then
      getM p0.routes x64 fun e68 =>
      guardM (b65.map (·.1)).Nodup <|
      if (((assocE b65 e68.name).getD false)) = true then
       inrM (
        inrM (
         some (8 : Int)))
      else
       guardM (b65.map (·.1)).Nodup <|
       guardM (I64 (x64 + (1 : Int))) <|
       some (.inl ((x64 + (1 : Int)), (putE b65 e68.name true)))
     else
      inrM (
       some (.inl b65))) ((0 : Int), ([] : List (ByteArray × Bool)))) fun m59 =>
   some (0 : Int)

def compile_numbering_last (p0 : Numbering) (p1 : Int) : Option Int :=
 getM p0.t.routes p1 fun e1 =>
 guardM (I64 ((e1.sections.length : Int) - (1 : Int))) <|
 some ((e1.sections.length : Int) - (1 : Int))

def compile_number (p0 : Table) : Option (Numbering × Int) :=
 bindM (table_Check p0) fun r1 =>
 if r1 = (0 : Int) then
  guardM (I64 ((2 : Int) * p0.sections)) <|
  guardM (I64 ((2 : Int) * (p0.points.length : Int))) <|
  guardM (I64 (((2 : Int) * p0.sections) + ((2 : Int) * (p0.points.length : Int)))) <|
  guardM (I64 ((4 : Int) * (p0.routes.length : Int))) <|
  guardM (I64 ((((2 : Int) * p0.sections) + ((2 : Int) * (p0.points.length : Int))) + ((4 : Int) * (p0.routes.length : Int)))) <|
  guardM (I64 (((((2 : Int) * p0.sections) + ((2 : Int) * (p0.points.length : Int))) + ((4 : Int) * (p0.routes.length : Int))) + (p0.points.length : Int))) <|
  bindM (
   loopM (fun (x16, c17, b18) =>
    if x16 < (p0.routes.length : Int) then
     guardM ((b18 ++ ([c17] : List Int)).length ≤ 1000000000) <|
     bindM (compile_numbering_last (⟨p0, ((((2 : Int) * p0.sections) + ((2 : Int) * (p0.points.length : Int))) + ((4 : Int) * (p0.routes.length : Int))), (b18 ++ ([c17] : List Int)), c17, (0 : Int)⟩ : Numbering) x16) fun r22 =>
     guardM (I64 ((4 : Int) + r22)) <|
     guardM (I64 (((4 : Int) + r22) + (2 : Int))) <|
     guardM (I64 (c17 + (((4 : Int) + r22) + (2 : Int)))) <|
     guardM (I64 (x16 + (1 : Int))) <|
     some (.inl ((x16 + (1 : Int)), (c17 + (((4 : Int) + r22) + (2 : Int))), (b18 ++ ([c17] : List Int))))
    else
     inrM (
      some (c17, b18))) ((0 : Int), (((((2 : Int) * p0.sections) + ((2 : Int) * (p0.points.length : Int))) + ((4 : Int) * (p0.routes.length : Int))) + (p0.points.length : Int)), ([] : List Int))) fun (c9, b10) =>
  guardM (I64 ((5 : Int) * (p0.routes.length : Int))) <|
  guardM (I64 (c9 + ((5 : Int) * (p0.routes.length : Int)))) <|
  if (2000 : Int) < (c9 + ((5 : Int) * (p0.routes.length : Int))) then
   some ((⟨(⟨([] : List Route), ([] : List Int), ([] : List Int), (0 : Int), (0 : Int)⟩ : Table), (0 : Int), ([] : List Int), (0 : Int), (0 : Int)⟩ : Numbering), (2 : Int))
  else
   some ((⟨p0, ((((2 : Int) * p0.sections) + ((2 : Int) * (p0.points.length : Int))) + ((4 : Int) * (p0.routes.length : Int))), b10, c9, (c9 + ((5 : Int) * (p0.routes.length : Int)))⟩ : Numbering), (0 : Int))
 else
  some ((⟨(⟨([] : List Route), ([] : List Int), ([] : List Int), (0 : Int), (0 : Int)⟩ : Table), (0 : Int), ([] : List Int), (0 : Int), (0 : Int)⟩ : Numbering), r1)

def compile_numbering_part (p0 : Numbering) (p1 : Int) (p2 : Int) : Option Int :=
 getM p0.bases p1 fun e1 =>
 guardM (I64 (e1 + p2)) <|
 some (e1 + p2)

def compile_numbering_wait (p0 : Numbering) (p1 : Int) : Option Int :=
 bindM (compile_numbering_last p0 p1) fun r1 =>
 guardM (I64 ((4 : Int) + r1)) <|
 bindM (compile_numbering_part p0 p1 ((4 : Int) + r1)) fun r3 =>
 some r3

def compile_val (p0 : Int) : Option Expr :=
 some (⟨(3 : Int), p0, ([] : List Expr)⟩ : Expr)

def compile_numbering_request (p0 : Numbering) (p1 : Int) (p2 : Int) : Option Int :=
 guardM (I64 ((2 : Int) * p0.t.sections)) <|
 guardM (I64 ((2 : Int) * (p0.t.points.length : Int))) <|
 guardM (I64 (((2 : Int) * p0.t.sections) + ((2 : Int) * (p0.t.points.length : Int)))) <|
 guardM (I64 ((4 : Int) * p1)) <|
 guardM (I64 ((((2 : Int) * p0.t.sections) + ((2 : Int) * (p0.t.points.length : Int))) + ((4 : Int) * p1))) <|
 guardM (I64 (((((2 : Int) * p0.t.sections) + ((2 : Int) * (p0.t.points.length : Int))) + ((4 : Int) * p1)) + p2)) <|
 some (((((2 : Int) * p0.t.sections) + ((2 : Int) * (p0.t.points.length : Int))) + ((4 : Int) * p1)) + p2)

def compile_numbering_section (p0 : Numbering) (p1 : Int) (p2 : Int) : Option Int :=
 guardM (I64 ((2 : Int) * p1)) <|
 guardM (I64 (((2 : Int) * p1) + p2)) <|
 some (((2 : Int) * p1) + p2)

def compile_or (p0 : (List Expr)) : Option Expr :=
 some (⟨(6 : Int), (0 : Int), p0⟩ : Expr)

def compile_and (p0 : (List Expr)) : Option Expr :=
 some (⟨(5 : Int), (0 : Int), p0⟩ : Expr)

def compile_numbering_stand (p0 : Numbering) (p1 : Int) : Option Int :=
 bindM (compile_numbering_wait p0 p1) fun r1 =>
 guardM (I64 (r1 + (1 : Int))) <|
 some (r1 + (1 : Int))

def compile_not (p0 : Expr) : Option Expr :=
 some (⟨(4 : Int), (0 : Int), ([p0] : List Expr)⟩ : Expr)

def compile_numbering_aux (p0 : Numbering) (p1 : Int) (p2 : Int) : Option Int :=
 guardM (I64 ((5 : Int) * p1)) <|
 guardM (I64 (p0.extra + ((5 : Int) * p1))) <|
 guardM (I64 ((p0.extra + ((5 : Int) * p1)) + p2)) <|
 some ((p0.extra + ((5 : Int) * p1)) + p2)

def slices_Concat_Setting (p0 : List (List Setting)) : Option (List Setting) :=
 guardM (p0.length ≤ 1000 ∧ p0.flatten.length ≤ 1000000000) <|
 some p0.flatten

def cmp_isNaN_int (p0 : Int) : Option Bool :=
 some (!(decide (p0 = p0)))

def cmp_Compare_int (p0 : Int) (p1 : Int) : Option Int :=
 bindM (cmp_isNaN_int p0) fun r1 =>
 bindM (cmp_isNaN_int p1) fun r2 =>
 if r1 = true then
  if r2 = true then
   some (0 : Int)
  else
   some (-1 : Int)
 else
  if r2 = true then
   some (1 : Int)
  else
   if p0 < p1 then
    some (-1 : Int)
   else
    if p1 < p0 then
     some (1 : Int)
    else
     some (0 : Int)

def cmp_Or_int (p0 : (List Int)) : Option Int :=
 bindS (
  loopM (fun x3 =>
   if x3 < (p0.length : Int) then
    getM p0 x3 fun e6 =>
    if e6 = (0 : Int) then
     guardM (I64 (x3 + (1 : Int))) <|
     some (.inl (x3 + (1 : Int)))
    else
     inrM (
      inrM (
       some e6))
   else
    inrM (
     some (.inl ()))) (0 : Int)) fun _ =>
 some (0 : Int)

def table_Settings_c1 (p0 : Setting) (p1 : Setting) : Option Int :=
 bindM (cmp_Compare_int p0.el p1.el) fun r1 =>
 bindM (cmp_Compare_int p0.pos p1.pos) fun r2 =>
 bindM (cmp_Or_int ([r1, r2] : List Int)) fun r3 =>
 some r3

def table_Settings (p0 : Route) : Option ((List Setting)) :=
 bindM (slices_Concat_Setting ([p0.points, p0.overPoints, p0.flank] : List (List Setting))) fun r1 =>
 guardM (r1.length ≤ 1000000000) <|
 bindM (
  loopM (fun (x8, b9) =>
   if x8 < ((sortM table_Settings_c1 r1).length : Int) then
    getM (sortM table_Settings_c1 r1) x8 fun e12 =>
    bindM (
     if x8 = (0 : Int) then
      some true
     else
      guardM (I64 (x8 - (1 : Int))) <|
      getM (sortM table_Settings_c1 r1) (x8 - (1 : Int)) fun e17 =>
      guardM (Setting.ok e12 ∧ Setting.ok e17) <|
      some (!(decide (e12 = e17)))) fun x13 =>
    if x13 = true then
     guardM ((b9 ++ ([e12] : List Setting)).length ≤ 1000000000) <|
     guardM (I64 (x8 + (1 : Int))) <|
     some (.inl ((x8 + (1 : Int)), (b9 ++ ([e12] : List Setting))))
    else
     guardM (I64 (x8 + (1 : Int))) <|
     some (.inl ((x8 + (1 : Int)), b9))
   else
    inrM (
     some b9)) ((0 : Int), ([] : List Setting))) fun b3 =>
 some b3

def compile_numbering_points (p0 : Numbering) (p1 : Int) (p2 : Int) : Option Int :=
 guardM (I64 ((2 : Int) * p0.t.sections)) <|
 guardM (I64 ((2 : Int) * p1)) <|
 guardM (I64 (((2 : Int) * p0.t.sections) + ((2 : Int) * p1))) <|
 guardM (I64 ((((2 : Int) * p0.t.sections) + ((2 : Int) * p1)) + p2)) <|
 some ((((2 : Int) * p0.t.sections) + ((2 : Int) * p1)) + p2)

def conflict_Follows (p0 : Route) (p1 : Route) : Option Bool :=
 some ((decide ((0 : Int) ≤ p0.exit)) && (decide (p1.entry = p0.exit)))

def slices_Contains_int (p0 : (List Int)) (p1 : Int) : Option Bool :=
 bindM (slices_Index_int p0 p1) fun r1 =>
 some (decide ((0 : Int) ≤ r1))

def slices_Index_Setting (p0 : (List Setting)) (p1 : Setting) : Option Int :=
 bindS (
  loopM (fun x3 =>
   if x3 < (p0.length : Int) then
    getM p0 x3 fun e6 =>
    guardM (Setting.ok p1 ∧ Setting.ok e6) <|
    if p1 = e6 then
     inrM (
      inrM (
       some x3))
    else
     guardM (I64 (x3 + (1 : Int))) <|
     some (.inl (x3 + (1 : Int)))
   else
    inrM (
     some (.inl ()))) (0 : Int)) fun _ =>
 some (-1 : Int)

def slices_Contains_Setting (p0 : (List Setting)) (p1 : Setting) : Option Bool :=
 bindM (slices_Index_Setting p0 p1) fun r1 =>
 some (decide ((0 : Int) ≤ r1))

def compile_numbering_lie (p0 : Numbering) (p1 : Int) : Option Int :=
 guardM (I64 (p0.inputs + p1)) <|
 some (p0.inputs + p1)

def itoaB (n : Nat) : ByteArray := ⟨(Go.Lib.decDigits n).toArray⟩
def strconv_Itoa (p0 : Int) : Option ByteArray := guardM (0 ≤ p0 ∧ p0 < 100) <| some (itoaB p0.toNat)

def compile_numbering_names_c1 (p0 : Int) (p1 : (List ByteArray)) (p2 : (List ByteArray)) : Option ((List ByteArray)) :=
 loopM (fun (x4, b5) =>
  if x4 < (p1.length : Int) then
   getM p1 x4 fun e8 =>
   guardM (e8.size + (⟨#[46]⟩ : ByteArray).size ≤ 9223372036854775807) <|
   bindM (strconv_Itoa p0) fun r10 =>
   guardM ((e8 ++ (⟨#[46]⟩ : ByteArray)).size + r10.size ≤ 9223372036854775807) <|
   guardM ((b5 ++ ([((e8 ++ (⟨#[46]⟩ : ByteArray)) ++ r10)] : List ByteArray)).length ≤ 1000000000) <|
   guardM (I64 (x4 + (1 : Int))) <|
   some (.inl ((x4 + (1 : Int)), (b5 ++ ([((e8 ++ (⟨#[46]⟩ : ByteArray)) ++ r10)] : List ByteArray))))
  else
   inrM (
    some b5)) ((0 : Int), p2)

def compile_numbering_names (p0 : Numbering) : Option ((List ByteArray)) :=
 bindM (
  loopM (fun (x6, b7) =>
   if x6 < p0.t.sections then
    bindM (compile_numbering_names_c1 x6 ([(⟨#[102, 114, 101, 101]⟩ : ByteArray), (⟨#[111, 112, 101, 110]⟩ : ByteArray)] : List ByteArray) b7) fun r10 =>
    guardM (I64 (x6 + (1 : Int))) <|
    some (.inl ((x6 + (1 : Int)), r10))
   else
    inrM (
     some b7)) ((0 : Int), ([] : List ByteArray))) fun b1 =>
 bindM (
  loopM (fun (x18, b19) =>
   if x18 < (p0.t.points.length : Int) then
    bindM (compile_numbering_names_c1 x18 ([(⟨#[110, 111, 114, 109, 97, 108]⟩ : ByteArray), (⟨#[114, 101, 118, 101, 114, 115, 101]⟩ : ByteArray)] : List ByteArray) b19) fun r22 =>
    guardM (I64 (x18 + (1 : Int))) <|
    some (.inl ((x18 + (1 : Int)), r22))
   else
    inrM (
     some b19)) ((0 : Int), b1)) fun b13 =>
 bindM (
  loopM (fun (x30, b31) =>
   if x30 < (p0.t.routes.length : Int) then
    bindM (compile_numbering_names_c1 x30 ([(⟨#[117, 110, 99, 108, 97, 105, 109, 101, 100]⟩ : ByteArray), (⟨#[112, 97, 115, 115, 101, 100]⟩ : ByteArray), (⟨#[99, 97, 108, 108]⟩ : ByteArray), (⟨#[99, 97, 110, 99, 101, 108]⟩ : ByteArray)] : List ByteArray) b31) fun r34 =>
    guardM (I64 (x30 + (1 : Int))) <|
    some (.inl ((x30 + (1 : Int)), r34))
   else
    inrM (
     some b31)) ((0 : Int), b13)) fun b25 =>
 bindM (
  loopM (fun (x42, b43) =>
   if x42 < (p0.t.points.length : Int) then
    bindM (compile_numbering_names_c1 x42 ([(⟨#[108, 105, 101]⟩ : ByteArray)] : List ByteArray) b43) fun r46 =>
    guardM (I64 (x42 + (1 : Int))) <|
    some (.inl ((x42 + (1 : Int)), r46))
   else
    inrM (
     some b43)) ((0 : Int), b25)) fun b37 =>
 bindM (
  loopM (fun (x54, b55) =>
   if x54 < (p0.t.routes.length : Int) then
    bindM (
     bindM (compile_numbering_names_c1 x54 ([(⟨#[115, 101, 116]⟩ : ByteArray), (⟨#[99, 108, 101, 97, 114]⟩ : ByteArray), (⟨#[117, 115, 101, 100]⟩ : ByteArray), (⟨#[104, 101, 108, 100]⟩ : ByteArray)] : List ByteArray) b55) fun r60 =>
     bindM (
      bindM (compile_numbering_last p0 x54) fun r63 =>
      loopM (fun (x67, b68) =>
       if x67 < r63 then
        bindM (strconv_Itoa x54) fun r71 =>
        guardM ((⟨#[114, 101, 108, 46]⟩ : ByteArray).size + r71.size ≤ 9223372036854775807) <|
        bindM (compile_numbering_names_c1 x67 ([((⟨#[114, 101, 108, 46]⟩ : ByteArray) ++ r71)] : List ByteArray) b68) fun r73 =>
        guardM (I64 (x67 + (1 : Int))) <|
        some (.inl ((x67 + (1 : Int)), r73))
       else
        inrM (
         some b68)) ((0 : Int), r60)) fun b61 =>
     bindM (compile_numbering_names_c1 x54 ([(⟨#[119, 97, 105, 116]⟩ : ByteArray), (⟨#[115, 116, 97, 110, 100]⟩ : ByteArray)] : List ByteArray) b61) fun r76 =>
     some r76) fun b58 =>
    guardM (I64 (x54 + (1 : Int))) <|
    some (.inl ((x54 + (1 : Int)), b58))
   else
    inrM (
     some b55)) ((0 : Int), b37)) fun b49 =>
 bindM (
  loopM (fun (x84, b85) =>
   if x84 < (p0.t.routes.length : Int) then
    bindM (compile_numbering_names_c1 x84 ([(⟨#[107, 101, 101, 112]⟩ : ByteArray), (⟨#[117, 115, 101]⟩ : ByteArray), (⟨#[104, 111, 108, 100]⟩ : ByteArray), (⟨#[97, 99, 116]⟩ : ByteArray), (⟨#[99, 97, 108, 108, 101, 100]⟩ : ByteArray)] : List ByteArray) b85) fun r88 =>
    guardM (I64 (x84 + (1 : Int))) <|
    some (.inl ((x84 + (1 : Int)), r88))
   else
    inrM (
     some b85)) ((0 : Int), b49)) fun b79 =>
 some b79

def compile_builder_status (p0 : Builder) (p1 : Int) (p2 : Int) : Option Expr :=
 bindM (compile_numbering_part p0.numbering p1 p2) fun r1 =>
 bindM (compile_val r1) fun r2 =>
 some r2

def compile_builder_ask (p0 : Builder) (p1 : Int) (p2 : Int) : Option Expr :=
 bindM (compile_numbering_request p0.numbering p1 p2) fun r1 =>
 bindM (compile_val r1) fun r2 =>
 some r2

def compile_builder_rel (p0 : Builder) (p1 : Int) (p2 : Int) : Option Expr :=
 guardM (I64 ((4 : Int) + p2)) <|
 bindM (compile_numbering_part p0.numbering p1 ((4 : Int) + p2)) fun r2 =>
 bindM (compile_val r2) fun r3 =>
 some r3

def compile_builder_free (p0 : Builder) (p1 : Int) : Option Expr :=
 bindM (compile_numbering_section p0.numbering p1 (0 : Int)) fun r1 =>
 bindM (compile_val r1) fun r2 =>
 some r2

def compile_builder_emptied (p0 : Builder) (p1 : Int) : Option Expr :=
 bindM (
  getM p0.numbering.t.routes p1 fun e3 =>
  loopM (fun (x7, b8) =>
   if x7 < (e3.sections.length : Int) then
    getM e3.sections x7 fun e11 =>
    bindM (compile_numbering_last p0.numbering p1) fun r12 =>
    if x7 < r12 then
     bindM (compile_builder_rel p0 p1 x7) fun r14 =>
     bindM (compile_builder_free p0 e11) fun r15 =>
     bindM (compile_or ([r14, r15] : List Expr)) fun r16 =>
     guardM ((b8 ++ ([r16] : List Expr)).length ≤ 1000000000) <|
     guardM (I64 (x7 + (1 : Int))) <|
     some (.inl ((x7 + (1 : Int)), (b8 ++ ([r16] : List Expr))))
    else
     bindM (compile_builder_free p0 e11) fun r19 =>
     guardM ((b8 ++ ([r19] : List Expr)).length ≤ 1000000000) <|
     guardM (I64 (x7 + (1 : Int))) <|
     some (.inl ((x7 + (1 : Int)), (b8 ++ ([r19] : List Expr))))
   else
    inrM (
     some b8)) ((0 : Int), ([] : List Expr))) fun b1 =>
 bindM (compile_and b1) fun r23 =>
 some r23

def compile_builder_atLast (p0 : Builder) (p1 : Int) : Option Expr :=
 bindM (compile_numbering_last p0.numbering p1) fun r1 =>
 if r1 = (0 : Int) then
  bindM (compile_and []) fun r3 =>
  some r3
 else
  bindM (compile_numbering_last p0.numbering p1) fun r4 =>
  guardM (I64 (r4 - (1 : Int))) <|
  bindM (compile_builder_rel p0 p1 (r4 - (1 : Int))) fun r6 =>
  some r6

def compile_builder_timers (p0 : Builder) (p1 : Int) : Option Builder :=
 getM p0.numbering.t.routes p1 fun e1 =>
 bindM (compile_numbering_wait p0.numbering p1) fun r2 =>
 bindM (compile_builder_status p0 p1 (3 : Int)) fun r3 =>
 bindM (compile_builder_ask p0 p1 (0 : Int)) fun r4 =>
 bindM (compile_builder_emptied p0 p1) fun r5 =>
 bindM (compile_and ([r3, r4, r5] : List Expr)) fun r6 =>
 bindM (compile_numbering_stand p0.numbering p1) fun r7 =>
 bindM (compile_builder_status p0 p1 (2 : Int)) fun r8 =>
 bindM (compile_builder_ask p0 p1 (0 : Int)) fun r9 =>
 bindM (compile_builder_atLast p0 p1) fun r10 =>
 bindM (compile_numbering_last p0.numbering p1) fun r11 =>
 getM e1.sections r11 fun e12 =>
 bindM (compile_builder_free p0 e12) fun r13 =>
 bindM (compile_not r13) fun r14 =>
 bindM (compile_and ([r8, r9, r10, r14] : List Expr)) fun r15 =>
 guardM ((p0.rungs ++ ([(⟨(2 : Int), r2, (12 : Int), r6⟩ : Rung), (⟨(2 : Int), r7, (4 : Int), r15⟩ : Rung)] : List Rung)).length ≤ 1000000000) <|
 some (⟨p0.numbering, (p0.rungs ++ ([(⟨(2 : Int), r2, (12 : Int), r6⟩ : Rung), (⟨(2 : Int), r7, (4 : Int), r15⟩ : Rung)] : List Rung))⟩ : Builder)

def compile_builder_proved (p0 : Builder) (p1 : Int) : Option Expr :=
 getM p0.numbering.t.routes p1 fun e1 =>
 bindM (
  bindM (slices_Concat_int ([e1.sections, e1.overSections] : List (List Int))) fun r4 =>
  loopM (fun (x8, b9) =>
   if x8 < (r4.length : Int) then
    getM r4 x8 fun e12 =>
    bindM (compile_builder_free p0 e12) fun r13 =>
    guardM ((b9 ++ ([r13] : List Expr)).length ≤ 1000000000) <|
    guardM (I64 (x8 + (1 : Int))) <|
    some (.inl ((x8 + (1 : Int)), (b9 ++ ([r13] : List Expr))))
   else
    inrM (
     some b9)) ((0 : Int), ([] : List Expr))) fun b2 =>
 bindM (
  bindM (table_Settings e1) fun r19 =>
  loopM (fun (x23, b24) =>
   if x23 < (r19.length : Int) then
    getM r19 x23 fun e27 =>
    bindM (
     if e27.pos = (2 : Int) then
      some (1 : Int)
     else
      some (0 : Int)) fun kind28 =>
    bindM (table_Index p0.numbering.t e27.el) fun r31 =>
    bindM (compile_numbering_points p0.numbering r31 kind28) fun r32 =>
    bindM (compile_val r32) fun r33 =>
    guardM ((b24 ++ ([r33] : List Expr)).length ≤ 1000000000) <|
    guardM (I64 (x23 + (1 : Int))) <|
    some (.inl ((x23 + (1 : Int)), (b24 ++ ([r33] : List Expr))))
   else
    inrM (
     some b24)) ((0 : Int), b2)) fun b17 =>
 bindM (compile_and b17) fun r37 =>
 some r37

def compile_builder_set (p0 : Builder) (p1 : Int) (p2 : Expr) : Option Builder :=
 guardM ((p0.rungs ++ ([(⟨(1 : Int), p1, (0 : Int), p2⟩ : Rung)] : List Rung)).length ≤ 1000000000) <|
 some (⟨p0.numbering, (p0.rungs ++ ([(⟨(1 : Int), p1, (0 : Int), p2⟩ : Rung)] : List Rung))⟩ : Builder)

def compile_builder_current (p0 : Builder) (p1 : Int) : Option Expr :=
 bindM (
  getM p0.numbering.t.routes p1 fun e3 =>
  loopM (fun (x7, b8) =>
   if x7 < (e3.sections.length : Int) then
    getM e3.sections x7 fun e11 =>
    bindM (compile_builder_free p0 e11) fun r12 =>
    bindM (
     if (0 : Int) < x7 then
      guardM (I64 (x7 - (1 : Int))) <|
      bindM (compile_builder_rel p0 p1 (x7 - (1 : Int))) fun r17 =>
      guardM ((([r12] : List Expr) ++ ([r17] : List Expr)).length ≤ 1000000000) <|
      some (([r12] : List Expr) ++ ([r17] : List Expr))
     else
      some ([r12] : List Expr)) fun b13 =>
    bindM (
     bindM (compile_numbering_last p0.numbering p1) fun r21 =>
     if x7 < r21 then
      bindM (compile_builder_rel p0 p1 x7) fun r23 =>
      bindM (compile_not r23) fun r24 =>
      guardM ((b13 ++ ([r24] : List Expr)).length ≤ 1000000000) <|
      some (b13 ++ ([r24] : List Expr))
     else
      some b13) fun b19 =>
    bindM (compile_and b19) fun r26 =>
    guardM ((b8 ++ ([r26] : List Expr)).length ≤ 1000000000) <|
    guardM (I64 (x7 + (1 : Int))) <|
    some (.inl ((x7 + (1 : Int)), (b8 ++ ([r26] : List Expr))))
   else
    inrM (
     some b8)) ((0 : Int), ([] : List Expr))) fun b1 =>
 bindM (compile_or b1) fun r30 =>
 some r30

def compile_builder_clears (p0 : Builder) (p1 : Int) : Option Expr :=
 bindM (compile_builder_status p0 p1 (0 : Int)) fun r1 =>
 bindM (compile_builder_status p0 p1 (1 : Int)) fun r2 =>
 bindM (compile_or ([r1, r2] : List Expr)) fun r3 =>
 bindM (compile_builder_ask p0 p1 (3 : Int)) fun r4 =>
 bindM (compile_not r4) fun r5 =>
 bindM (compile_builder_proved p0 p1) fun r6 =>
 bindM (compile_and ([r3, r5, r6] : List Expr)) fun r7 =>
 some r7

def compile_builder_progress (p0 : Builder) (p1 : Int) : Option Builder :=
 getM p0.numbering.t.routes p1 fun e1 =>
 getM e1.sections (0 : Int) fun e2 =>
 bindM (compile_numbering_last p0.numbering p1) fun r3 =>
 getM e1.sections r3 fun e4 =>
 bindM (compile_numbering_aux p0.numbering p1 (0 : Int)) fun r5 =>
 bindM (compile_builder_status p0 p1 (0 : Int)) fun r6 =>
 bindM (compile_builder_ask p0 p1 (3 : Int)) fun r7 =>
 bindM (compile_not r7) fun r8 =>
 bindM (compile_builder_proved p0 p1) fun r9 =>
 bindM (compile_not r9) fun r10 =>
 bindM (compile_and ([r6, r8, r10] : List Expr)) fun r11 =>
 bindM (compile_builder_set p0 r5 r11) fun r12 =>
 bindM (compile_numbering_aux p0.numbering p1 (1 : Int)) fun r13 =>
 bindM (compile_builder_status (⟨p0.numbering, r12.rungs⟩ : Builder) p1 (1 : Int)) fun r14 =>
 bindM (compile_builder_free (⟨p0.numbering, r12.rungs⟩ : Builder) e2) fun r15 =>
 bindM (compile_not r15) fun r16 =>
 bindM (compile_and ([r14, r16] : List Expr)) fun r17 =>
 bindM (compile_builder_status (⟨p0.numbering, r12.rungs⟩ : Builder) p1 (2 : Int)) fun r18 =>
 bindM (compile_builder_ask (⟨p0.numbering, r12.rungs⟩ : Builder) p1 (0 : Int)) fun r19 =>
 bindM (compile_not r19) fun r20 =>
 bindM (compile_builder_ask (⟨p0.numbering, r12.rungs⟩ : Builder) p1 (3 : Int)) fun r21 =>
 bindM (compile_builder_emptied (⟨p0.numbering, r12.rungs⟩ : Builder) p1) fun r22 =>
 bindM (compile_and ([r21, r22] : List Expr)) fun r23 =>
 bindM (compile_not r23) fun r24 =>
 bindM (compile_builder_atLast (⟨p0.numbering, r12.rungs⟩ : Builder) p1) fun r25 =>
 bindM (compile_builder_free (⟨p0.numbering, r12.rungs⟩ : Builder) e4) fun r26 =>
 bindM (compile_and ([r25, r26] : List Expr)) fun r27 =>
 bindM (compile_not r27) fun r28 =>
 bindM (compile_numbering_stand p0.numbering p1) fun r29 =>
 bindM (compile_val r29) fun r30 =>
 bindM (compile_not r30) fun r31 =>
 bindM (compile_and ([r24, r28, r31] : List Expr)) fun r32 =>
 bindM (compile_or ([r20, r32] : List Expr)) fun r33 =>
 bindM (compile_and ([r18, r33] : List Expr)) fun r34 =>
 bindM (compile_builder_status (⟨p0.numbering, r12.rungs⟩ : Builder) p1 (3 : Int)) fun r35 =>
 bindM (compile_builder_current (⟨p0.numbering, r12.rungs⟩ : Builder) p1) fun r36 =>
 bindM (compile_not r36) fun r37 =>
 bindM (compile_and ([r35, r37] : List Expr)) fun r38 =>
 bindM (compile_or ([r17, r34, r38] : List Expr)) fun r39 =>
 bindM (compile_builder_set (⟨p0.numbering, r12.rungs⟩ : Builder) r13 r39) fun r40 =>
 bindM (compile_numbering_aux p0.numbering p1 (2 : Int)) fun r41 =>
 bindM (compile_builder_status (⟨p0.numbering, r40.rungs⟩ : Builder) p1 (1 : Int)) fun r42 =>
 bindM (compile_builder_free (⟨p0.numbering, r40.rungs⟩ : Builder) e2) fun r43 =>
 bindM (compile_builder_ask (⟨p0.numbering, r40.rungs⟩ : Builder) p1 (3 : Int)) fun r44 =>
 bindM (compile_builder_ask (⟨p0.numbering, r40.rungs⟩ : Builder) p1 (0 : Int)) fun r45 =>
 bindM (compile_builder_free (⟨p0.numbering, r40.rungs⟩ : Builder) e1.approach) fun r46 =>
 bindM (compile_and ([r44, r45, r46] : List Expr)) fun r47 =>
 bindM (compile_not r47) fun r48 =>
 bindM (compile_builder_ask (⟨p0.numbering, r40.rungs⟩ : Builder) p1 (3 : Int)) fun r49 =>
 bindM (compile_builder_proved (⟨p0.numbering, r40.rungs⟩ : Builder) p1) fun r50 =>
 bindM (compile_not r50) fun r51 =>
 bindM (compile_or ([r49, r51] : List Expr)) fun r52 =>
 bindM (compile_and ([r42, r43, r48, r52] : List Expr)) fun r53 =>
 bindM (compile_builder_status (⟨p0.numbering, r40.rungs⟩ : Builder) p1 (2 : Int)) fun r54 =>
 bindM (compile_builder_ask (⟨p0.numbering, r40.rungs⟩ : Builder) p1 (0 : Int)) fun r55 =>
 bindM (compile_builder_ask (⟨p0.numbering, r40.rungs⟩ : Builder) p1 (3 : Int)) fun r56 =>
 bindM (compile_builder_emptied (⟨p0.numbering, r40.rungs⟩ : Builder) p1) fun r57 =>
 bindM (compile_and ([r54, r55, r56, r57] : List Expr)) fun r58 =>
 bindM (compile_builder_status (⟨p0.numbering, r40.rungs⟩ : Builder) p1 (3 : Int)) fun r59 =>
 bindM (compile_builder_current (⟨p0.numbering, r40.rungs⟩ : Builder) p1) fun r60 =>
 bindM (compile_numbering_wait p0.numbering p1) fun r61 =>
 bindM (compile_val r61) fun r62 =>
 bindM (compile_not r62) fun r63 =>
 bindM (compile_and ([r59, r60, r63] : List Expr)) fun r64 =>
 bindM (compile_or ([r53, r58, r64] : List Expr)) fun r65 =>
 bindM (compile_builder_set (⟨p0.numbering, r40.rungs⟩ : Builder) r41 r65) fun r66 =>
 bindM (compile_numbering_aux p0.numbering p1 (3 : Int)) fun r67 =>
 bindM (compile_numbering_aux p0.numbering p1 (0 : Int)) fun r68 =>
 bindM (compile_val r68) fun r69 =>
 bindM (compile_builder_clears (⟨p0.numbering, r66.rungs⟩ : Builder) p1) fun r70 =>
 bindM (compile_numbering_aux p0.numbering p1 (1 : Int)) fun r71 =>
 bindM (compile_val r71) fun r72 =>
 bindM (compile_numbering_aux p0.numbering p1 (2 : Int)) fun r73 =>
 bindM (compile_val r73) fun r74 =>
 bindM (compile_or ([r69, r70, r72, r74] : List Expr)) fun r75 =>
 bindM (compile_builder_set (⟨p0.numbering, r66.rungs⟩ : Builder) r67 r75) fun r76 =>
 some (⟨p0.numbering, r76.rungs⟩ : Builder)

def compile_builder_state (p0 : Builder) (p1 : Int) : Option Builder :=
 getM p0.numbering.t.routes p1 fun e1 =>
 bindM (
  bindM (compile_numbering_last p0.numbering p1) fun r4 =>
  guardM (I64 (r4 - (1 : Int))) <|
  loopM (fun (k9, b10) =>
   if (0 : Int) ≤ k9 then
    bindM (compile_builder_status (⟨p0.numbering, b10⟩ : Builder) p1 (2 : Int)) fun r13 =>
    bindM (compile_numbering_aux p0.numbering p1 (1 : Int)) fun r14 =>
    bindM (compile_val r14) fun r15 =>
    bindM (compile_builder_ask (⟨p0.numbering, b10⟩ : Builder) p1 (0 : Int)) fun r16 =>
    getM e1.sections k9 fun e17 =>
    bindM (compile_builder_free (⟨p0.numbering, b10⟩ : Builder) e17) fun r18 =>
    guardM (I64 (k9 + (1 : Int))) <|
    getM e1.sections (k9 + (1 : Int)) fun e20 =>
    bindM (compile_builder_free (⟨p0.numbering, b10⟩ : Builder) e20) fun r21 =>
    bindM (compile_not r21) fun r22 =>
    bindM (compile_builder_ask (⟨p0.numbering, b10⟩ : Builder) p1 (1 : Int)) fun r23 =>
    bindM (compile_or ([r22, r23] : List Expr)) fun r24 =>
    bindM (
     if (0 : Int) < k9 then
      guardM (I64 (k9 - (1 : Int))) <|
      bindM (compile_builder_rel (⟨p0.numbering, b10⟩ : Builder) p1 (k9 - (1 : Int))) fun r29 =>
      guardM ((([r13, r15, r16, r18, r24] : List Expr) ++ ([r29] : List Expr)).length ≤ 1000000000) <|
      some (([r13, r15, r16, r18, r24] : List Expr) ++ ([r29] : List Expr))
     else
      some ([r13, r15, r16, r18, r24] : List Expr)) fun b25 =>
    guardM (I64 ((4 : Int) + k9)) <|
    bindM (compile_numbering_part p0.numbering p1 ((4 : Int) + k9)) fun r32 =>
    bindM (compile_numbering_aux p0.numbering p1 (1 : Int)) fun r33 =>
    bindM (compile_val r33) fun r34 =>
    bindM (compile_numbering_aux p0.numbering p1 (2 : Int)) fun r35 =>
    bindM (compile_val r35) fun r36 =>
    bindM (compile_or ([r34, r36] : List Expr)) fun r37 =>
    bindM (compile_builder_rel (⟨p0.numbering, b10⟩ : Builder) p1 k9) fun r38 =>
    bindM (compile_and b25) fun r39 =>
    bindM (compile_or ([r38, r39] : List Expr)) fun r40 =>
    bindM (compile_and ([r37, r40] : List Expr)) fun r41 =>
    bindM (compile_builder_set (⟨p0.numbering, b10⟩ : Builder) r32 r41) fun r42 =>
    guardM (I64 (k9 - (1 : Int))) <|
    some (.inl ((k9 - (1 : Int)), r42.rungs))
   else
    inrM (
     some b10)) ((r4 - (1 : Int)), p0.rungs)) fun b2 =>
 bindM (compile_numbering_part p0.numbering p1 (1 : Int)) fun r45 =>
 bindM (compile_builder_clears (⟨p0.numbering, b2⟩ : Builder) p1) fun r46 =>
 bindM (compile_builder_set (⟨p0.numbering, b2⟩ : Builder) r45 r46) fun r47 =>
 bindM (compile_numbering_part p0.numbering p1 (2 : Int)) fun r48 =>
 bindM (compile_numbering_aux p0.numbering p1 (1 : Int)) fun r49 =>
 bindM (compile_val r49) fun r50 =>
 bindM (compile_builder_set (⟨p0.numbering, r47.rungs⟩ : Builder) r48 r50) fun r51 =>
 bindM (compile_numbering_part p0.numbering p1 (3 : Int)) fun r52 =>
 bindM (compile_numbering_aux p0.numbering p1 (2 : Int)) fun r53 =>
 bindM (compile_val r53) fun r54 =>
 bindM (compile_builder_set (⟨p0.numbering, r51.rungs⟩ : Builder) r52 r54) fun r55 =>
 some (⟨p0.numbering, r55.rungs⟩ : Builder)

def compile_builder_shared_c1 (p0 : Int) (p1 : Builder) (p2 : Int) (p3 : Bool) (p4 : (List Int)) : Option (Bool × (List Int)) :=
 bindM (
  if p0 < (0 : Int) then
   some true
  else
   bindM (compile_numbering_last p1.numbering p2) fun r4 =>
   some (decide (p0 = r4))) fun x1 =>
 if x1 = true then
  some (true, p4)
 else
  bindM (slices_Contains_int p4 p0) fun r6 =>
  if (!(r6)) = true then
   guardM ((p4 ++ ([p0] : List Int)).length ≤ 1000000000) <|
   some (p3, (p4 ++ ([p0] : List Int)))
  else
   some (p3, p4)

def compile_builder_shared (p0 : Builder) (p1 : Int) (p2 : Int) : Option (Bool × (List Int)) :=
 getM p0.numbering.t.routes p1 fun e1 =>
 getM p0.numbering.t.routes p2 fun e2 =>
 bindM (conflict_Follows e2 e1) fun r3 =>
 bindM (conflict_Follows e1 e2) fun r4 =>
 bindM (
  loopM (fun (x12, c13, b14) =>
   if x12 < (e1.sections.length : Int) then
    getM e1.sections x12 fun e17 =>
    bindM (
     bindM (slices_Index_int e2.sections e17) fun r21 =>
     if (0 : Int) ≤ r21 then
      bindM (compile_builder_shared_c1 r21 p0 p2 c13 b14) fun (r24, r25) =>
      some (r24, r25)
     else
      some (c13, b14)) fun (c18, b19) =>
    if c18 = true then
     guardM (I64 (x12 + (1 : Int))) <|
     some (.inl ((x12 + (1 : Int)), true, b19))
    else
     bindM (slices_Contains_int e2.overSections e17) fun r27 =>
     if r27 = true then
      guardM (I64 (x12 + (1 : Int))) <|
      some (.inl ((x12 + (1 : Int)), !(r3), b19))
     else
      guardM (I64 (x12 + (1 : Int))) <|
      some (.inl ((x12 + (1 : Int)), false, b19))
   else
    inrM (
     some (c13, b14))) ((0 : Int), false, ([] : List Int))) fun (c5, b6) =>
 bindM (
  loopM (fun (x40, c41, b42) =>
   if x40 < (e1.overSections.length : Int) then
    getM e1.overSections x40 fun e45 =>
    bindM (
     bindM (slices_Index_int e2.sections e45) fun r49 =>
     if ((decide ((0 : Int) ≤ r49)) && (!(r4))) = true then
      bindM (compile_builder_shared_c1 r49 p0 p2 c41 b42) fun (r53, r54) =>
      some (r53, r54)
     else
      some (c41, b42)) fun (c46, b47) =>
    if c46 = true then
     guardM (I64 (x40 + (1 : Int))) <|
     some (.inl ((x40 + (1 : Int)), true, b47))
    else
     bindM (slices_Contains_int e2.overSections e45) fun r56 =>
     if r56 = true then
      if (!(r3)) = true then
       guardM (I64 (x40 + (1 : Int))) <|
       some (.inl ((x40 + (1 : Int)), !(r4), b47))
      else
       guardM (I64 (x40 + (1 : Int))) <|
       some (.inl ((x40 + (1 : Int)), false, b47))
     else
      guardM (I64 (x40 + (1 : Int))) <|
      some (.inl ((x40 + (1 : Int)), false, b47))
   else
    inrM (
     some (c41, b42))) ((0 : Int), c5, b6)) fun (c33, b34) =>
 bindM (
  bindM (table_Settings e1) fun r67 =>
  loopM (fun (x72, c73, b74) =>
   if x72 < (r67.length : Int) then
    getM r67 x72 fun e77 =>
    guardM (I64 ((3 : Int) - e77.pos)) <|
    bindM (
     bindM (slices_Contains_Setting e2.overPoints (⟨e77.el, ((3 : Int) - e77.pos)⟩ : Setting)) fun r81 =>
     if r81 = true then
      some true
     else
      bindM (slices_Contains_Setting e2.flank (⟨e77.el, ((3 : Int) - e77.pos)⟩ : Setting)) fun r83 =>
      some r83) fun x79 =>
    if x79 = true then
     guardM (I64 (x72 + (1 : Int))) <|
     some (.inl ((x72 + (1 : Int)), true, b74))
    else
     bindM (slices_Contains_Setting e2.points (⟨e77.el, ((3 : Int) - e77.pos)⟩ : Setting)) fun r86 =>
     if r86 = true then
      bindM (table_Index p0.numbering.t e77.el) fun r88 =>
      getM p0.numbering.t.homes r88 fun e89 =>
      bindM (slices_Index_int e2.sections e89) fun r90 =>
      bindM (compile_builder_shared_c1 r90 p0 p2 c73 b74) fun (r92, r93) =>
      guardM (I64 (x72 + (1 : Int))) <|
      some (.inl ((x72 + (1 : Int)), r92, r93))
     else
      guardM (I64 (x72 + (1 : Int))) <|
      some (.inl ((x72 + (1 : Int)), c73, b74))
   else
    inrM (
     some (c73, b74))) ((0 : Int), c33, b34)) fun (c64, b65) =>
 some (c64, b65)

def compile_builder_apart (p0 : Builder) (p1 : Int) (p2 : Int) : Option ((List Expr)) :=
 bindM (compile_builder_shared p0 p1 p2) fun (r2, r3) =>
 bindM (compile_numbering_aux p0.numbering p2 (3 : Int)) fun r4 =>
 bindM (compile_val r4) fun r5 =>
 bindM (
  if p2 < p1 then
   bindM (compile_numbering_aux p0.numbering p2 (4 : Int)) fun r11 =>
   bindM (compile_val r11) fun r12 =>
   bindM (compile_or ([r5, r12] : List Expr)) fun r13 =>
   some (r13.op, r13.var, r13.args)
  else
   some (r5.op, r5.var, r5.args)) fun (c6, c7, c8) =>
 if r2 = true then
  bindM (compile_not (⟨c6, c7, c8⟩ : Expr)) fun r15 =>
  some ([r15] : List Expr)
 else
  if (r3.length : Int) = (0 : Int) then
   some ([] : List Expr)
  else
   bindM (compile_not (⟨c6, c7, c8⟩ : Expr)) fun r17 =>
   bindM (
    loopM (fun (x23, b24) =>
     if x23 < (r3.length : Int) then
      getM r3 x23 fun e27 =>
      bindM (compile_builder_rel p0 p2 e27) fun r28 =>
      guardM ((b24 ++ ([r28] : List Expr)).length ≤ 1000000000) <|
      guardM (I64 (x23 + (1 : Int))) <|
      some (.inl ((x23 + (1 : Int)), (b24 ++ ([r28] : List Expr))))
     else
      inrM (
       some b24)) ((0 : Int), ([] : List Expr))) fun b18 =>
   bindM (compile_and b18) fun r32 =>
   guardM ((([r17] : List Expr) ++ ([r32] : List Expr)).length ≤ 1000000000) <|
   bindM (compile_or (([r17] : List Expr) ++ ([r32] : List Expr))) fun r34 =>
   some ([r34] : List Expr)

def compile_builder_called (p0 : Builder) (p1 : Int) : Option Expr :=
 getM p0.numbering.t.routes p1 fun e1 =>
 bindM (compile_builder_ask p0 p1 (2 : Int)) fun r2 =>
 bindM (compile_numbering_aux p0.numbering p1 (3 : Int)) fun r3 =>
 bindM (compile_val r3) fun r4 =>
 bindM (compile_not r4) fun r5 =>
 bindM (
  bindM (slices_Concat_int ([e1.sections, e1.overSections] : List (List Int))) fun r8 =>
  loopM (fun (x12, b13) =>
   if x12 < (r8.length : Int) then
    getM r8 x12 fun e16 =>
    bindM (compile_numbering_section p0.numbering e16 (1 : Int)) fun r17 =>
    bindM (compile_val r17) fun r18 =>
    guardM ((b13 ++ ([r18] : List Expr)).length ≤ 1000000000) <|
    guardM (I64 (x12 + (1 : Int))) <|
    some (.inl ((x12 + (1 : Int)), (b13 ++ ([r18] : List Expr))))
   else
    inrM (
     some b13)) ((0 : Int), ([r2, r5] : List Expr))) fun b6 =>
 bindM (
  loopM (fun (x27, b28) =>
   if x27 < (p0.numbering.t.routes.length : Int) then
    if x27 = p1 then
     guardM (I64 (x27 + (1 : Int))) <|
     some (.inl ((x27 + (1 : Int)), b28))
    else
     bindM (compile_builder_apart p0 p1 x27) fun r32 =>
     guardM ((b28 ++ r32).length ≤ 1000000000) <|
     guardM (I64 (x27 + (1 : Int))) <|
     some (.inl ((x27 + (1 : Int)), (b28 ++ r32)))
   else
    inrM (
     some b28)) ((0 : Int), b6)) fun b22 =>
 bindM (
  bindM (table_Settings e1) fun r39 =>
  loopM (fun (x43, b44) =>
   if x43 < (r39.length : Int) then
    getM r39 x43 fun e47 =>
    bindM (table_Index p0.numbering.t e47.el) fun r48 =>
    bindM (compile_numbering_lie p0.numbering r48) fun r49 =>
    bindM (compile_val r49) fun r50 =>
    bindM (
     if e47.pos = (1 : Int) then
      bindM (compile_not r50) fun r56 =>
      some (r56.op, r56.var, r56.args)
     else
      some (r50.op, r50.var, r50.args)) fun (c51, c52, c53) =>
    getM p0.numbering.t.homes r48 fun e57 =>
    bindM (compile_builder_free p0 e57) fun r58 =>
    bindM (compile_or ([(⟨c51, c52, c53⟩ : Expr), r58] : List Expr)) fun r59 =>
    guardM ((b44 ++ ([r59] : List Expr)).length ≤ 1000000000) <|
    guardM (I64 (x43 + (1 : Int))) <|
    some (.inl ((x43 + (1 : Int)), (b44 ++ ([r59] : List Expr))))
   else
    inrM (
     some b44)) ((0 : Int), b22)) fun b37 =>
 bindM (compile_and b37) fun r63 =>
 some r63

def compile_builder_lies (p0 : Builder) (p1 : Int) : Option Expr :=
 bindM (
  loopM (fun (x8, b9, b10) =>
   if x8 < (p0.numbering.t.routes.length : Int) then
    bindM (
     getM p0.numbering.t.routes x8 fun e16 =>
     bindM (table_Settings e16) fun r17 =>
     loopM (fun (x22, b23, b24) =>
      if x22 < (r17.length : Int) then
       getM r17 x22 fun e27 =>
       getM p0.numbering.t.points p1 fun e28 =>
       if e27.el = e28 then
        if e27.pos = (2 : Int) then
         bindM (compile_numbering_aux p0.numbering x8 (4 : Int)) fun r32 =>
         bindM (compile_val r32) fun r33 =>
         guardM ((b24 ++ ([r33] : List Expr)).length ≤ 1000000000) <|
         guardM (I64 (x22 + (1 : Int))) <|
         some (.inl ((x22 + (1 : Int)), b23, (b24 ++ ([r33] : List Expr))))
        else
         bindM (compile_numbering_aux p0.numbering x8 (4 : Int)) fun r36 =>
         bindM (compile_val r36) fun r37 =>
         guardM ((b23 ++ ([r37] : List Expr)).length ≤ 1000000000) <|
         guardM (I64 (x22 + (1 : Int))) <|
         some (.inl ((x22 + (1 : Int)), (b23 ++ ([r37] : List Expr)), b24))
       else
        guardM (I64 (x22 + (1 : Int))) <|
        some (.inl ((x22 + (1 : Int)), b23, b24))
      else
       inrM (
        some (b23, b24))) ((0 : Int), b9, b10)) fun (b13, b14) =>
    guardM (I64 (x8 + (1 : Int))) <|
    some (.inl ((x8 + (1 : Int)), b13, b14))
   else
    inrM (
     some (b9, b10))) ((0 : Int), ([] : List Expr), ([] : List Expr))) fun (b1, b2) =>
 bindM (compile_or b2) fun r43 =>
 bindM (compile_numbering_lie p0.numbering p1) fun r44 =>
 bindM (compile_val r44) fun r45 =>
 bindM (compile_or b1) fun r46 =>
 bindM (compile_not r46) fun r47 =>
 bindM (compile_and ([r45, r47] : List Expr)) fun r48 =>
 bindM (compile_or ([r43, r48] : List Expr)) fun r49 =>
 some r49

def compile_Compile (p0 : Table) : Option (Program × Int) :=
 bindM (compile_number p0) fun (r2, r3) =>
 if r3 = (0 : Int) then
  bindM (
   loopM (fun (x10, b11) =>
    if x10 < (p0.routes.length : Int) then
     bindM (compile_builder_timers (⟨r2, b11⟩ : Builder) x10) fun r14 =>
     guardM (I64 (x10 + (1 : Int))) <|
     some (.inl ((x10 + (1 : Int)), r14.rungs))
    else
     inrM (
      some b11)) ((0 : Int), ([] : List Rung))) fun b5 =>
  bindM (
   loopM (fun (x22, b23) =>
    if x22 < (p0.routes.length : Int) then
     bindM (compile_builder_progress (⟨r2, b23⟩ : Builder) x22) fun r26 =>
     guardM (I64 (x22 + (1 : Int))) <|
     some (.inl ((x22 + (1 : Int)), r26.rungs))
    else
     inrM (
      some b23)) ((0 : Int), b5)) fun b17 =>
  bindM (
   loopM (fun (x34, b35) =>
    if x34 < (p0.routes.length : Int) then
     bindM (compile_builder_state (⟨r2, b35⟩ : Builder) x34) fun r38 =>
     guardM (I64 (x34 + (1 : Int))) <|
     some (.inl ((x34 + (1 : Int)), r38.rungs))
    else
     inrM (
      some b35)) ((0 : Int), b17)) fun b29 =>
  bindM (
   loopM (fun (x46, b47) =>
    if x46 < (p0.routes.length : Int) then
     bindM (compile_numbering_aux r2 x46 (4 : Int)) fun r50 =>
     bindM (compile_builder_called (⟨r2, b47⟩ : Builder) x46) fun r51 =>
     bindM (compile_builder_set (⟨r2, b47⟩ : Builder) r50 r51) fun r52 =>
     guardM (I64 (x46 + (1 : Int))) <|
     some (.inl ((x46 + (1 : Int)), r52.rungs))
    else
     inrM (
      some b47)) ((0 : Int), b29)) fun b41 =>
  bindM (
   loopM (fun (x60, b61) =>
    if x60 < (p0.points.length : Int) then
     bindM (compile_numbering_lie r2 x60) fun r64 =>
     bindM (compile_builder_lies (⟨r2, b61⟩ : Builder) x60) fun r65 =>
     bindM (compile_builder_set (⟨r2, b61⟩ : Builder) r64 r65) fun r66 =>
     guardM (I64 (x60 + (1 : Int))) <|
     some (.inl ((x60 + (1 : Int)), r66.rungs))
    else
     inrM (
      some b61)) ((0 : Int), b41)) fun b55 =>
  bindM (
   loopM (fun (x74, b75) =>
    if x74 < (p0.routes.length : Int) then
     bindM (compile_numbering_part r2 x74 (0 : Int)) fun r78 =>
     bindM (compile_numbering_aux r2 x74 (0 : Int)) fun r79 =>
     bindM (compile_val r79) fun r80 =>
     bindM (compile_numbering_aux r2 x74 (4 : Int)) fun r81 =>
     bindM (compile_val r81) fun r82 =>
     bindM (compile_or ([r80, r82] : List Expr)) fun r83 =>
     bindM (compile_builder_set (⟨r2, b75⟩ : Builder) r78 r83) fun r84 =>
     guardM (I64 (x74 + (1 : Int))) <|
     some (.inl ((x74 + (1 : Int)), r84.rungs))
    else
     inrM (
      some b75)) ((0 : Int), b55)) fun b69 =>
  bindM (compile_numbering_names r2) fun r87 =>
  some ((⟨r87, r2.inputs, b69⟩ : Program), (0 : Int))
 else
  some ((⟨([] : List ByteArray), (0 : Int), ([] : List Rung)⟩ : Program), r3)

def expr_valid_f : Nat → Expr → Int → Int → Int → Option (Bool × Int)
 | 0, _, _, _, _ => none
 | fu + 1, p0, p1, p2, p3 =>
  if ((decide ((12 : Int) < p2)) || (decide (p3 = (0 : Int)))) = true then
   some (false, p3)
  else
   guardM (I64 (p3 - (1 : Int))) <|
   bindS (
    bindM (
     if p0.op = (1 : Int) then
      some (decide (p0.op = (1 : Int)))
     else
      some (decide (p0.op = (2 : Int)))) fun x5 =>
    if x5 = true then
     inrM (
      some (((decide (p0.var = (0 : Int))) && (decide ((p0.args.length : Int) = (0 : Int)))), (p3 - (1 : Int))))
    else
     if p0.op = (3 : Int) then
      inrM (
       some (((decide ((0 : Int) ≤ p0.var)) && ((decide (p0.var < p1)) && (decide ((p0.args.length : Int) = (0 : Int))))), (p3 - (1 : Int))))
     else
      if p0.op = (4 : Int) then
       if (p0.args.length : Int) = (1 : Int) then
        some (.inl ())
       else
        inrM (
         some (false, (p3 - (1 : Int))))
      else
       if p0.op = (5 : Int) then
        some (.inl ())
       else
        if p0.op = (6 : Int) then
         some (.inl ())
        else
         inrM (
          some (false, (p3 - (1 : Int))))) fun _ =>
   if p0.var = (0 : Int) then
    bindS (
     loopM (fun (x27, c28) =>
      if x27 < (p0.args.length : Int) then
       getM p0.args x27 fun e31 =>
       guardM (I64 (p2 + (1 : Int))) <|
       bindM ((expr_valid_f fu) e31 p1 (p2 + (1 : Int)) c28) fun (r34, r35) =>
       if (!(r34)) = true then
        inrM (
         inrM (
          some (false, r35)))
       else
        guardM (I64 (x27 + (1 : Int))) <|
        some (.inl ((x27 + (1 : Int)), r35))
      else
       inrM (
        some (.inl c28))) ((0 : Int), (p3 - (1 : Int)))) fun c22 =>
    some (true, c22)
   else
    some (false, (p3 - (1 : Int)))
def expr_valid (p0 : Expr) (p1 : Int) (p2 : Int) (p3 : Int) : Option (Bool × Int) := expr_valid_f roundsM p0 p1 p2 p3

def expr_Valid (p0 : Expr) (p1 : Int) : Option Bool :=
 bindM (expr_valid p0 p1 (1 : Int) (20000 : Int)) fun (r2, r3) =>
 some r2

def plc_rungRight (p0 : Program) (p1 : Rung) : Option Bool :=
 bindS (
  if p1.kind = (1 : Int) then
   if p1.preset = (0 : Int) then
    some (.inl ())
   else
    inrM (
     some false)
  else
   if p1.kind = (2 : Int) then
    if ((decide (p1.preset < (1 : Int))) || (decide ((1073741824 : Int) < p1.preset))) = true then
     inrM (
      some false)
    else
     some (.inl ())
   else
    inrM (
     some false)) fun _ =>
 bindM (
  if p0.inputs ≤ p1.var then
   if p1.var < (p0.names.length : Int) then
    bindM (expr_Valid p1.expr (p0.names.length : Int)) fun r14 =>
    some r14
   else
    some false
  else
   some false) fun x10 =>
 some x10

def plc_Check (p0 : Program) : Option Int :=
 if (2000 : Int) < (p0.names.length : Int) then
  some (2 : Int)
 else
  if ((decide (p0.inputs < (0 : Int))) || (decide ((p0.names.length : Int) < p0.inputs))) = true then
   some (1 : Int)
  else
   bindS (
    loopM (fun x6 =>
     if x6 < (p0.rungs.length : Int) then
      getM p0.rungs x6 fun e9 =>
      bindM (plc_rungRight p0 e9) fun r10 =>
      if (!(r10)) = true then
       inrM (
        inrM (
         some (1 : Int)))
      else
       guardM (I64 (x6 + (1 : Int))) <|
       some (.inl (x6 + (1 : Int)))
     else
      inrM (
       some (.inl ()))) (0 : Int)) fun _ =>
   guardM (0 ≤ (p0.names.length : Int) ∧ (p0.names.length : Int) ≤ 1000000000) <|
   bindS (
    loopM (fun (x22, b23) =>
     if x22 < (p0.rungs.length : Int) then
      getM p0.rungs x22 fun e26 =>
      getM b23 e26.var fun e27 =>
      if e27 = true then
       inrM (
        inrM (
         some (8 : Int)))
      else
       getM b23 e26.var fun e31 =>
       guardM (I64 (x22 + (1 : Int))) <|
       some (.inl ((x22 + (1 : Int)), (b23.set e26.var.toNat true)))
     else
      inrM (
       some (.inl b23))) ((0 : Int), (List.replicate (p0.names.length : Int).toNat false))) fun b17 =>
   some (0 : Int)

def plc_Start (p0 : Program) : Option Machine :=
 bindM (plc_Check p0) fun r1 =>
 if r1 = (0 : Int) then
  guardM (0 ≤ (p0.names.length : Int) ∧ (p0.names.length : Int) ≤ 1000000000) <|
  guardM (0 ≤ (p0.rungs.length : Int) ∧ (p0.rungs.length : Int) ≤ 1000000000) <|
  some (⟨(List.replicate (p0.names.length : Int).toNat false), (List.replicate (p0.rungs.length : Int).toNat (0 : Int)), false⟩ : Machine)
 else
  some (⟨([] : List Bool), ([] : List Int), true⟩ : Machine)

def compile_known_bool (p0 : (List Bool)) (p1 : Int) (p2 : Bool) : Option Bool :=
 bindM (
  if p1 < (p0.length : Int) then
   getM p0 p1 fun e4 =>
   some (e4 == p2)
  else
   some false) fun x1 =>
 some x1

def compile_known_int (p0 : (List Int)) (p1 : Int) (p2 : Int) : Option Bool :=
 bindM (
  if p1 < (p0.length : Int) then
   getM p0 p1 fun e4 =>
   some (decide (e4 = p2))
  else
   some false) fun x1 =>
 some x1

def compile_Inputs (p0 : Table) (p1 : Inputs) : Option ((List Bool)) :=
 bindM (table_Check p0) fun r1 =>
 if r1 = (0 : Int) then
  bindM (
   loopM (fun (x8, b9) =>
    if x8 < p0.sections then
     bindM (compile_known_bool p1.occupied x8 false) fun r12 =>
     bindM (compile_known_bool p1.closed x8 false) fun r13 =>
     guardM ((b9 ++ ([r12, r13] : List Bool)).length ≤ 1000000000) <|
     guardM (I64 (x8 + (1 : Int))) <|
     some (.inl ((x8 + (1 : Int)), (b9 ++ ([r12, r13] : List Bool))))
    else
     inrM (
      some b9)) ((0 : Int), ([] : List Bool))) fun b3 =>
  bindM (
   loopM (fun (x22, b23) =>
    if x22 < (p0.points.length : Int) then
     bindM (compile_known_int p1.detected x22 (1 : Int)) fun r26 =>
     bindM (compile_known_int p1.detected x22 (2 : Int)) fun r27 =>
     guardM ((b23 ++ ([r26, r27] : List Bool)).length ≤ 1000000000) <|
     guardM (I64 (x22 + (1 : Int))) <|
     some (.inl ((x22 + (1 : Int)), (b23 ++ ([r26, r27] : List Bool))))
    else
     inrM (
      some b23)) ((0 : Int), b3)) fun b17 =>
  bindM (
   loopM (fun (x36, b37) =>
    if x36 < (p0.routes.length : Int) then
     bindM (compile_known_bool p1.claimed x36 false) fun r40 =>
     bindM (compile_known_bool p1.passed x36 true) fun r41 =>
     bindM (slices_Contains_int p1.calls x36) fun r42 =>
     bindM (slices_Contains_int p1.cancels x36) fun r43 =>
     guardM ((b37 ++ ([r40, r41, r42, r43] : List Bool)).length ≤ 1000000000) <|
     guardM (I64 (x36 + (1 : Int))) <|
     some (.inl ((x36 + (1 : Int)), (b37 ++ ([r40, r41, r42, r43] : List Bool))))
    else
     inrM (
      some b37)) ((0 : Int), b17)) fun b31 =>
  some b31
 else
  some ([] : List Bool)

def plc_Fits (p0 : Program) (p1 : Machine) : Option Bool :=
 bindM (
  bindM (plc_Check p0) fun r3 =>
  if r3 = (0 : Int) then
   if (p1.vars.length : Int) = (p0.names.length : Int) then
    some (!(decide ((p1.counts.length : Int) = (p0.rungs.length : Int))))
   else
    some true
  else
   some true) fun x1 =>
 if x1 = true then
  some false
 else
  bindS (
   loopM (fun x9 =>
    if x9 < (p0.rungs.length : Int) then
     getM p0.rungs x9 fun e12 =>
     bindM (
      getM p1.counts x9 fun e15 =>
      if e15 < (0 : Int) then
       some true
      else
       getM p1.counts x9 fun e17 =>
       some (decide (e12.preset < e17))) fun x13 =>
     if x13 = true then
      inrM (
       inrM (
        some false))
     else
      guardM (I64 (x9 + (1 : Int))) <|
      some (.inl (x9 + (1 : Int)))
    else
     inrM (
      some (.inl ()))) (0 : Int)) fun _ =>
  some true

def plc_Halt (p0 : Program) : Option Machine :=
 bindM (plc_Start p0) fun r1 =>
 some (⟨r1.vars, r1.counts, true⟩ : Machine)

def slices_Clone_bool (p0 : (List Bool)) : Option ((List Bool)) :=
 nilM p0 (
  some ([] : List Bool)) (
  guardM ((([] : List Bool) ++ p0).length ≤ 1000000000) <|
  some (([] : List Bool) ++ p0))

def slices_Clone_int (p0 : (List Int)) : Option ((List Int)) :=
 nilM p0 (
  some ([] : List Int)) (
  guardM ((([] : List Int) ++ p0).length ≤ 1000000000) <|
  some (([] : List Int) ++ p0))

def plc_effectOf_c1 (p0 : Int) (p1 : Bool) : Option (Int × Bool) :=
 some (p0, p1)

def plc_effectOf_c2 (p0 : Int) (p1 : Bool) (p2 : Rung) : Option (Int × Bool) :=
 if (!(p1)) = true then
  some ((0 : Int), false)
 else
  if p0 < p2.preset then
   guardM (I64 (p0 + (1 : Int))) <|
   some ((p0 + (1 : Int)), decide ((p0 + (1 : Int)) = p2.preset))
  else
   some (p0, decide (p0 = p2.preset))

def plc_effectOf (p0 : Rung) : Option Effect :=
 if p0.kind = (2 : Int) then
  some (⟨(Fn110.c124 p0)⟩ : Effect)
 else
  some (⟨Fn110.c123⟩ : Effect)

def expr_nodeOf (p0 : Expr) : Option If_node :=
 if p0.op = (3 : Int) then
  some (⟨180, p0⟩ : If_node)
 else
  if p0.op = (4 : Int) then
   if (0 : Int) < (p0.args.length : Int) then
    some (⟨181, p0⟩ : If_node)
   else
    some (⟨200, p0⟩ : If_node)
  else
   if p0.op = (5 : Int) then
    some (⟨182, p0⟩ : If_node)
   else
    if p0.op = (6 : Int) then
     some (⟨183, p0⟩ : If_node)
    else
     some (⟨200, p0⟩ : If_node)

def expr_eval_f : Nat → Expr → (List Bool) → Option Bool
 | 0, _, _ => none
 | fu + 1, p0, p1 =>
  bindS (
   bindM (expr_nodeOf p0) fun r2 =>
   if r2.tid = 180 then
    bindM (
     if (0 : Int) ≤ r2.e.var then
      if r2.e.var < (p1.length : Int) then
       getM p1 r2.e.var fun e8 =>
       some e8
      else
       some false
     else
      some false) fun x4 =>
    inrM (
     some x4)
   else
    if r2.tid = 181 then
     getM r2.e.args (0 : Int) fun e11 =>
     bindM ((expr_eval_f fu) e11 p1) fun r12 =>
     inrM (
      some (!(r12)))
    else
     if r2.tid = 182 then
      bindS (
       loopM (fun x17 =>
        if x17 < (r2.e.args.length : Int) then
         getM r2.e.args x17 fun e20 =>
         bindM ((expr_eval_f fu) e20 p1) fun r21 =>
         if (!(r21)) = true then
          inrM (
           inrM (
            inrM (
             some false)))
         else
          guardM (I64 (x17 + (1 : Int))) <|
          some (.inl (x17 + (1 : Int)))
        else
         inrM (
          some (.inl ()))) (0 : Int)) fun _ =>
      inrM (
       some true)
     else
      if r2.tid = 183 then
       bindS (
        loopM (fun x32 =>
         if x32 < (r2.e.args.length : Int) then
          getM r2.e.args x32 fun e35 =>
          bindM ((expr_eval_f fu) e35 p1) fun r36 =>
          if r36 = true then
           inrM (
            inrM (
             inrM (
              some true)))
          else
           guardM (I64 (x32 + (1 : Int))) <|
           some (.inl (x32 + (1 : Int)))
         else
          inrM (
           some (.inl ()))) (0 : Int)) fun _ =>
       inrM (
        some false)
      else
       some (.inl ())) fun _ =>
  some (decide (p0.op = (2 : Int)))
def expr_eval (p0 : Expr) (p1 : (List Bool)) : Option Bool := expr_eval_f roundsM p0 p1

def expr_Eval (p0 : Expr) (p1 : (List Bool)) : Option Bool :=
 bindM (expr_eval p0 p1) fun r1 =>
 some r1

def plc_Scan (p0 : Program) (p1 : Machine) (p2 : (List Bool)) : Option Machine :=
 bindM (
  if (p1.halted) = true then
   some true
  else
   bindM (plc_Fits p0 p1) fun r4 =>
   some (!(r4))) fun x1 =>
 if x1 = true then
  bindM (plc_Halt p0) fun r6 =>
  some r6
 else
  bindM (slices_Clone_bool p1.vars) fun r7 =>
  bindM (slices_Clone_int p1.counts) fun r8 =>
  bindM (
   loopM (fun (x14, b15) =>
    if x14 < p0.inputs then
     if x14 < (p2.length : Int) then
      getM p2 x14 fun e21 =>
      getM b15 x14 fun e22 =>
      guardM (I64 (x14 + (1 : Int))) <|
      some (.inl ((x14 + (1 : Int)), (b15.set x14.toNat e21)))
     else
      getM b15 x14 fun e19 =>
      guardM (I64 (x14 + (1 : Int))) <|
      some (.inl ((x14 + (1 : Int)), (b15.set x14.toNat false)))
    else
     inrM (
      some b15)) ((0 : Int), r7)) fun b9 =>
  bindM (
   loopM (fun (x32, b33, b34) =>
    if x32 < (p0.rungs.length : Int) then
     getM p0.rungs x32 fun e37 =>
     bindM (plc_effectOf e37) fun r38 =>
     getM b34 x32 fun e39 =>
     bindM (expr_Eval e37.expr b33) fun r40 =>
     (match r38.act with
     | .c123 =>
      bindM (plc_effectOf_c1 e39 r40) fun (r43, r44) =>
      getM b34 x32 fun e45 =>
      getM b33 e37.var fun e46 =>
      guardM (I64 (x32 + (1 : Int))) <|
      some (.inl ((x32 + (1 : Int)), (b33.set e37.var.toNat r44), (b34.set x32.toNat r43)))
     | .c124 u48 =>
      bindM (plc_effectOf_c2 e39 r40 u48) fun (r50, r51) =>
      getM b34 x32 fun e52 =>
      getM b33 e37.var fun e53 =>
      guardM (I64 (x32 + (1 : Int))) <|
      some (.inl ((x32 + (1 : Int)), (b33.set e37.var.toNat r51), (b34.set x32.toNat r50))))
    else
     inrM (
      some (b33, b34))) ((0 : Int), b9, r8)) fun (b25, b26) =>
  some (⟨b25, b26, false⟩ : Machine)

def compile_numbering_fits (p0 : Numbering) (p1 : Machine) : Option Bool :=
 bindM (
  if (p1.vars.length : Int) = p0.count then
   guardM (I64 (p0.count - p0.inputs)) <|
   some (decide ((p1.counts.length : Int) = (p0.count - p0.inputs)))
  else
   some false) fun x1 =>
 some x1

def compile_numbering_routeState (p0 : Numbering) (p1 : Machine) (p2 : Int) : Option RouteState :=
 bindM (
  loopM (fun x4 =>
   if x4 < (4 : Int) then
    getM ([(1 : Int), (2 : Int), (3 : Int), (4 : Int)] : List Int) x4 fun e7 =>
    guardM (I64 ((0 : Int) + x4)) <|
    bindM (compile_numbering_part p0 p2 ((0 : Int) + x4)) fun r9 =>
    getM p1.vars r9 fun e10 =>
    if e10 = true then
     inrM (
      some e7)
    else
     guardM (I64 (x4 + (1 : Int))) <|
     some (.inl (x4 + (1 : Int)))
   else
    inrM (
     some (0 : Int))) (0 : Int)) fun c1 =>
 if ((!(decide (c1 = (3 : Int)))) && (!(decide (c1 = (4 : Int))))) = true then
  some (⟨c1, (0 : Int), (0 : Int)⟩ : RouteState)
 else
  bindM (
   loopM (fun c20 =>
    bindM (
     bindM (compile_numbering_last p0 p2) fun r24 =>
     if c20 < r24 then
      guardM (I64 ((4 : Int) + c20)) <|
      bindM (compile_numbering_part p0 p2 ((4 : Int) + c20)) fun r27 =>
      getM p1.vars r27 fun e28 =>
      some e28
     else
      some false) fun x22 =>
    if x22 = true then
     guardM (I64 (c20 + (1 : Int))) <|
     some (.inl (c20 + (1 : Int)))
    else
     inrM (
      some c20)) (0 : Int)) fun c17 =>
  if c1 = (4 : Int) then
   guardM (I64 ((2 : Int) * p2)) <|
   getM p1.counts ((2 : Int) * p2) fun e34 =>
   some (⟨c1, c17, e34⟩ : RouteState)
  else
   guardM (I64 ((2 : Int) * p2)) <|
   guardM (I64 (((2 : Int) * p2) + (1 : Int))) <|
   getM p1.counts (((2 : Int) * p2) + (1 : Int)) fun e37 =>
   some (⟨c1, c17, e37⟩ : RouteState)

def compile_State (p0 : Table) (p1 : Machine) : Option Inter :=
 bindM (compile_number p0) fun (r2, r3) =>
 bindM (
  if r3 = (0 : Int) then
   bindM (compile_numbering_fits r2 p1) fun r7 =>
   some (!(r7))
  else
   some true) fun x4 =>
 if x4 = true then
  some (⟨([] : List RouteState), ([] : List Int)⟩ : Inter)
 else
  bindM (
   loopM (fun (x14, b15) =>
    if x14 < (p0.routes.length : Int) then
     bindM (compile_numbering_routeState r2 p1 x14) fun r18 =>
     guardM ((b15 ++ ([r18] : List RouteState)).length ≤ 1000000000) <|
     guardM (I64 (x14 + (1 : Int))) <|
     some (.inl ((x14 + (1 : Int)), (b15 ++ ([r18] : List RouteState))))
    else
     inrM (
      some b15)) ((0 : Int), ([] : List RouteState))) fun b9 =>
  bindM (
   loopM (fun (x27, b28) =>
    if x27 < (p0.points.length : Int) then
     bindM (
      bindM (compile_numbering_lie r2 x27) fun r33 =>
      getM p1.vars r33 fun e34 =>
      if e34 = true then
       some (2 : Int)
      else
       some (1 : Int)) fun pos31 =>
     guardM ((b28 ++ ([pos31] : List Int)).length ≤ 1000000000) <|
     guardM (I64 (x27 + (1 : Int))) <|
     some (.inl ((x27 + (1 : Int)), (b28 ++ ([pos31] : List Int))))
    else
     inrM (
      some b28)) ((0 : Int), ([] : List Int))) fun b22 =>
  some (⟨b9, b22⟩ : Inter)

def compile_Clear (p0 : Table) (p1 : Machine) : Option ((List Bool)) :=
 bindM (table_Check p0) fun r1 =>
 if r1 = (0 : Int) then
  guardM (0 ≤ p0.signals ∧ p0.signals ≤ 1000000000) <|
  bindM (compile_number p0) fun (r5, r6) =>
  bindM (
   if r6 = (0 : Int) then
    if (p1.halted) = true then
     some true
    else
     bindM (compile_numbering_fits r5 p1) fun r11 =>
     some (!(r11))
   else
    some true) fun x7 =>
  if x7 = true then
   some (List.replicate p0.signals.toNat false)
  else
   bindM (
    loopM (fun (x18, b19) =>
     if x18 < (p0.routes.length : Int) then
      getM p0.routes x18 fun e22 =>
      bindM (compile_numbering_part r5 x18 (1 : Int)) fun r23 =>
      getM p1.vars r23 fun e24 =>
      if e24 = true then
       getM b19 e22.entry fun e26 =>
       guardM (I64 (x18 + (1 : Int))) <|
       some (.inl ((x18 + (1 : Int)), (b19.set e22.entry.toNat true)))
      else
       guardM (I64 (x18 + (1 : Int))) <|
       some (.inl ((x18 + (1 : Int)), b19))
     else
      inrM (
       some b19)) ((0 : Int), (List.replicate p0.signals.toNat false))) fun b13 =>
   some b13
 else
  some ([] : List Bool)

def law24_alive  : Option Bool :=
 bindM (law24_line) fun r1 =>
 bindM (compile_Compile r1) fun (r3, r4) =>
 bindM (
  if r4 = (0 : Int) then
   if (r3.names.length : Int) = (36 : Int) then
    if r3.inputs = (14 : Int) then
     if (r3.rungs.length : Int) = (22 : Int) then
      getM r3.names (6 : Int) fun e11 =>
      if e11 = (⟨#[117, 110, 99, 108, 97, 105, 109, 101, 100, 46, 48]⟩ : ByteArray) then
       getM r3.names (14 : Int) fun e13 =>
       if e13 = (⟨#[115, 101, 116, 46, 48]⟩ : ByteArray) then
        getM r3.names (18 : Int) fun e15 =>
        if e15 = (⟨#[119, 97, 105, 116, 46, 48]⟩ : ByteArray) then
         getM r3.names (26 : Int) fun e17 =>
         some (!(decide (e17 = (⟨#[107, 101, 101, 112, 46, 48]⟩ : ByteArray))))
        else
         some true
       else
        some true
      else
       some true
     else
      some true
    else
     some true
   else
    some true
  else
   some true) fun x5 =>
 if x5 = true then
  some false
 else
  guardM (0 ≤ (3 : Int) ∧ (3 : Int) ≤ 1000000000) <|
  guardM (0 ≤ (3 : Int) ∧ (3 : Int) ≤ 1000000000) <|
  guardM (0 ≤ (2 : Int) ∧ (2 : Int) ≤ 1000000000) <|
  bindM (plc_Start r3) fun r22 =>
  bindM (compile_Inputs r1 (⟨(List.replicate (3 : Int).toNat false), ([] : List Int), (List.replicate (3 : Int).toNat false), (List.replicate (2 : Int).toNat false), ([] : List Bool), ([(0 : Int)] : List Int), ([] : List Int)⟩ : Inputs)) fun r23 =>
  bindM (plc_Scan r3 r22 r23) fun r24 =>
  bindM (compile_Inputs r1 (⟨(List.replicate (3 : Int).toNat false), ([] : List Int), (List.replicate (3 : Int).toNat false), (List.replicate (2 : Int).toNat false), ([] : List Bool), ([] : List Int), ([] : List Int)⟩ : Inputs)) fun r25 =>
  bindM (plc_Scan r3 r24 r25) fun r26 =>
  bindM (compile_State r1 r24) fun r27 =>
  bindM (compile_State r1 r26) fun r28 =>
  if ((!(decide ((r27.routes.length : Int) = (2 : Int)))) || (!(decide ((r28.routes.length : Int) = (2 : Int))))) = true then
   some false
  else
   bindM (compile_Clear r1 r26) fun r31 =>
   bindM (
    getM r27.routes (0 : Int) fun e34 =>
    guardM (RouteState.ok e34 ∧ RouteState.ok (⟨(1 : Int), (0 : Int), (0 : Int)⟩ : RouteState)) <|
    if e34 = (⟨(1 : Int), (0 : Int), (0 : Int)⟩ : RouteState) then
     getM r28.routes (0 : Int) fun e38 =>
     guardM (RouteState.ok e38 ∧ RouteState.ok (⟨(2 : Int), (0 : Int), (0 : Int)⟩ : RouteState)) <|
     if e38 = (⟨(2 : Int), (0 : Int), (0 : Int)⟩ : RouteState) then
      if (r31.length : Int) = (2 : Int) then
       getM r31 (0 : Int) fun e43 =>
       if e43 = true then
        getM r31 (1 : Int) fun e45 =>
        some (!(e45))
       else
        some false
      else
       some false
     else
      some false
    else
     some false) fun x32 =>
   some x32

def law24_bools (p0 : (List Bool)) (p1 : (List Bool)) : Option Bool :=
 if (p0.length : Int) = (p1.length : Int) then
  bindS (
   loopM (fun x4 =>
    if x4 < (p0.length : Int) then
     getM p0 x4 fun e7 =>
     getM p1 x4 fun e8 =>
     if (!((e7 == e8))) = true then
      inrM (
       inrM (
        some false))
     else
      guardM (I64 (x4 + (1 : Int))) <|
      some (.inl (x4 + (1 : Int)))
    else
     inrM (
      some (.inl ()))) (0 : Int)) fun _ =>
  some true
 else
  some false

def law24_CompileHalts (p0 : Table) (p1 : (List Inputs)) (p2 : Inputs) : Option Bool :=
 bindM (
  bindM (law24_small p0) fun r3 =>
  if (!(r3)) = true then
   some true
  else
   some (decide ((12 : Int) < (p1.length : Int)))) fun x1 =>
 if x1 = true then
  bindM (law24_alive) fun r6 =>
  some r6
 else
  bindM (compile_Compile p0) fun (r8, r9) =>
  if r9 = (0 : Int) then
   bindM (plc_Start r8) fun r12 =>
   bindM (
    loopM (fun (x22, c23, c24, c25) =>
     if x22 < (p1.length : Int) then
      getM p1 x22 fun e28 =>
      bindM (compile_Inputs p0 e28) fun r29 =>
      bindM (plc_Scan r8 (⟨c23, c24, c25⟩ : Machine) r29) fun r30 =>
      guardM (I64 (x22 + (1 : Int))) <|
      some (.inl ((x22 + (1 : Int)), r30.vars, r30.counts, r30.halted))
     else
      inrM (
       some (c23, c24, c25))) ((0 : Int), r12.vars, r12.counts, r12.halted)) fun (c13, c14, c15) =>
   guardM (0 ≤ p0.signals ∧ p0.signals ≤ 1000000000) <|
   bindM (plc_Halt r8) fun r34 =>
   bindM (compile_Inputs p0 p2) fun r35 =>
   bindM (plc_Scan r8 r34 r35) fun r36 =>
   bindM (
    bindM (plc_Halt r8) fun r39 =>
    bindM (compile_Clear p0 r39) fun r40 =>
    bindM (law24_bools r40 (List.replicate p0.signals.toNat false)) fun r41 =>
    if (!(r41)) = true then
     some true
    else
     bindM (compile_Clear p0 r36) fun r43 =>
     bindM (law24_bools r43 (List.replicate p0.signals.toNat false)) fun r44 =>
     some (!(r44))) fun x37 =>
   if x37 = true then
    some false
   else
    bindM (compile_State p0 (⟨c13, c14, c15⟩ : Machine)) fun r46 =>
    bindM (plc_Scan r8 (⟨c13, c14, c15⟩ : Machine) []) fun r47 =>
    bindM (compile_State p0 r47) fun r48 =>
    if ((!(decide ((r46.routes.length : Int) = (p0.routes.length : Int)))) || (!(decide ((r48.routes.length : Int) = (p0.routes.length : Int))))) = true then
     some false
    else
     bindS (
      loopM (fun x53 =>
       if x53 < (r46.routes.length : Int) then
        getM r46.routes x53 fun e56 =>
        bindM (
         if e56.state = (0 : Int) then
          getM r48.routes x53 fun e61 =>
          if e61.state = (0 : Int) then
           getM r48.routes x53 fun e63 =>
           some (decide (e63.state = (2 : Int)))
          else
           some true
         else
          getM r48.routes x53 fun e60 =>
          some (decide (e60.state = (2 : Int)))) fun x57 =>
        if x57 = true then
         inrM (
          inrM (
           some false))
        else
         guardM (I64 (x53 + (1 : Int))) <|
         some (.inl (x53 + (1 : Int)))
       else
        inrM (
         some (.inl ()))) (0 : Int)) fun _ =>
     bindM (
      bindM (plc_Scan r8 (⟨c13, c14, c15⟩ : Machine) []) fun r71 =>
      bindM (compile_Clear p0 r71) fun r72 =>
      bindM (law24_bools r72 (List.replicate p0.signals.toNat false)) fun r73 =>
      if r73 = true then
       bindM (law24_alive) fun r75 =>
       some r75
      else
       some false) fun x69 =>
     some x69
  else
   bindM (law24_alive) fun r11 =>
   some r11

end Go.Proofs.YtcagmechagiclaaGreatDoor

set_option linter.unusedVariables false
set_option linter.unusedSimpArgs false
namespace Go.Proofs.YtcagmechagiclaaGreatDoor
open Go Go.TL

@[simp] theorem guardM_true {α : Type} {p : Prop} [Decidable p] {k : Option α} (h : p) : guardM p k = k := if_pos h
@[simp] theorem bindM_some {α β : Type} (a : α) (k : α → Option β) : bindM (some a) k = k a := rfl
@[simp] theorem bindS_inl {α β : Type} (a : α) (k : α → Option β) : bindS (some (.inl a)) k = k a := rfl
@[simp] theorem bindS_inr {α β : Type} (b : β) (k : α → Option β) : bindS (some (.inr b)) k = some b := rfl
@[simp] theorem inrM_some {α β : Type} (b : β) : (inrM (some b) : Option (α ⊕ β)) = some (.inr b) := rfl
theorem getM_at {α β : Type} {l : List α} {i : Nat} {e : α} {k : α → Option β} (h : l[i]? = some e) : getM l (i : Int) k = k e := by simp [getM, h]
theorem getM_int {α β : Type} {l : List α} {i : Int} {e : α} {k : α → Option β} (h0 : 0 ≤ i) (h : l[i.toNat]? = some e) : getM l i k = k e := by simp [getM, h0, h]
@[simp] theorem ite_bindM {α β : Type} {p : Prop} [Decidable p] (a b : α) (k : α → Option β) : bindM (if p then some a else some b) k = k (if p then a else b) := by split <;> rfl
theorem bindM_ite {α β : Type} {p : Prop} [Decidable p] (a b : Option α) (k : α → Option β) : bindM (if p then a else b) k = if p then bindM a k else bindM b k := by split <;> rfl
theorem ite_some {α : Type} {p : Prop} [Decidable p] (a b : α) : (if p then some a else some b) = some (if p then a else b) := by split <;> rfl
theorem bool_ite {p : Prop} [Decidable p] {a b : Bool} : ((if p then a else b) = true) = ((p ∧ a = true) ∨ (¬ p ∧ b = true)) := by split <;> simp_all
variable {σ ρ : Type}
theorem iterM_to {f : σ → Option (σ ⊕ ρ)} (B : Nat → σ) {o : ρ} : ∀ (n k : Nat), (∀ i, k ≤ i → i < k + n → f (B i) = some (.inl (B (i + 1)))) → f (B (k + n)) = some (.inr o) → iterM f (n + 1) (B k) = some o
 | 0, k, _, he => by simp only [Nat.add_zero] at he; simp [iterM, he]
 | n + 1, k, hf, he => by
  simp only [iterM]
  rw [hf k (Nat.le_refl _) (by omega)]
  exact iterM_to B n (k + 1) (fun i h1 h2 => hf i (by omega) (by omega)) (by rw [show k + 1 + n = k + (n + 1) by omega]; exact he)
/-- So many rounds, then out. -/
theorem loop_to {f : σ → Option (σ ⊕ ρ)} (B : Nat → σ) (n : Nat) {o : ρ} {s : σ} (hs : s = B 0) (hn : n ≤ 9223372036854775807) (hf : ∀ i, i < n → f (B i) = some (.inl (B (i + 1)))) (he : f (B n) = some (.inr o)) : loopM f s = some o := by
 subst hs
 exact loopM_of (iterM_to B n 0 (fun i _ h => hf i (by omega)) (by rw [Nat.zero_add]; exact he)) (by unfold roundsM; omega)

/-- Counted rounds, each of which may end the loop. -/
theorem loop_cnt {f : Int → Option (Int ⊕ ρ)} (n : Nat) (c : Nat → Option ρ) (o : ρ) (hn : n ≤ 9223372036854775807) (hf : ∀ i, i < n → f (i : Int) = match c i with
  | some r => some (.inr r)
  | none => some (.inl ((i : Int) + 1))) (he : f (n : Int) = some (.inr o)) : loopM f 0 = some (((List.range n).findSome? c).getD o) := by
 cases h : (List.range n).findSome? c with
 | none =>
  rw [List.findSome?_eq_none_iff] at h
  refine loop_to (fun i => (i : Int)) n rfl hn (fun i hi => ?_) he
  rw [hf i hi, h i (List.mem_range.2 hi)]
  rfl
 | some r =>
  rw [List.findSome?_eq_some_iff] at h
  obtain ⟨l1, a, l2, h1, h2, h3⟩ := h
  have ha : l1.length = a ∧ a < n := by
   have hlen : l1.length < (List.range n).length := by rw [h1]; simp
   have : (List.range n)[l1.length]? = some a := by rw [h1]; simp
   simp only [List.length_range] at hlen
   simp [hlen] at this
   exact ⟨this, by omega⟩
  obtain ⟨ha1, ha2⟩ := ha
  refine loop_to (fun i => (i : Int)) a rfl (by omega) (fun i hi => ?_) ?_
  ·have hm : i ∈ l1 := by
    have : (List.range n)[i]? = some i := List.getElem?_range (by omega)
    rw [h1, List.getElem?_append_left (by omega)] at this
    exact List.mem_of_getElem? this
   rw [hf i (by omega), h3 i hm]
   rfl
  ·rw [hf a ha2, h2]; rfl

theorem findSome_range {α β : Type} (l : List α) (c : Nat → Option β) (d : α → Option β) (h : ∀ (i : Nat) (e : α), l[i]? = some e → c i = d e) : (List.range l.length).findSome? c = l.findSome? d := by
 induction l generalizing c with
 | nil => rfl
 | cons x r ih =>
  rw [List.length_cons, List.range_succ_eq_map, List.findSome?_cons, List.findSome?_map, List.findSome?_cons, h 0 x rfl]
  cases d x with
  | some b => rfl
  | none => exact ih (c ∘ Nat.succ) fun i e he => h (i + 1) e (by simpa using he)

/-- Through a list; a round that ends the loop. -/
theorem loop_list {α : Type} {f : Int → Option (Int ⊕ ρ)} (l : List α) (d : α → Option ρ) (o : ρ) (hn : l.length ≤ 9223372036854775807) (hf : ∀ (i : Nat) (e : α), l[i]? = some e → f (i : Int) = match d e with
  | some r => some (.inr r)
  | none => some (.inl ((i : Int) + 1))) (he : f (l.length : Int) = some (.inr o)) : loopM f 0 = some ((l.findSome? d).getD o) := by
 rw [loop_cnt l.length (fun i => (l[i]?).bind d) o hn (fun i hi => ?_) he, findSome_range l _ d (fun i e he => by simp [he])]
 rw [hf i l[i] (by simp), List.getElem?_eq_getElem hi]
 rfl
theorem findSome_any {α β : Type} (l : List α) (c : α → Bool) (v : β) : l.findSome? (fun e => if c e = true then some v else none) = if l.any c = true then some v else none := by
 induction l with
 | nil => rfl
 | cons x r ih =>
  rw [List.findSome?_cons, List.any_cons, ih]
  cases c x <;> simp
/-- Is there one? -/
theorem loop_any {α : Type} {f : Int → Option (Int ⊕ ρ)} (l : List α) (c : α → Bool) (v o : ρ) (hn : l.length ≤ 9223372036854775807) (hf : ∀ (i : Nat) (e : α), l[i]? = some e → f (i : Int) = if c e = true then some (.inr v) else some (.inl ((i : Int) + 1))) (he : f (l.length : Int) = some (.inr o)) : loopM f 0 = some (if l.any c = true then v else o) := by
 rw [loop_list l (fun e => if c e = true then some v else none) o hn (fun i e h => by rw [hf i e h]; cases c e <;> simp) he, findSome_any]
 split <;> rfl
theorem loop_anyI {f : Int → Option (Int ⊕ ρ)} (n : Nat) (c : Nat → Bool) (v o : ρ) (hn : n ≤ 9223372036854775807) (hf : ∀ i, i < n → f (i : Int) = if c i = true then some (.inr v) else some (.inl ((i : Int) + 1))) (he : f (n : Int) = some (.inr o)) : loopM f 0 = some (if (List.range n).any c = true then v else o) := by
 rw [loop_cnt n (fun e => if c e = true then some v else none) o hn (fun i h => by rw [hf i h]; cases c i <;> simp) he, findSome_any]
 split <;> rfl
/-- Where is the first one? -/
theorem loop_find {α : Type} {f : Int → Option (Int ⊕ ρ)} (l : List α) (c : α → Bool) (w : Nat → ρ) (o : ρ) (hn : l.length ≤ 9223372036854775807) (hf : ∀ (i : Nat) (e : α), l[i]? = some e → f (i : Int) = if c e = true then some (.inr (w i)) else some (.inl ((i : Int) + 1))) (he : f (l.length : Int) = some (.inr o)) : loopM f 0 = some (match l.findIdx? c with | some i => w i | none => o) := by
 cases h : l.findIdx? c with
 | none =>
  rw [List.findIdx?_eq_none_iff] at h
  refine loop_to (fun i => (i : Int)) l.length rfl hn (fun i hi => ?_) he
  rw [hf i l[i] (by simp), if_neg (by rw [h l[i] (by simp)]; simp)]; rfl
 | some k =>
  rw [List.findIdx?_eq_some_iff_getElem] at h
  obtain ⟨hk, h1, h2⟩ := h
  refine loop_to (fun i => (i : Int)) k rfl (by omega) (fun i hi => ?_) ?_
  ·have hl : i < l.length := by omega
   have := h2 i hi
   rw [hf i l[i] (by simp), if_neg (by simpa using this)]; rfl
  ·rw [hf k l[k] (by simp), if_pos h1]

/-- With something that grows. -/
theorem loop_acc {β : Type} {f : Int × β → Option ((Int × β) ⊕ ρ)} (n : Nat) (B : Nat → β) {o : ρ} {b : β} (hb : b = B 0) (hn : n ≤ 9223372036854775807) (hf : ∀ i, i < n → f ((i : Int), B i) = some (.inl ((i : Int) + 1, B (i + 1)))) (he : f ((n : Int), B n) = some (.inr o)) : loopM f (0, b) = some o :=
 loop_to (fun i => ((i : Int), B i)) n (by rw [hb]; rfl) hn (fun i hi => by rw [hf i hi]; rfl) he

/-- With something that grows, until a round ends it. -/
theorem loop_accx {β : Type} {f : Int × β → Option ((Int × β) ⊕ ρ)} (n : Nat) (B : Nat → β) (c : Nat → Bool) (v o : ρ) {b : β} (hb : b = B 0) (hn : n ≤ 9223372036854775807) (hf : ∀ i, i < n → (∀ j, j < i → c j = false) → f ((i : Int), B i) = if c i = true then some (.inr v) else some (.inl ((i : Int) + 1, B (i + 1)))) (he : (∀ j, j < n → c j = false) → f ((n : Int), B n) = some (.inr o)) : loopM f (0, b) = some (if (List.range n).any c = true then v else o) := by
 cases h : (List.range n).findIdx? c with
 | none =>
  rw [List.findIdx?_eq_none_iff] at h
  have hall : ∀ j, j < n → c j = false := fun j hj => by simpa using h j (List.mem_range.2 hj)
  have hno : ¬ (List.range n).any c = true := by
   rw [List.any_eq_true]
   rintro ⟨j, hj, hc⟩
   rw [hall j (List.mem_range.1 hj)] at hc; cases hc
  rw [if_neg hno]
  exact loop_acc n B hb hn (fun i hi => by rw [hf i hi (fun j hj => hall j (by omega)), hall i hi]; rfl) (he hall)
 | some k =>
  rw [List.findIdx?_eq_some_iff_getElem] at h
  obtain ⟨hk, h1, h2⟩ := h
  simp only [List.length_range] at hk
  simp only [List.getElem_range] at h1
  have hb' : ∀ j, j < k → c j = false := fun j hj => by have := h2 j hj; simpa using this
  have hyes : (List.range n).any c = true := List.any_eq_true.2 ⟨k, List.mem_range.2 hk, h1⟩
  rw [if_pos hyes]
  exact loop_acc k B hb (by omega) (fun i hi => by rw [hf i (by omega) (fun j hj => hb' j (by omega)), hb' i hi]; rfl) (by rw [hf k hk hb', h1]; rfl)

theorem i64_nat {i n : Nat} (h : i < n) (hn : n ≤ 9223372036854775807) : I64 ((i : Int) + 1) := by unfold I64; omega
end Go.Proofs.YtcagmechagiclaaGreatDoor

set_option linter.unusedSimpArgs false
set_option linter.unusedVariables false
namespace Go.Proofs.YtcagmechagiclaaGreatDoor
open Go Go.TL

def sgn (x y : Int) : Int := if x < y then -1 else if y < x then 1 else 0

theorem compare_eq (x y : Int) : cmp_Compare_int x y = some (sgn x y) := by
 simp only [cmp_Compare_int, cmp_isNaN_int, decide_true, Bool.not_true, bindM_some, Bool.false_eq_true, if_false, sgn]
 split
 ·rfl
 ·split <;> rfl

theorem or_eq (x y : Int) : cmp_Or_int [x, y] = some (if x = 0 then y else x) := by
 unfold cmp_Or_int
 by_cases hx : x = 0
 ·by_cases hy : y = 0
  ·rw [loopM_of (n := 3) (r := (.inl () : Unit ⊕ Int)) (by simp [iterM, getM, guardM, I64, hx, hy, inrM]) (by decide)]
   simp [bindS, hx, hy]
  ·rw [loopM_of (n := 3) (r := (.inr y : Unit ⊕ Int)) (by simp [iterM, getM, guardM, I64, hx, hy, inrM]) (by decide)]
   simp [bindS, hx]
 ·rw [loopM_of (n := 3) (r := (.inr x : Unit ⊕ Int)) (by simp [iterM, getM, guardM, I64, hx, inrM]) (by decide)]
  simp [bindS, hx]

theorem settings_c1_eq (x y : Setting) : table_Settings_c1 x y = some (if sgn x.el y.el = 0 then sgn x.pos y.pos else sgn x.el y.el) := by
 simp only [table_Settings_c1, compare_eq, bindM_some, or_eq]

theorem table_Settings_c1_sort : SortOk table_Settings_c1 := by
 have hl : ∀ x y, ltM table_Settings_c1 x y = decide (x.el < y.el ∨ x.el = y.el ∧ x.pos < y.pos) := by
  intro x y
  simp only [ltM, settings_c1_eq, Option.getD_some, sgn]
  rw [decide_eq_decide]
  split <;> split <;> (try split) <;> (try split) <;> omega
 refine ⟨fun x y => ⟨_, settings_c1_eq x y⟩, fun x => ?_, fun x y z h1 h2 => ?_, fun x y z h1 h2 => ?_, fun x y h1 h2 => ?_⟩
 ·rw [hl]; simp
 ·rw [hl, decide_eq_true_eq] at *; omega
 ·rw [hl, decide_eq_false_iff_not] at *; omega
 ·rw [hl, decide_eq_false_iff_not] at *
  obtain ⟨a, b⟩ := x; obtain ⟨c, d⟩ := y
  simp only at h1 h2
  have h3 : a = c := by omega
  have h4 : b = d := by omega
  rw [h3, h4]

end Go.Proofs.YtcagmechagiclaaGreatDoor
