/- The functions, as partial functions on plain values. No condition. -/
import Derived.Test.YthkgkolgdkcngaaGnT
set_option maxHeartbeats 400000
set_option linter.unusedSimpArgs false
set_option linter.unusedVariables false
set_option maxRecDepth 20000
namespace Go.Proofs.Ythkgkolgdkcngaa
open Go Go.TL

def law42_small (p0 : Table) (p1 : Inter) (p2 : (List Possession)) : Option Bool :=
  bindS (
    loopM (fun x3 =>
      if x3 < (p0.routes.length : Int) then
        getM p0.routes x3 fun e6 =>
        guardM (I64 ((e6.path.length : Int) + (e6.sections.length : Int))) <|
        guardM (I64 (((e6.path.length : Int) + (e6.sections.length : Int)) + (e6.overSections.length : Int))) <|
        guardM (I64 ((((e6.path.length : Int) + (e6.sections.length : Int)) + (e6.overSections.length : Int)) + (e6.points.length : Int))) <|
        guardM (I64 (((((e6.path.length : Int) + (e6.sections.length : Int)) + (e6.overSections.length : Int)) + (e6.points.length : Int)) + (e6.overPoints.length : Int))) <|
        guardM (I64 ((((((e6.path.length : Int) + (e6.sections.length : Int)) + (e6.overSections.length : Int)) + (e6.points.length : Int)) + (e6.overPoints.length : Int)) + (e6.flank.length : Int))) <|
        if (200 : Int) < ((((((e6.path.length : Int) + (e6.sections.length : Int)) + (e6.overSections.length : Int)) + (e6.points.length : Int)) + (e6.overPoints.length : Int)) + (e6.flank.length : Int)) then
          inrM (
            inrM (
              some false))
        else
          guardM (I64 (x3 + (1 : Int))) <|
          some (.inl (x3 + (1 : Int)))
      else
        inrM (
          some (.inl ()))) (0 : Int)) fun _ =>
  some ((decide ((p0.routes.length : Int) ≤ (100 : Int))) && ((decide ((p0.points.length : Int) ≤ (100 : Int))) && ((decide ((p1.routes.length : Int) ≤ (100 : Int))) && ((decide ((p1.lies.length : Int) ≤ (100 : Int))) && (decide ((p2.length : Int) ≤ (100 : Int)))))))

def table_within (p0 : Int) (p1 : Int) : Option Bool :=
  some ((decide ((0 : Int) ≤ p0)) && (decide (p0 < p1)))

def table_pointsRight (p0 : Table) : Option Bool :=
  if (p0.homes.length : Int) = (p0.points.length : Int) then
    bindS (
      loopM (fun x4 =>
        if x4 < (p0.points.length : Int) then
          getM p0.points x4 fun e7 =>
          bindM (
            if e7 < (0 : Int) then
              some true
            else
              if (0 : Int) < x4 then
                guardM (I64 (x4 - (1 : Int))) <|
                getM p0.points (x4 - (1 : Int)) fun e15 =>
                if e7 ≤ e15 then
                  some true
                else
                  getM p0.homes x4 fun e17 =>
                  bindM (table_within e17 p0.sections) fun r18 =>
                  some (!(r18))
              else
                getM p0.homes x4 fun e12 =>
                bindM (table_within e12 p0.sections) fun r13 =>
                some (!(r13))) fun x8 =>
          if x8 = true then
            inrM (
              inrM (
                some false))
          else
            guardM (I64 (x4 + (1 : Int))) <|
            some (.inl (x4 + (1 : Int)))
        else
          inrM (
            some (.inl ()))) (0 : Int)) fun _ =>
    some true
  else
    some false

def slices_Concat_int (p0 : List (List Int)) : Option (List Int) :=
  guardM (p0.length ≤ 1000 ∧ p0.flatten.length ≤ 1000000000) <|
  some p0.flatten

def table_routeRight (p0 : Table) (p1 : Route) : Option Bool :=
  bindM (
    bindM (table_within p1.entry p0.signals) fun r3 =>
    if (!(r3)) = true then
      some true
    else
      if p1.exit = (-1 : Int) then
        some false
      else
        bindM (table_within p1.exit p0.signals) fun r6 =>
        some (!(r6))) fun x1 =>
  if x1 = true then
    some false
  else
    if ((decide ((p1.path.length : Int) < (1 : Int))) || ((decide ((12 : Int) < (p1.path.length : Int))) || (decide ((p1.sections.length : Int) = (0 : Int))))) = true then
      some false
    else
      bindS (
        bindM (slices_Concat_int ([p1.sections, p1.overSections] : List (List Int))) fun r13 =>
        loopM (fun (x17, b18) =>
          if x17 < (r13.length : Int) then
            getM r13 x17 fun e21 =>
            bindM (
              bindM (table_within e21 p0.sections) fun r24 =>
              if (!(r24)) = true then
                some true
              else
                guardM (e21 < 24) <|
                getM b18 e21 fun e26 =>
                some e26) fun x22 =>
            if x22 = true then
              inrM (
                inrM (
                  some false))
            else
              guardM (e21 < 24) <|
              getM b18 e21 fun e31 =>
              guardM (I64 (x17 + (1 : Int))) <|
              some (.inl ((x17 + (1 : Int)), (b18.set e21.toNat true)))
          else
            inrM (
              some (.inl b18))) ((0 : Int), (List.replicate 24 false))) fun b11 =>
      bindM (
        bindM (table_within p1.approach p0.sections) fun r37 =>
        if r37 = true then
          some (decide ((1 : Int) ≤ p1.length))
        else
          some false) fun x35 =>
      some x35

def slices_Index_int (p0 : (List Int)) (p1 : Int) : Option Int :=
  bindS (
    loopM (fun x3 =>
      if x3 < (p0.length : Int) then
        getM p0 x3 fun e6 =>
        if p1 = e6 then
          inrM (
            inrM (
              some x3))
        else
          guardM (I64 (x3 + (1 : Int))) <|
          some (.inl (x3 + (1 : Int)))
      else
        inrM (
          some (.inl ()))) (0 : Int)) fun _ =>
  some (-1 : Int)

def table_Index (p0 : Table) (p1 : Int) : Option Int :=
  bindM (slices_Index_int p0.points p1) fun r1 =>
  some r1

def table_settingsRight (p0 : Table) (p1 : (List Setting)) : Option Bool :=
  bindS (
    loopM (fun x3 =>
      if x3 < (p1.length : Int) then
        getM p1 x3 fun e6 =>
        bindM (
          if (0 : Int) < x3 then
            guardM (I64 (x3 - (1 : Int))) <|
            getM p1 (x3 - (1 : Int)) fun e12 =>
            if e6.el ≤ e12.el then
              some true
            else
              bindM (table_Index p0 e6.el) fun r14 =>
              some (decide (r14 < (0 : Int)))
          else
            bindM (table_Index p0 e6.el) fun r10 =>
            some (decide (r10 < (0 : Int)))) fun x7 =>
        if x7 = true then
          inrM (
            inrM (
              some false))
        else
          if ((!(decide (e6.pos = (1 : Int)))) && (!(decide (e6.pos = (2 : Int))))) = true then
            inrM (
              inrM (
                some false))
          else
            guardM (I64 (x3 + (1 : Int))) <|
            some (.inl (x3 + (1 : Int)))
      else
        inrM (
          some (.inl ()))) (0 : Int)) fun _ =>
  some true

def conflict_Agree (p0 : (List Setting)) (p1 : (List Setting)) : Option Bool :=
  bindS (
    loopM (fun x3 =>
      if x3 < (p0.length : Int) then
        bindS (
          getM p0 x3 fun e7 =>
          loopM (fun x9 =>
            if x9 < (p1.length : Int) then
              getM p1 x9 fun e12 =>
              if ((decide (e7.el = e12.el)) && (!(decide (e7.pos = e12.pos)))) = true then
                inrM (
                  inrM (
                    inrM (
                      inrM (
                        some false))))
              else
                guardM (I64 (x9 + (1 : Int))) <|
                some (.inl (x9 + (1 : Int)))
            else
              inrM (
                some (.inl ()))) (0 : Int)) fun _ =>
        guardM (I64 (x3 + (1 : Int))) <|
        some (.inl (x3 + (1 : Int)))
      else
        inrM (
          some (.inl ()))) (0 : Int)) fun _ =>
  some true

def table_Check (p0 : Table) : Option Int :=
  bindM (
    if (48 : Int) < (p0.routes.length : Int) then
      some true
    else
      if (32 : Int) < (p0.points.length : Int) then
        some true
      else
        bindM (table_within p0.sections (25 : Int)) fun r5 =>
        if (!(r5)) = true then
          some true
        else
          bindM (table_within p0.signals (21 : Int)) fun r7 =>
          some (!(r7))) fun x1 =>
  if x1 = true then
    some (2 : Int)
  else
    bindM (table_pointsRight p0) fun r9 =>
    if (!(r9)) = true then
      some (1 : Int)
    else
      bindS (
        loopM (fun x13 =>
          if x13 < (p0.routes.length : Int) then
            getM p0.routes x13 fun e16 =>
            bindM (table_routeRight p0 e16) fun r17 =>
            if (!(r17)) = true then
              inrM (
                inrM (
                  some (1 : Int)))
            else
              guardM (I64 (x13 + (1 : Int))) <|
              some (.inl (x13 + (1 : Int)))
          else
            inrM (
              some (.inl ()))) (0 : Int)) fun _ =>
      bindS (
        loopM (fun x25 =>
          if x25 < (p0.routes.length : Int) then
            getM p0.routes x25 fun e28 =>
            bindM (
              bindM (table_settingsRight p0 e28.points) fun r31 =>
              if (!(r31)) = true then
                some true
              else
                bindM (table_settingsRight p0 e28.overPoints) fun r33 =>
                if (!(r33)) = true then
                  some true
                else
                  bindM (table_settingsRight p0 e28.flank) fun r35 =>
                  some (!(r35))) fun x29 =>
            if x29 = true then
              inrM (
                inrM (
                  some (1 : Int)))
            else
              guardM (I64 (x25 + (1 : Int))) <|
              some (.inl (x25 + (1 : Int)))
          else
            inrM (
              some (.inl ()))) (0 : Int)) fun _ =>
      bindS (
        loopM (fun x43 =>
          if x43 < (p0.routes.length : Int) then
            getM p0.routes x43 fun e46 =>
            bindM (
              bindM (conflict_Agree e46.points e46.overPoints) fun r49 =>
              if (!(r49)) = true then
                some true
              else
                bindM (conflict_Agree e46.points e46.flank) fun r51 =>
                if (!(r51)) = true then
                  some true
                else
                  bindM (conflict_Agree e46.overPoints e46.flank) fun r53 =>
                  some (!(r53))) fun x47 =>
            if x47 = true then
              inrM (
                inrM (
                  some (10 : Int)))
            else
              guardM (I64 (x43 + (1 : Int))) <|
              some (.inl (x43 + (1 : Int)))
          else
            inrM (
              some (.inl ()))) (0 : Int)) fun _ =>
      bindS (
        loopM (fun (x64, b65) =>
          if x64 < (p0.routes.length : Int) then
            getM p0.routes x64 fun e68 =>
            guardM (b65.map (·.1)).Nodup <|
            if (((assocE b65 e68.name).getD false)) = true then
              inrM (
                inrM (
                  some (8 : Int)))
            else
              guardM (b65.map (·.1)).Nodup <|
              guardM (I64 (x64 + (1 : Int))) <|
              some (.inl ((x64 + (1 : Int)), (putE b65 e68.name true)))
          else
            inrM (
              some (.inl b65))) ((0 : Int), ([] : List (ByteArray × Bool)))) fun m59 =>
      some (0 : Int)

def possession_first (p0 : (List Possession)) : Option (List (Int × Int)) :=
  bindM (
    loopM (fun (x6, b7) =>
      if x6 < (p0.length : Int) then
        getM p0 x6 fun e10 =>
        guardM (b7.map (·.1)).Nodup <|
        if (!((assocE b7 e10.sectionV).isSome)) = true then
          guardM (b7.map (·.1)).Nodup <|
          guardM (I64 (x6 + (1 : Int))) <|
          some (.inl ((x6 + (1 : Int)), (putE b7 e10.sectionV x6)))
        else
          guardM (I64 (x6 + (1 : Int))) <|
          some (.inl ((x6 + (1 : Int)), b7))
      else
        inrM (
          some b7)) ((0 : Int), ([] : List (Int × Int)))) fun m1 =>
  some m1

def locks_routeFits (p0 : RouteState) (p1 : Int) : Option Bool :=
  bindM (
    if p0.state = (0 : Int) then
      some (decide (p0.state = (0 : Int)))
    else
      if p0.state = (1 : Int) then
        some (decide (p0.state = (1 : Int)))
      else
        some (decide (p0.state = (2 : Int)))) fun x1 =>
  if x1 = true then
    some ((decide (p0.rel = (0 : Int))) && (decide (p0.timer = (0 : Int))))
  else
    if p0.state = (3 : Int) then
      if ((decide (p0.rel < (0 : Int))) || (decide (p1 ≤ p0.rel))) = true then
        some false
      else
        bindM (
          if p0.timer = (0 : Int) then
            some true
          else
            guardM (I64 (p1 - (1 : Int))) <|
            if p0.rel = (p1 - (1 : Int)) then
              if (0 : Int) < p0.timer then
                some (decide (p0.timer < (4 : Int)))
              else
                some false
            else
              some false) fun x10 =>
        some x10
    else
      if p0.state = (4 : Int) then
        some ((decide ((0 : Int) ≤ p0.rel)) && ((decide (p0.rel < p1)) && ((decide ((0 : Int) ≤ p0.timer)) && (decide (p0.timer < (12 : Int))))))
      else
        some false

def locks_fits (p0 : Table) (p1 : Inter) : Option Bool :=
  bindM (
    bindM (table_Check p0) fun r3 =>
    if r3 = (0 : Int) then
      if (p1.routes.length : Int) = (p0.routes.length : Int) then
        some (!(decide ((p1.lies.length : Int) = (p0.points.length : Int))))
      else
        some true
    else
      some true) fun x1 =>
  if x1 = true then
    some false
  else
    bindS (
      loopM (fun x9 =>
        if x9 < (p1.routes.length : Int) then
          getM p1.routes x9 fun e12 =>
          getM p0.routes x9 fun e13 =>
          bindM (locks_routeFits e12 (e13.sections.length : Int)) fun r14 =>
          if (!(r14)) = true then
            inrM (
              inrM (
                some false))
          else
            guardM (I64 (x9 + (1 : Int))) <|
            some (.inl (x9 + (1 : Int)))
        else
          inrM (
            some (.inl ()))) (0 : Int)) fun _ =>
    bindS (
      loopM (fun x22 =>
        if x22 < (p1.lies.length : Int) then
          getM p1.lies x22 fun e25 =>
          if ((!(decide (e25 = (1 : Int)))) && (!(decide (e25 = (2 : Int))))) = true then
            inrM (
              inrM (
                some false))
          else
            guardM (I64 (x22 + (1 : Int))) <|
            some (.inl (x22 + (1 : Int)))
        else
          inrM (
            some (.inl ()))) (0 : Int)) fun _ =>
    some true

def slices_Clone_int (p0 : (List Int)) : Option ((List Int)) :=
  nilM p0 (
    some ([] : List Int)) (
    guardM ((([] : List Int) ++ p0).length ≤ 1000000000) <|
    some (([] : List Int) ++ p0))

def locks_path (p0 : Route) (p1 : RouteState) : Option ((List Int)) :=
  if p1.state = (0 : Int) then
    some ([] : List Int)
  else
    guardM (0 ≤ p1.rel ∧ p1.rel ≤ (p0.sections.length : Int) ∧ (p0.sections.length : Int) ≤ (p0.sections.length : Int)) <|
    bindM (slices_Clone_int (sub p0.sections p1.rel (p0.sections.length : Int))) fun r3 =>
    some r3

def locks_Path (p0 : Table) (p1 : Inter) (p2 : Int) : Option ((List Int)) :=
  bindM (
    if p2 < (0 : Int) then
      some true
    else
      if (p0.routes.length : Int) ≤ p2 then
        some true
      else
        bindM (locks_fits p0 p1) fun r5 =>
        some (!(r5))) fun x1 =>
  if x1 = true then
    some ([] : List Int)
  else
    getM p0.routes p2 fun e7 =>
    getM p1.routes p2 fun e8 =>
    bindM (locks_path e7 e8) fun r9 =>
    some r9

def slices_Contains_int (p0 : (List Int)) (p1 : Int) : Option Bool :=
  bindM (slices_Index_int p0 p1) fun r1 =>
  some (decide ((0 : Int) ≤ r1))

def locks_over (p0 : Route) (p1 : RouteState) : Option ((List Int)) :=
  if p1.state = (0 : Int) then
    some ([] : List Int)
  else
    bindM (slices_Clone_int p0.overSections) fun r2 =>
    some r2

def locks_Over (p0 : Table) (p1 : Inter) (p2 : Int) : Option ((List Int)) :=
  bindM (
    if p2 < (0 : Int) then
      some true
    else
      if (p0.routes.length : Int) ≤ p2 then
        some true
      else
        bindM (locks_fits p0 p1) fun r5 =>
        some (!(r5))) fun x1 =>
  if x1 = true then
    some ([] : List Int)
  else
    getM p0.routes p2 fun e7 =>
    getM p1.routes p2 fun e8 =>
    bindM (locks_over e7 e8) fun r9 =>
    some r9

def possession_locked (p0 : Table) (p1 : Inter) (p2 : Int) : Option Bool :=
  bindS (
    loopM (fun x3 =>
      if x3 < (p0.routes.length : Int) then
        bindM (
          bindM (locks_Path p0 p1 x3) fun r8 =>
          bindM (slices_Contains_int r8 p2) fun r9 =>
          if r9 = true then
            some true
          else
            bindM (locks_Over p0 p1 x3) fun r11 =>
            bindM (slices_Contains_int r11 p2) fun r12 =>
            some r12) fun x6 =>
        if x6 = true then
          inrM (
            inrM (
              some true))
        else
          guardM (I64 (x3 + (1 : Int))) <|
          some (.inl (x3 + (1 : Int)))
      else
        inrM (
          some (.inl ()))) (0 : Int)) fun _ =>
  some false

def possession_Take_c1 (p0 : Possession) (p1 : Possession) : Option Bool :=
  some (decide (p1.sectionV < p0.sectionV))

def slices_IndexFunc_Possession (p0 : (List Possession)) (p1 : Possession → Option Bool) : Option Int :=
  bindS (
    loopM (fun x3 =>
      if x3 < (p0.length : Int) then
        getM p0 x3 fun e6 =>
        bindM (p1 e6) fun r7 =>
        if r7 = true then
          inrM (
            inrM (
              some x3))
        else
          guardM (I64 (x3 + (1 : Int))) <|
          some (.inl (x3 + (1 : Int)))
      else
        inrM (
          some (.inl ()))) (0 : Int)) fun _ =>
  some (-1 : Int)

def slices_Concat_Possession (p0 : List (List Possession)) : Option (List Possession) :=
  guardM (p0.length ≤ 1000 ∧ p0.flatten.length ≤ 1000000000) <|
  some p0.flatten

def possession_Take (p0 : Table) (p1 : Inter) (p2 : (List Possession)) (p3 : Possession) : Option ((List Possession) × Int) :=
  bindM (
    bindM (table_Check p0) fun r3 =>
    if r3 = (0 : Int) then
      if p3.sectionV < (0 : Int) then
        some true
      else
        if p0.sections ≤ p3.sectionV then
          some true
        else
          if p3.byV = (⟨#[]⟩ : ByteArray) then
            some true
          else
            if p3.withV = (⟨#[]⟩ : ByteArray) then
              some true
            else
              some (decide (p3.byV = p3.withV))
    else
      some true) fun x1 =>
  if x1 = true then
    some (([] : List Possession), (1 : Int))
  else
    bindM (possession_first p2) fun r10 =>
    guardM (r10.map (·.1)).Nodup <|
    if ((assocE r10 p3.sectionV).isSome) = true then
      some (([] : List Possession), (8 : Int))
    else
      if (16 : Int) ≤ (p2.length : Int) then
        some (([] : List Possession), (16 : Int))
      else
        bindM (possession_locked p0 p1 p3.sectionV) fun r14 =>
        if r14 = true then
          some (([] : List Possession), (12 : Int))
        else
          bindM (slices_IndexFunc_Possession p2 (fun a0 => possession_Take_c1 a0 p3)) fun r16 =>
          bindM (
            if r16 < (0 : Int) then
              some (p2.length : Int)
            else
              some r16) fun x17 =>
          guardM (0 ≤ (0 : Int) ∧ (0 : Int) ≤ x17 ∧ x17 ≤ (p2.length : Int)) <|
          guardM (0 ≤ x17 ∧ x17 ≤ (p2.length : Int) ∧ (p2.length : Int) ≤ (p2.length : Int)) <|
          bindM (slices_Concat_Possession ([sub p2 (0 : Int) x17, ([p3] : List Possession), sub p2 x17 (p2.length : Int)] : List (List Possession))) fun r22 =>
          some (r22, (0 : Int))

def possession_Give (p0 : (List Possession)) (p1 : Int) (p2 : ByteArray) : Option ((List Possession) × Int) :=
  bindM (possession_first p0) fun r1 =>
  guardM (r1.map (·.1)).Nodup <|
  if (!((assocE r1 p1).isSome)) = true then
    some (([] : List Possession), (9 : Int))
  else
    bindM (
      getM p0 ((assocE r1 p1).getD (0 : Int)) fun e6 =>
      if p2 = e6.byV then
        some false
      else
        getM p0 ((assocE r1 p1).getD (0 : Int)) fun e8 =>
        some (!(decide (p2 = e8.withV)))) fun x4 =>
    if x4 = true then
      some (([] : List Possession), (13 : Int))
    else
      guardM ((r1.map (·.1)).Nodup ∧ (assocE r1 p1).isSome = true) <|
      bindM (
        loopM (fun (x16, b17) =>
          if x16 < (p0.length : Int) then
            getM p0 x16 fun e20 =>
            guardM ((delE r1 p1).map (·.1)).Nodup <|
            if (((assocE (delE r1 p1) e20.sectionV).isSome) || (!(decide (x16 = ((assocE r1 p1).getD (0 : Int)))))) = true then
              guardM ((b17 ++ ([e20] : List Possession)).length ≤ 1000000000) <|
              guardM (I64 (x16 + (1 : Int))) <|
              some (.inl ((x16 + (1 : Int)), (b17 ++ ([e20] : List Possession))))
            else
              guardM (I64 (x16 + (1 : Int))) <|
              some (.inl ((x16 + (1 : Int)), b17))
          else
            inrM (
              some b17)) ((0 : Int), ([] : List Possession))) fun b11 =>
      some (b11, (0 : Int))

def possession_Closed (p0 : (List Possession)) (p1 : Int) : Option ((List Bool)) :=
  if ((decide (p1 < (0 : Int))) || (decide ((24 : Int) < p1))) = true then
    some ([] : List Bool)
  else
    guardM (0 ≤ p1 ∧ p1 ≤ 1000000000) <|
    bindM (
      loopM (fun (x9, b10) =>
        if x9 < (p0.length : Int) then
          getM p0 x9 fun e13 =>
          if ((decide ((0 : Int) ≤ e13.sectionV)) && (decide (e13.sectionV < p1))) = true then
            getM b10 e13.sectionV fun e16 =>
            guardM (I64 (x9 + (1 : Int))) <|
            some (.inl ((x9 + (1 : Int)), (b10.set e13.sectionV.toNat true)))
          else
            guardM (I64 (x9 + (1 : Int))) <|
            some (.inl ((x9 + (1 : Int)), b10))
        else
          inrM (
            some b10)) ((0 : Int), (List.replicate p1.toNat false))) fun b4 =>
    some b4

def ref42_Same (p0 : (List Possession)) (p1 : (List Possession)) : Option Bool :=
  if (p0.length : Int) = (p1.length : Int) then
    bindS (
      loopM (fun i4 =>
        if i4 < (p0.length : Int) then
          getM p0 i4 fun e7 =>
          getM p1 i4 fun e8 =>
          guardM (Possession.ok e7 ∧ Possession.ok e8) <|
          if e7 = e8 then
            guardM (I64 (i4 + (1 : Int))) <|
            some (.inl (i4 + (1 : Int)))
          else
            inrM (
              inrM (
                some false))
        else
          inrM (
            some (.inl ()))) (0 : Int)) fun _ =>
    some true
  else
    some false

def ref42_SameBools (p0 : (List Bool)) (p1 : (List Bool)) : Option Bool :=
  if (p0.length : Int) = (p1.length : Int) then
    bindS (
      loopM (fun i4 =>
        if i4 < (p0.length : Int) then
          getM p0 i4 fun e7 =>
          getM p1 i4 fun e8 =>
          if (!((e7 == e8))) = true then
            inrM (
              inrM (
                some false))
          else
            guardM (I64 (i4 + (1 : Int))) <|
            some (.inl (i4 + (1 : Int)))
        else
          inrM (
            some (.inl ()))) (0 : Int)) fun _ =>
    some true
  else
    some false

def law42_alive  : Option Bool :=
  bindM (possession_Take (⟨([] : List Route), ([] : List Int), ([] : List Int), (6 : Int), (0 : Int)⟩ : Table) (⟨([] : List RouteState), ([] : List Int)⟩ : Inter) ([(⟨(1 : Int), (0 : Int), (⟨#[97, 110, 110]⟩ : ByteArray), (⟨#[98, 111, 98]⟩ : ByteArray)⟩ : Possession), (⟨(5 : Int), (0 : Int), (⟨#[98, 111, 98]⟩ : ByteArray), (⟨#[97, 110, 110]⟩ : ByteArray)⟩ : Possession)] : List Possession) (⟨(3 : Int), (7 : Int), (⟨#[97, 110, 110]⟩ : ByteArray), (⟨#[98, 111, 98]⟩ : ByteArray)⟩ : Possession)) fun (r2, r3) =>
  bindM (possession_Take (⟨([] : List Route), ([] : List Int), ([] : List Int), (6 : Int), (0 : Int)⟩ : Table) (⟨([] : List RouteState), ([] : List Int)⟩ : Inter) ([(⟨(1 : Int), (0 : Int), (⟨#[97, 110, 110]⟩ : ByteArray), (⟨#[98, 111, 98]⟩ : ByteArray)⟩ : Possession), (⟨(5 : Int), (0 : Int), (⟨#[98, 111, 98]⟩ : ByteArray), (⟨#[97, 110, 110]⟩ : ByteArray)⟩ : Possession)] : List Possession) (⟨(3 : Int), (0 : Int), (⟨#[97, 110, 110]⟩ : ByteArray), (⟨#[97, 110, 110]⟩ : ByteArray)⟩ : Possession)) fun (r5, r6) =>
  bindM (possession_Give r2 (3 : Int) (⟨#[99, 97, 114, 108]⟩ : ByteArray)) fun (r8, r9) =>
  bindM (possession_Give r2 (3 : Int) (⟨#[98, 111, 98]⟩ : ByteArray)) fun (r11, r12) =>
  bindM (possession_Closed r11 (6 : Int)) fun r13 =>
  bindM (
    if r3 = (0 : Int) then
      if (r2.length : Int) = (3 : Int) then
        getM r2 (1 : Int) fun e18 =>
        guardM (Possession.ok e18 ∧ Possession.ok (⟨(3 : Int), (7 : Int), (⟨#[97, 110, 110]⟩ : ByteArray), (⟨#[98, 111, 98]⟩ : ByteArray)⟩ : Possession)) <|
        if e18 = (⟨(3 : Int), (7 : Int), (⟨#[97, 110, 110]⟩ : ByteArray), (⟨#[98, 111, 98]⟩ : ByteArray)⟩ : Possession) then
          if r6 = (1 : Int) then
            if r9 = (13 : Int) then
              if r12 = (0 : Int) then
                bindM (ref42_Same r11 ([(⟨(1 : Int), (0 : Int), (⟨#[97, 110, 110]⟩ : ByteArray), (⟨#[98, 111, 98]⟩ : ByteArray)⟩ : Possession), (⟨(5 : Int), (0 : Int), (⟨#[98, 111, 98]⟩ : ByteArray), (⟨#[97, 110, 110]⟩ : ByteArray)⟩ : Possession)] : List Possession)) fun r25 =>
                if r25 = true then
                  bindM (ref42_SameBools r13 ([false, true, false, false, false, true] : List Bool)) fun r27 =>
                  some r27
                else
                  some false
              else
                some false
            else
              some false
          else
            some false
        else
          some false
      else
        some false
    else
      some false) fun x14 =>
  some x14

def ref16_sections (p0 : Table) (p1 : (List Int)) : Option Bool :=
  bindS (
    loopM (fun x3 =>
      if x3 < (p1.length : Int) then
        bindS (
          getM p1 x3 fun e7 =>
          if ((decide (e7 < (0 : Int))) || (decide (p0.sections ≤ e7))) = true then
            inrM (
              inrM (
                inrM (
                  some false)))
          else
            loopM (fun x14 =>
              if x14 < x3 then
                getM p1 x14 fun e17 =>
                if e17 = e7 then
                  inrM (
                    inrM (
                      inrM (
                        inrM (
                          some false))))
                else
                  guardM (I64 (x14 + (1 : Int))) <|
                  some (.inl (x14 + (1 : Int)))
              else
                inrM (
                  some (.inl ()))) (0 : Int)) fun _ =>
        guardM (I64 (x3 + (1 : Int))) <|
        some (.inl (x3 + (1 : Int)))
      else
        inrM (
          some (.inl ()))) (0 : Int)) fun _ =>
  some true

def ref16_right (p0 : Table) (p1 : Route) : Option Bool :=
  if ((decide (p1.entry < (0 : Int))) || ((decide (p0.signals ≤ p1.entry)) || ((decide (p1.exit < (-1 : Int))) || ((decide (p0.signals ≤ p1.exit)) || ((decide ((p1.path.length : Int) < (1 : Int))) || ((decide ((12 : Int) < (p1.path.length : Int))) || (decide (p1.length < (1 : Int))))))))) = true then
    some false
  else
    guardM ((([] : List Int) ++ p1.sections).length ≤ 1000000000) <|
    guardM (((([] : List Int) ++ p1.sections) ++ p1.overSections).length ≤ 1000000000) <|
    bindM (
      if (0 : Int) < (p1.sections.length : Int) then
        bindM (ref16_sections p0 ((([] : List Int) ++ p1.sections) ++ p1.overSections)) fun r13 =>
        if r13 = true then
          if (0 : Int) ≤ p1.approach then
            some (decide (p1.approach < p0.sections))
          else
            some false
        else
          some false
      else
        some false) fun x10 =>
    some x10

def ref16_Index (p0 : Table) (p1 : Int) : Option Int :=
  bindS (
    loopM (fun x3 =>
      if x3 < (p0.points.length : Int) then
        getM p0.points x3 fun e6 =>
        if e6 = p1 then
          inrM (
            inrM (
              some x3))
        else
          guardM (I64 (x3 + (1 : Int))) <|
          some (.inl (x3 + (1 : Int)))
      else
        inrM (
          some (.inl ()))) (0 : Int)) fun _ =>
  some (-1 : Int)

def ref16_settings (p0 : Table) (p1 : (List Setting)) : Option Bool :=
  bindS (
    loopM (fun x3 =>
      if x3 < (p1.length : Int) then
        getM p1 x3 fun e6 =>
        bindM (
          bindM (ref16_Index p0 e6.el) fun r9 =>
          if r9 < (0 : Int) then
            some true
          else
            if e6.pos < (1 : Int) then
              some true
            else
              if (2 : Int) < e6.pos then
                some true
              else
                if (0 : Int) < x3 then
                  guardM (I64 (x3 - (1 : Int))) <|
                  getM p1 (x3 - (1 : Int)) fun e15 =>
                  some (decide (e6.el ≤ e15.el))
                else
                  some false) fun x7 =>
        if x7 = true then
          inrM (
            inrM (
              some false))
        else
          guardM (I64 (x3 + (1 : Int))) <|
          some (.inl (x3 + (1 : Int)))
      else
        inrM (
          some (.inl ()))) (0 : Int)) fun _ =>
  some true

def ref16_agree (p0 : (List Setting)) (p1 : (List Setting)) : Option Bool :=
  bindS (
    loopM (fun x3 =>
      if x3 < (p0.length : Int) then
        bindS (
          getM p0 x3 fun e7 =>
          loopM (fun x9 =>
            if x9 < (p1.length : Int) then
              getM p1 x9 fun e12 =>
              if ((decide (e7.el = e12.el)) && (!(decide (e7.pos = e12.pos)))) = true then
                inrM (
                  inrM (
                    inrM (
                      inrM (
                        some false))))
              else
                guardM (I64 (x9 + (1 : Int))) <|
                some (.inl (x9 + (1 : Int)))
            else
              inrM (
                some (.inl ()))) (0 : Int)) fun _ =>
        guardM (I64 (x3 + (1 : Int))) <|
        some (.inl (x3 + (1 : Int)))
      else
        inrM (
          some (.inl ()))) (0 : Int)) fun _ =>
  some true

def ref16_Find (p0 : Table) (p1 : ByteArray) : Option Int :=
  bindS (
    loopM (fun x3 =>
      if x3 < (p0.routes.length : Int) then
        getM p0.routes x3 fun e6 =>
        if e6.name = p1 then
          inrM (
            inrM (
              some x3))
        else
          guardM (I64 (x3 + (1 : Int))) <|
          some (.inl (x3 + (1 : Int)))
      else
        inrM (
          some (.inl ()))) (0 : Int)) fun _ =>
  some (-1 : Int)

def ref16_Check (p0 : Table) : Option Int :=
  if ((decide ((48 : Int) < (p0.routes.length : Int))) || ((decide ((32 : Int) < (p0.points.length : Int))) || ((decide (p0.sections < (0 : Int))) || ((decide ((24 : Int) < p0.sections)) || ((decide (p0.signals < (0 : Int))) || (decide ((20 : Int) < p0.signals))))))) = true then
    some (2 : Int)
  else
    if (p0.homes.length : Int) = (p0.points.length : Int) then
      bindS (
        loopM (fun x10 =>
          if x10 < (p0.points.length : Int) then
            getM p0.points x10 fun e13 =>
            bindM (
              if e13 < (0 : Int) then
                some true
              else
                if (0 : Int) < x10 then
                  guardM (I64 (x10 - (1 : Int))) <|
                  getM p0.points (x10 - (1 : Int)) fun e22 =>
                  if e13 ≤ e22 then
                    some true
                  else
                    getM p0.homes x10 fun e24 =>
                    if e24 < (0 : Int) then
                      some true
                    else
                      getM p0.homes x10 fun e26 =>
                      some (decide (p0.sections ≤ e26))
                else
                  getM p0.homes x10 fun e18 =>
                  if e18 < (0 : Int) then
                    some true
                  else
                    getM p0.homes x10 fun e20 =>
                    some (decide (p0.sections ≤ e20))) fun x14 =>
            if x14 = true then
              inrM (
                inrM (
                  some (1 : Int)))
            else
              guardM (I64 (x10 + (1 : Int))) <|
              some (.inl (x10 + (1 : Int)))
          else
            inrM (
              some (.inl ()))) (0 : Int)) fun _ =>
      bindS (
        loopM (fun x34 =>
          if x34 < (p0.routes.length : Int) then
            getM p0.routes x34 fun e37 =>
            bindM (
              bindM (ref16_right p0 e37) fun r40 =>
              if (!(r40)) = true then
                some true
              else
                bindM (ref16_settings p0 e37.points) fun r42 =>
                if (!(r42)) = true then
                  some true
                else
                  bindM (ref16_settings p0 e37.overPoints) fun r44 =>
                  if (!(r44)) = true then
                    some true
                  else
                    bindM (ref16_settings p0 e37.flank) fun r46 =>
                    some (!(r46))) fun x38 =>
            if x38 = true then
              inrM (
                inrM (
                  some (1 : Int)))
            else
              guardM (I64 (x34 + (1 : Int))) <|
              some (.inl (x34 + (1 : Int)))
          else
            inrM (
              some (.inl ()))) (0 : Int)) fun _ =>
      bindS (
        loopM (fun x54 =>
          if x54 < (p0.routes.length : Int) then
            getM p0.routes x54 fun e57 =>
            bindM (
              bindM (ref16_agree e57.points e57.overPoints) fun r60 =>
              if (!(r60)) = true then
                some true
              else
                bindM (ref16_agree e57.points e57.flank) fun r62 =>
                if (!(r62)) = true then
                  some true
                else
                  bindM (ref16_agree e57.overPoints e57.flank) fun r64 =>
                  some (!(r64))) fun x58 =>
            if x58 = true then
              inrM (
                inrM (
                  some (10 : Int)))
            else
              guardM (I64 (x54 + (1 : Int))) <|
              some (.inl (x54 + (1 : Int)))
          else
            inrM (
              some (.inl ()))) (0 : Int)) fun _ =>
      bindS (
        loopM (fun x72 =>
          if x72 < (p0.routes.length : Int) then
            getM p0.routes x72 fun e75 =>
            bindM (ref16_Find p0 e75.name) fun r76 =>
            if r76 = x72 then
              guardM (I64 (x72 + (1 : Int))) <|
              some (.inl (x72 + (1 : Int)))
            else
              inrM (
                inrM (
                  some (8 : Int)))
          else
            inrM (
              some (.inl ()))) (0 : Int)) fun _ =>
      some (0 : Int)
    else
      some (1 : Int)

def ref42_find (p0 : (List Possession)) (p1 : Int) : Option Int :=
  bindS (
    loopM (fun i3 =>
      if i3 < (p0.length : Int) then
        getM p0 i3 fun e6 =>
        if e6.sectionV = p1 then
          inrM (
            inrM (
              some i3))
        else
          guardM (I64 (i3 + (1 : Int))) <|
          some (.inl (i3 + (1 : Int)))
      else
        inrM (
          some (.inl ()))) (0 : Int)) fun _ =>
  some (-1 : Int)

def ref21_fitsRoute (p0 : RouteState) (p1 : Int) : Option Bool :=
  bindM (
    if p0.state = (0 : Int) then
      some (decide (p0.state = (0 : Int)))
    else
      if p0.state = (1 : Int) then
        some (decide (p0.state = (1 : Int)))
      else
        some (decide (p0.state = (2 : Int)))) fun x1 =>
  if x1 = true then
    some ((decide (p0.rel = (0 : Int))) && (decide (p0.timer = (0 : Int))))
  else
    if p0.state = (3 : Int) then
      bindM (
        if (0 : Int) ≤ p0.rel then
          if p0.rel < p1 then
            if (0 : Int) ≤ p0.timer then
              if p0.timer < (4 : Int) then
                if p0.timer = (0 : Int) then
                  some true
                else
                  guardM (I64 (p1 - (1 : Int))) <|
                  some (decide (p0.rel = (p1 - (1 : Int))))
              else
                some false
            else
              some false
          else
            some false
        else
          some false) fun x8 =>
      some x8
    else
      if p0.state = (4 : Int) then
        some ((decide ((0 : Int) ≤ p0.rel)) && ((decide (p0.rel < p1)) && ((decide ((0 : Int) ≤ p0.timer)) && (decide (p0.timer < (12 : Int))))))
      else
        some false

def ref21_Fits (p0 : Table) (p1 : Inter) : Option Bool :=
  bindM (
    bindM (ref16_Check p0) fun r3 =>
    if r3 = (0 : Int) then
      if (p1.routes.length : Int) = (p0.routes.length : Int) then
        some (!(decide ((p1.lies.length : Int) = (p0.points.length : Int))))
      else
        some true
    else
      some true) fun x1 =>
  if x1 = true then
    some false
  else
    bindS (
      loopM (fun x9 =>
        if x9 < (p1.routes.length : Int) then
          getM p1.routes x9 fun e12 =>
          getM p0.routes x9 fun e13 =>
          bindM (ref21_fitsRoute e12 (e13.sections.length : Int)) fun r14 =>
          if (!(r14)) = true then
            inrM (
              inrM (
                some false))
          else
            guardM (I64 (x9 + (1 : Int))) <|
            some (.inl (x9 + (1 : Int)))
        else
          inrM (
            some (.inl ()))) (0 : Int)) fun _ =>
    bindS (
      loopM (fun x22 =>
        if x22 < (p1.lies.length : Int) then
          bindM (
            getM p1.lies x22 fun e27 =>
            if e27 = (1 : Int) then
              some false
            else
              getM p1.lies x22 fun e29 =>
              some (!(decide (e29 = (2 : Int))))) fun x25 =>
          if x25 = true then
            inrM (
              inrM (
                some false))
          else
            guardM (I64 (x22 + (1 : Int))) <|
            some (.inl (x22 + (1 : Int)))
        else
          inrM (
            some (.inl ()))) (0 : Int)) fun _ =>
    some true

def ref21_locked (p0 : Table) (p1 : Inter) (p2 : Int) : Option Bool :=
  bindM (
    if (0 : Int) ≤ p2 then
      if p2 < (p0.routes.length : Int) then
        bindM (ref21_Fits p0 p1) fun r5 =>
        if r5 = true then
          getM p1.routes p2 fun e7 =>
          some (!(decide (e7.state = (0 : Int))))
        else
          some false
      else
        some false
    else
      some false) fun x1 =>
  some x1

def ref21_path (p0 : Table) (p1 : Inter) (p2 : Int) : Option ((List Int)) :=
  getM p1.routes p2 fun e1 =>
  if e1.state = (0 : Int) then
    some ([] : List Int)
  else
    getM p0.routes p2 fun e3 =>
    getM p1.routes p2 fun e4 =>
    guardM (0 ≤ e4.rel ∧ e4.rel ≤ (e3.sections.length : Int) ∧ (e3.sections.length : Int) ≤ (e3.sections.length : Int)) <|
    guardM ((([] : List Int) ++ (sub e3.sections e4.rel (e3.sections.length : Int))).length ≤ 1000000000) <|
    some (([] : List Int) ++ (sub e3.sections e4.rel (e3.sections.length : Int)))

def ref21_Path (p0 : Table) (p1 : Inter) (p2 : Int) : Option ((List Int)) :=
  bindM (ref21_locked p0 p1 p2) fun r1 =>
  if (!(r1)) = true then
    some ([] : List Int)
  else
    bindM (ref21_path p0 p1 p2) fun r3 =>
    some r3

def ref02_Has (p0 : (List Int)) (p1 : Int) : Option Bool :=
  bindS (
    loopM (fun i3 =>
      if i3 < (p0.length : Int) then
        getM p0 i3 fun e6 =>
        if e6 = p1 then
          inrM (
            inrM (
              some true))
        else
          guardM (I64 (i3 + (1 : Int))) <|
          some (.inl (i3 + (1 : Int)))
      else
        inrM (
          some (.inl ()))) (0 : Int)) fun _ =>
  some false

def ref21_over (p0 : Table) (p1 : Inter) (p2 : Int) : Option ((List Int)) :=
  getM p1.routes p2 fun e1 =>
  if e1.state = (0 : Int) then
    some ([] : List Int)
  else
    getM p0.routes p2 fun e3 =>
    guardM ((([] : List Int) ++ e3.overSections).length ≤ 1000000000) <|
    some (([] : List Int) ++ e3.overSections)

def ref21_Over (p0 : Table) (p1 : Inter) (p2 : Int) : Option ((List Int)) :=
  bindM (ref21_locked p0 p1 p2) fun r1 =>
  if (!(r1)) = true then
    some ([] : List Int)
  else
    bindM (ref21_over p0 p1 p2) fun r3 =>
    some r3

def ref42_Locked (p0 : Table) (p1 : Inter) (p2 : Int) : Option Bool :=
  bindS (
    loopM (fun x3 =>
      if x3 < (p0.routes.length : Int) then
        bindM (
          bindM (ref21_Path p0 p1 x3) fun r8 =>
          bindM (ref02_Has r8 p2) fun r9 =>
          if r9 = true then
            some true
          else
            bindM (ref21_Over p0 p1 x3) fun r11 =>
            bindM (ref02_Has r11 p2) fun r12 =>
            some r12) fun x6 =>
        if x6 = true then
          inrM (
            inrM (
              some true))
        else
          guardM (I64 (x3 + (1 : Int))) <|
          some (.inl (x3 + (1 : Int)))
      else
        inrM (
          some (.inl ()))) (0 : Int)) fun _ =>
  some false

def ref42_Take (p0 : Table) (p1 : Inter) (p2 : (List Possession)) (p3 : Possession) : Option ((List Possession) × Int) :=
  bindM (
    bindM (ref16_Check p0) fun r3 =>
    if r3 = (0 : Int) then
      if p3.sectionV < (0 : Int) then
        some true
      else
        if p0.sections ≤ p3.sectionV then
          some true
        else
          if p3.byV = (⟨#[]⟩ : ByteArray) then
            some true
          else
            if p3.withV = (⟨#[]⟩ : ByteArray) then
              some true
            else
              some (decide (p3.byV = p3.withV))
    else
      some true) fun x1 =>
  if x1 = true then
    some (([] : List Possession), (1 : Int))
  else
    bindM (ref42_find p2 p3.sectionV) fun r10 =>
    if (0 : Int) ≤ r10 then
      some (([] : List Possession), (8 : Int))
    else
      if (16 : Int) ≤ (p2.length : Int) then
        some (([] : List Possession), (16 : Int))
      else
        bindM (ref42_Locked p0 p1 p3.sectionV) fun r13 =>
        if r13 = true then
          some (([] : List Possession), (12 : Int))
        else
          bindM (
            loopM (fun (x21, b22) =>
              bindM (
                if x21 < (p2.length : Int) then
                  getM p2 x21 fun e27 =>
                  some (decide (e27.sectionV < p3.sectionV))
                else
                  some false) fun x24 =>
              if x24 = true then
                getM p2 x21 fun e29 =>
                guardM ((b22 ++ ([e29] : List Possession)).length ≤ 1000000000) <|
                guardM (I64 (x21 + (1 : Int))) <|
                some (.inl ((x21 + (1 : Int)), (b22 ++ ([e29] : List Possession))))
              else
                inrM (
                  some (x21, b22))) ((0 : Int), ([] : List Possession))) fun (x15, b16) =>
          guardM ((b16 ++ ([p3] : List Possession)).length ≤ 1000000000) <|
          guardM (0 ≤ x15 ∧ x15 ≤ (p2.length : Int) ∧ (p2.length : Int) ≤ (p2.length : Int)) <|
          guardM (((b16 ++ ([p3] : List Possession)) ++ (sub p2 x15 (p2.length : Int))).length ≤ 1000000000) <|
          some (((b16 ++ ([p3] : List Possession)) ++ (sub p2 x15 (p2.length : Int))), (0 : Int))

def law42_PossessionTakes (p0 : Table) (p1 : Inter) (p2 : (List Possession)) (p3 : Possession) : Option Bool :=
  bindM (law42_small p0 p1 p2) fun r1 =>
  if (!(r1)) = true then
    bindM (law42_alive) fun r3 =>
    some r3
  else
    bindM (possession_Take p0 p1 p2 p3) fun (r5, r6) =>
    bindM (ref42_Take p0 p1 p2 p3) fun (r8, r9) =>
    bindM (
      bindM (ref42_Same r5 r8) fun r12 =>
      if r12 = true then
        if r6 = r9 then
          bindM (law42_alive) fun r15 =>
          some r15
        else
          some false
      else
        some false) fun x10 =>
    some x10

def ref42_Give (p0 : (List Possession)) (p1 : Int) (p2 : ByteArray) : Option ((List Possession) × Int) :=
  bindM (ref42_find p0 p1) fun r1 =>
  if r1 < (0 : Int) then
    some (([] : List Possession), (9 : Int))
  else
    bindM (
      getM p0 r1 fun e5 =>
      if p2 = e5.byV then
        some false
      else
        getM p0 r1 fun e7 =>
        some (!(decide (p2 = e7.withV)))) fun x3 =>
    if x3 = true then
      some (([] : List Possession), (13 : Int))
    else
      guardM (0 ≤ (0 : Int) ∧ (0 : Int) ≤ r1 ∧ r1 ≤ (p0.length : Int)) <|
      guardM ((([] : List Possession) ++ (sub p0 (0 : Int) r1)).length ≤ 1000000000) <|
      guardM (I64 (r1 + (1 : Int))) <|
      guardM (0 ≤ (r1 + (1 : Int)) ∧ (r1 + (1 : Int)) ≤ (p0.length : Int) ∧ (p0.length : Int) ≤ (p0.length : Int)) <|
      guardM (((([] : List Possession) ++ (sub p0 (0 : Int) r1)) ++ (sub p0 (r1 + (1 : Int)) (p0.length : Int))).length ≤ 1000000000) <|
      some (((([] : List Possession) ++ (sub p0 (0 : Int) r1)) ++ (sub p0 (r1 + (1 : Int)) (p0.length : Int))), (0 : Int))

def ref42_Closed (p0 : (List Possession)) (p1 : Int) : Option ((List Bool)) :=
  if ((decide (p1 < (0 : Int))) || (decide ((24 : Int) < p1))) = true then
    some ([] : List Bool)
  else
    guardM (0 ≤ p1 ∧ p1 ≤ 1000000000) <|
    bindM (
      loopM (fun (i9, b10) =>
        if i9 < p1 then
          bindM (ref42_find p0 i9) fun r13 =>
          getM b10 i9 fun e14 =>
          guardM (I64 (i9 + (1 : Int))) <|
          some (.inl ((i9 + (1 : Int)), (b10.set i9.toNat (decide ((0 : Int) ≤ r13)))))
        else
          inrM (
            some b10)) ((0 : Int), (List.replicate p1.toNat false))) fun b4 =>
    some b4

def law42_PossessionGives (p0 : (List Possession)) (p1 : Int) (p2 : ByteArray) (p3 : Int) : Option Bool :=
  if (1000 : Int) < (p0.length : Int) then
    bindM (law42_alive) fun r2 =>
    some r2
  else
    bindM (possession_Give p0 p1 p2) fun (r4, r5) =>
    bindM (ref42_Give p0 p1 p2) fun (r7, r8) =>
    bindM (
      bindM (ref42_Same r4 r7) fun r11 =>
      if r11 = true then
        if r5 = r8 then
          bindM (possession_Closed p0 p3) fun r14 =>
          bindM (ref42_Closed p0 p3) fun r15 =>
          bindM (ref42_SameBools r14 r15) fun r16 =>
          if r16 = true then
            bindM (law42_alive) fun r18 =>
            some r18
          else
            some false
        else
          some false
      else
        some false) fun x9 =>
    some x9

def law42_PossessionRestores (p0 : Table) (p1 : Inter) (p2 : (List Possession)) (p3 : Possession) (p4 : ByteArray) : Option Bool :=
  bindM (law42_small p0 p1 p2) fun r1 =>
  if (!(r1)) = true then
    bindM (law42_alive) fun r3 =>
    some r3
  else
    bindM (possession_Take p0 p1 p2 p3) fun (r5, r6) =>
    if r6 = (0 : Int) then
      bindM (possession_Closed p2 p0.sections) fun r12 =>
      bindM (possession_Closed r5 p0.sections) fun r13 =>
      if ((!(decide ((r12.length : Int) = p0.sections))) || (!(decide ((r13.length : Int) = p0.sections)))) = true then
        some false
      else
        bindS (
          loopM (fun x18 =>
            if x18 < (r13.length : Int) then
              bindM (
                getM r13 x18 fun e23 =>
                getM r12 x18 fun e24 =>
                if e24 = true then
                  some (!((e23 == true)))
                else
                  some (!((e23 == (decide (x18 = p3.sectionV)))))) fun x21 =>
              if x21 = true then
                inrM (
                  inrM (
                    some false))
              else
                guardM (I64 (x18 + (1 : Int))) <|
                some (.inl (x18 + (1 : Int)))
            else
              inrM (
                some (.inl ()))) (0 : Int)) fun _ =>
        bindM (possession_Give r5 p3.sectionV p3.byV) fun (r32, r33) =>
        bindM (possession_Give r5 p3.sectionV p3.withV) fun (r35, r36) =>
        bindM (possession_Give r5 p3.sectionV p4) fun (r38, r39) =>
        bindM (
          if r33 = (0 : Int) then
            if r36 = (0 : Int) then
              bindM (ref42_Same r32 p2) fun r44 =>
              if (!(r44)) = true then
                some true
              else
                bindM (ref42_Same r35 p2) fun r46 =>
                some (!(r46))
            else
              some true
          else
            some true) fun x40 =>
        if x40 = true then
          some false
        else
          bindM (
            if p4 = p3.byV then
              bindM (law42_alive) fun r56 =>
              some r56
            else
              if p4 = p3.withV then
                bindM (law42_alive) fun r55 =>
                some r55
              else
                if r39 = (13 : Int) then
                  if (r38.length : Int) = (0 : Int) then
                    bindM (law42_alive) fun r54 =>
                    some r54
                  else
                    some false
                else
                  some false) fun x48 =>
          some x48
    else
      bindM (
        if (r5.length : Int) = (0 : Int) then
          bindM (law42_alive) fun r11 =>
          some r11
        else
          some false) fun x8 =>
      some x8

def law42_ordered (p0 : (List Possession)) : Option Bool :=
  bindS (
    loopM (fun x3 =>
      if x3 < (p0.length : Int) then
        bindM (
          if (0 : Int) < x3 then
            guardM (I64 (x3 - (1 : Int))) <|
            getM p0 (x3 - (1 : Int)) fun e10 =>
            getM p0 x3 fun e11 =>
            some (decide (e11.sectionV ≤ e10.sectionV))
          else
            some false) fun x6 =>
        if x6 = true then
          inrM (
            inrM (
              some false))
        else
          guardM (I64 (x3 + (1 : Int))) <|
          some (.inl (x3 + (1 : Int)))
      else
        inrM (
          some (.inl ()))) (0 : Int)) fun _ =>
  some true

def law42_PossessionOrder (p0 : Table) (p1 : Inter) (p2 : (List Possession)) (p3 : Possession) (p4 : Int) : Option Bool :=
  bindM (
    bindM (law42_small p0 p1 p2) fun r3 =>
    if (!(r3)) = true then
      some true
    else
      bindM (law42_ordered p2) fun r5 =>
      some (!(r5))) fun x1 =>
  if x1 = true then
    bindM (law42_alive) fun r7 =>
    some r7
  else
    bindM (possession_Take p0 p1 p2 p3) fun (r9, r10) =>
    bindM (possession_Give p2 p4 p3.byV) fun (r12, r13) =>
    bindM (
      bindM (law42_ordered r9) fun r16 =>
      if r16 = true then
        bindM (law42_ordered r12) fun r18 =>
        if r18 = true then
          bindM (law42_alive) fun r20 =>
          some r20
        else
          some false
      else
        some false) fun x14 =>
    some x14

def law42_over (p0 : Route) (p1 : (List Possession)) : Option Bool :=
  bindS (
    loopM (fun x3 =>
      if x3 < (p1.length : Int) then
        bindS (
          getM p1 x3 fun e7 =>
          bindS (
            loopM (fun x10 =>
              if x10 < (p0.sections.length : Int) then
                getM p0.sections x10 fun e13 =>
                if e13 = e7.sectionV then
                  inrM (
                    inrM (
                      inrM (
                        inrM (
                          inrM (
                            some true)))))
                else
                  guardM (I64 (x10 + (1 : Int))) <|
                  some (.inl (x10 + (1 : Int)))
              else
                inrM (
                  some (.inl ()))) (0 : Int)) fun _ =>
          loopM (fun x23 =>
            if x23 < (p0.overSections.length : Int) then
              getM p0.overSections x23 fun e26 =>
              if e26 = e7.sectionV then
                inrM (
                  inrM (
                    inrM (
                      inrM (
                        some true))))
              else
                guardM (I64 (x23 + (1 : Int))) <|
                some (.inl (x23 + (1 : Int)))
            else
              inrM (
                some (.inl ()))) (0 : Int)) fun _ =>
        guardM (I64 (x3 + (1 : Int))) <|
        some (.inl (x3 + (1 : Int)))
      else
        inrM (
          some (.inl ()))) (0 : Int)) fun _ =>
  some false

def locks_locked (p0 : Route) (p1 : RouteState) : Option ((List A2_int)) :=
  bindM (
    bindM (locks_path p0 p1) fun r3 =>
    loopM (fun (x7, b8) =>
      if x7 < (r3.length : Int) then
        getM r3 x7 fun e11 =>
        guardM ((b8 ++ ([(⟨e11, (0 : Int)⟩ : A2_int)] : List A2_int)).length ≤ 1000000000) <|
        guardM (I64 (x7 + (1 : Int))) <|
        some (.inl ((x7 + (1 : Int)), (b8 ++ ([(⟨e11, (0 : Int)⟩ : A2_int)] : List A2_int))))
      else
        inrM (
          some b8)) ((0 : Int), ([] : List A2_int))) fun b1 =>
  bindM (
    bindM (locks_over p0 p1) fun r17 =>
    loopM (fun (x21, b22) =>
      if x21 < (r17.length : Int) then
        getM r17 x21 fun e25 =>
        guardM ((b22 ++ ([(⟨e25, (1 : Int)⟩ : A2_int)] : List A2_int)).length ≤ 1000000000) <|
        guardM (I64 (x21 + (1 : Int))) <|
        some (.inl ((x21 + (1 : Int)), (b22 ++ ([(⟨e25, (1 : Int)⟩ : A2_int)] : List A2_int))))
      else
        inrM (
          some b22)) ((0 : Int), b1)) fun b15 =>
  some b15

def conflict_Follows (p0 : Route) (p1 : Route) : Option Bool :=
  some ((decide ((0 : Int) ≤ p0.exit)) && (decide (p1.entry = p0.exit)))

def idset_Has (p0 : (List Int)) (p1 : Int) : Option Bool :=
  bindM (slices_Contains_int p0 p1) fun r1 =>
  some r1

def slices_Concat_Setting (p0 : List (List Setting)) : Option (List Setting) :=
  guardM (p0.length ≤ 1000 ∧ p0.flatten.length ≤ 1000000000) <|
  some p0.flatten

def cmp_isNaN_int (p0 : Int) : Option Bool :=
  some (!(decide (p0 = p0)))

def cmp_Compare_int (p0 : Int) (p1 : Int) : Option Int :=
  bindM (cmp_isNaN_int p0) fun r1 =>
  bindM (cmp_isNaN_int p1) fun r2 =>
  if r1 = true then
    if r2 = true then
      some (0 : Int)
    else
      some (-1 : Int)
  else
    if r2 = true then
      some (1 : Int)
    else
      if p0 < p1 then
        some (-1 : Int)
      else
        if p1 < p0 then
          some (1 : Int)
        else
          some (0 : Int)

def cmp_Or_int (p0 : (List Int)) : Option Int :=
  bindS (
    loopM (fun x3 =>
      if x3 < (p0.length : Int) then
        getM p0 x3 fun e6 =>
        if e6 = (0 : Int) then
          guardM (I64 (x3 + (1 : Int))) <|
          some (.inl (x3 + (1 : Int)))
        else
          inrM (
            inrM (
              some e6))
      else
        inrM (
          some (.inl ()))) (0 : Int)) fun _ =>
  some (0 : Int)

def table_Settings_c1 (p0 : Setting) (p1 : Setting) : Option Int :=
  bindM (cmp_Compare_int p0.el p1.el) fun r1 =>
  bindM (cmp_Compare_int p0.pos p1.pos) fun r2 =>
  bindM (cmp_Or_int ([r1, r2] : List Int)) fun r3 =>
  some r3

def locks_restrictive (p0 : (List Bool)) (p1 : Int) : Option Bool :=
  bindM (
    if p1 < (0 : Int) then
      some true
    else
      if (p0.length : Int) ≤ p1 then
        some true
      else
        getM p0 p1 fun e5 =>
        some e5) fun x1 =>
  some x1

end Go.Proofs.Ythkgkolgdkcngaa
