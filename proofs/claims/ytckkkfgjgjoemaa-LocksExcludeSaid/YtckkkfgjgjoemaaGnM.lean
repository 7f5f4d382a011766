/- The functions, as partial functions on plain values. No condition. -/
import Derived.Test.YtckkkfgjgjoemaaGnT
set_option maxHeartbeats 400000
set_option linter.unusedSimpArgs false
set_option linter.unusedVariables false
set_option maxRecDepth 20000
namespace Go.Proofs.Ytckkkfgjgjoemaa
open Go Go.TL

def law21_Small (p0 : Table) (p1 : Inter) : Option Bool :=
  bindS (
    loopM (fun x3 =>
      if x3 < (p0.routes.length : Int) then
        getM p0.routes x3 fun e6 =>
        if ((decide ((30 : Int) < (e6.sections.length : Int))) || ((decide ((30 : Int) < (e6.overSections.length : Int))) || ((decide ((30 : Int) < (e6.points.length : Int))) || ((decide ((30 : Int) < (e6.overPoints.length : Int))) || ((decide ((30 : Int) < (e6.flank.length : Int))) || (decide ((30 : Int) < (e6.path.length : Int)))))))) = true then
          inrM (
            inrM (
              some false))
        else
          guardM (I64 (x3 + (1 : Int))) <|
          some (.inl (x3 + (1 : Int)))
      else
        inrM (
          some (.inl ()))) (0 : Int)) fun _ =>
  some ((decide ((p0.routes.length : Int) ≤ (50 : Int))) && ((decide ((p0.points.length : Int) ≤ (40 : Int))) && ((decide ((p0.homes.length : Int) ≤ (40 : Int))) && ((decide ((p1.routes.length : Int) ≤ (50 : Int))) && (decide ((p1.lies.length : Int) ≤ (40 : Int)))))))

def law21_Table  : Option Table :=
  some (⟨([(⟨(⟨#[97]⟩ : ByteArray), (0 : Int), (1 : Int), ([(⟨(0 : Int), (0 : Int), (1 : Int)⟩ : Step)] : List Step), ([] : List Setting), ([(1 : Int), (2 : Int)] : List Int), (0 : Int), (1 : Int), ([] : List Step), ([(⟨(5 : Int), (1 : Int)⟩ : Setting)] : List Setting), ([(3 : Int)] : List Int), ([] : List Setting), ([] : List Int), ([] : List End)⟩ : Route), (⟨(⟨#[98]⟩ : ByteArray), (1 : Int), (-1 : Int), ([(⟨(0 : Int), (0 : Int), (1 : Int)⟩ : Step)] : List Step), ([(⟨(5 : Int), (1 : Int)⟩ : Setting)] : List Setting), ([(3 : Int), (4 : Int)] : List Int), (2 : Int), (1 : Int), ([] : List Step), ([] : List Setting), ([] : List Int), ([] : List Setting), ([] : List Int), ([] : List End)⟩ : Route)] : List Route), ([(5 : Int)] : List Int), ([(3 : Int)] : List Int), (5 : Int), (2 : Int)⟩ : Table)

def table_within (p0 : Int) (p1 : Int) : Option Bool :=
  some ((decide ((0 : Int) ≤ p0)) && (decide (p0 < p1)))

def table_pointsRight (p0 : Table) : Option Bool :=
  if (p0.homes.length : Int) = (p0.points.length : Int) then
    bindS (
      loopM (fun x4 =>
        if x4 < (p0.points.length : Int) then
          getM p0.points x4 fun e7 =>
          bindM (
            if e7 < (0 : Int) then
              some true
            else
              if (0 : Int) < x4 then
                guardM (I64 (x4 - (1 : Int))) <|
                getM p0.points (x4 - (1 : Int)) fun e15 =>
                if e7 ≤ e15 then
                  some true
                else
                  getM p0.homes x4 fun e17 =>
                  bindM (table_within e17 p0.sections) fun r18 =>
                  some (!(r18))
              else
                getM p0.homes x4 fun e12 =>
                bindM (table_within e12 p0.sections) fun r13 =>
                some (!(r13))) fun x8 =>
          if x8 = true then
            inrM (
              inrM (
                some false))
          else
            guardM (I64 (x4 + (1 : Int))) <|
            some (.inl (x4 + (1 : Int)))
        else
          inrM (
            some (.inl ()))) (0 : Int)) fun _ =>
    some true
  else
    some false

def slices_Concat_int (p0 : List (List Int)) : Option (List Int) :=
  guardM (p0.length ≤ 1000 ∧ p0.flatten.length ≤ 1000000000) <|
  some p0.flatten

def table_routeRight (p0 : Table) (p1 : Route) : Option Bool :=
  bindM (
    bindM (table_within p1.entry p0.signals) fun r3 =>
    if (!(r3)) = true then
      some true
    else
      if p1.exit = (-1 : Int) then
        some false
      else
        bindM (table_within p1.exit p0.signals) fun r6 =>
        some (!(r6))) fun x1 =>
  if x1 = true then
    some false
  else
    if ((decide ((p1.path.length : Int) < (1 : Int))) || ((decide ((12 : Int) < (p1.path.length : Int))) || (decide ((p1.sections.length : Int) = (0 : Int))))) = true then
      some false
    else
      bindS (
        bindM (slices_Concat_int ([p1.sections, p1.overSections] : List (List Int))) fun r13 =>
        loopM (fun (x17, b18) =>
          if x17 < (r13.length : Int) then
            getM r13 x17 fun e21 =>
            bindM (
              bindM (table_within e21 p0.sections) fun r24 =>
              if (!(r24)) = true then
                some true
              else
                guardM (e21 < 24) <|
                getM b18 e21 fun e26 =>
                some e26) fun x22 =>
            if x22 = true then
              inrM (
                inrM (
                  some false))
            else
              guardM (e21 < 24) <|
              getM b18 e21 fun e31 =>
              guardM (I64 (x17 + (1 : Int))) <|
              some (.inl ((x17 + (1 : Int)), (b18.set e21.toNat true)))
          else
            inrM (
              some (.inl b18))) ((0 : Int), (List.replicate 24 false))) fun b11 =>
      bindM (
        bindM (table_within p1.approach p0.sections) fun r37 =>
        if r37 = true then
          some (decide ((1 : Int) ≤ p1.length))
        else
          some false) fun x35 =>
      some x35

def slices_Index_int (p0 : (List Int)) (p1 : Int) : Option Int :=
  bindS (
    loopM (fun x3 =>
      if x3 < (p0.length : Int) then
        getM p0 x3 fun e6 =>
        if p1 = e6 then
          inrM (
            inrM (
              some x3))
        else
          guardM (I64 (x3 + (1 : Int))) <|
          some (.inl (x3 + (1 : Int)))
      else
        inrM (
          some (.inl ()))) (0 : Int)) fun _ =>
  some (-1 : Int)

def table_Index (p0 : Table) (p1 : Int) : Option Int :=
  bindM (slices_Index_int p0.points p1) fun r1 =>
  some r1

def table_settingsRight (p0 : Table) (p1 : (List Setting)) : Option Bool :=
  bindS (
    loopM (fun x3 =>
      if x3 < (p1.length : Int) then
        getM p1 x3 fun e6 =>
        bindM (
          if (0 : Int) < x3 then
            guardM (I64 (x3 - (1 : Int))) <|
            getM p1 (x3 - (1 : Int)) fun e12 =>
            if e6.el ≤ e12.el then
              some true
            else
              bindM (table_Index p0 e6.el) fun r14 =>
              some (decide (r14 < (0 : Int)))
          else
            bindM (table_Index p0 e6.el) fun r10 =>
            some (decide (r10 < (0 : Int)))) fun x7 =>
        if x7 = true then
          inrM (
            inrM (
              some false))
        else
          if ((!(decide (e6.pos = (1 : Int)))) && (!(decide (e6.pos = (2 : Int))))) = true then
            inrM (
              inrM (
                some false))
          else
            guardM (I64 (x3 + (1 : Int))) <|
            some (.inl (x3 + (1 : Int)))
      else
        inrM (
          some (.inl ()))) (0 : Int)) fun _ =>
  some true

def conflict_Agree (p0 : (List Setting)) (p1 : (List Setting)) : Option Bool :=
  bindS (
    loopM (fun x3 =>
      if x3 < (p0.length : Int) then
        bindS (
          getM p0 x3 fun e7 =>
          loopM (fun x9 =>
            if x9 < (p1.length : Int) then
              getM p1 x9 fun e12 =>
              if ((decide (e7.el = e12.el)) && (!(decide (e7.pos = e12.pos)))) = true then
                inrM (
                  inrM (
                    inrM (
                      inrM (
                        some false))))
              else
                guardM (I64 (x9 + (1 : Int))) <|
                some (.inl (x9 + (1 : Int)))
            else
              inrM (
                some (.inl ()))) (0 : Int)) fun _ =>
        guardM (I64 (x3 + (1 : Int))) <|
        some (.inl (x3 + (1 : Int)))
      else
        inrM (
          some (.inl ()))) (0 : Int)) fun _ =>
  some true

def table_Check (p0 : Table) : Option Int :=
  bindM (
    if (48 : Int) < (p0.routes.length : Int) then
      some true
    else
      if (32 : Int) < (p0.points.length : Int) then
        some true
      else
        bindM (table_within p0.sections (25 : Int)) fun r5 =>
        if (!(r5)) = true then
          some true
        else
          bindM (table_within p0.signals (21 : Int)) fun r7 =>
          some (!(r7))) fun x1 =>
  if x1 = true then
    some (2 : Int)
  else
    bindM (table_pointsRight p0) fun r9 =>
    if (!(r9)) = true then
      some (1 : Int)
    else
      bindS (
        loopM (fun x13 =>
          if x13 < (p0.routes.length : Int) then
            getM p0.routes x13 fun e16 =>
            bindM (table_routeRight p0 e16) fun r17 =>
            if (!(r17)) = true then
              inrM (
                inrM (
                  some (1 : Int)))
            else
              guardM (I64 (x13 + (1 : Int))) <|
              some (.inl (x13 + (1 : Int)))
          else
            inrM (
              some (.inl ()))) (0 : Int)) fun _ =>
      bindS (
        loopM (fun x25 =>
          if x25 < (p0.routes.length : Int) then
            getM p0.routes x25 fun e28 =>
            bindM (
              bindM (table_settingsRight p0 e28.points) fun r31 =>
              if (!(r31)) = true then
                some true
              else
                bindM (table_settingsRight p0 e28.overPoints) fun r33 =>
                if (!(r33)) = true then
                  some true
                else
                  bindM (table_settingsRight p0 e28.flank) fun r35 =>
                  some (!(r35))) fun x29 =>
            if x29 = true then
              inrM (
                inrM (
                  some (1 : Int)))
            else
              guardM (I64 (x25 + (1 : Int))) <|
              some (.inl (x25 + (1 : Int)))
          else
            inrM (
              some (.inl ()))) (0 : Int)) fun _ =>
      bindS (
        loopM (fun x43 =>
          if x43 < (p0.routes.length : Int) then
            getM p0.routes x43 fun e46 =>
            bindM (
              bindM (conflict_Agree e46.points e46.overPoints) fun r49 =>
              if (!(r49)) = true then
                some true
              else
                bindM (conflict_Agree e46.points e46.flank) fun r51 =>
                if (!(r51)) = true then
                  some true
                else
                  bindM (conflict_Agree e46.overPoints e46.flank) fun r53 =>
                  some (!(r53))) fun x47 =>
            if x47 = true then
              inrM (
                inrM (
                  some (10 : Int)))
            else
              guardM (I64 (x43 + (1 : Int))) <|
              some (.inl (x43 + (1 : Int)))
          else
            inrM (
              some (.inl ()))) (0 : Int)) fun _ =>
      bindS (
        loopM (fun (x64, b65) =>
          if x64 < (p0.routes.length : Int) then
            getM p0.routes x64 fun e68 =>
            guardM (b65.map (·.1)).Nodup <|
            if (((assocE b65 e68.name).getD false)) = true then
              inrM (
                inrM (
                  some (8 : Int)))
            else
              guardM (b65.map (·.1)).Nodup <|
              guardM (I64 (x64 + (1 : Int))) <|
              some (.inl ((x64 + (1 : Int)), (putE b65 e68.name true)))
          else
            inrM (
              some (.inl b65))) ((0 : Int), ([] : List (ByteArray × Bool)))) fun m59 =>
      some (0 : Int)

def locks_routeFits (p0 : RouteState) (p1 : Int) : Option Bool :=
  bindM (
    if p0.state = (0 : Int) then
      some (decide (p0.state = (0 : Int)))
    else
      if p0.state = (1 : Int) then
        some (decide (p0.state = (1 : Int)))
      else
        some (decide (p0.state = (2 : Int)))) fun x1 =>
  if x1 = true then
    some ((decide (p0.rel = (0 : Int))) && (decide (p0.timer = (0 : Int))))
  else
    if p0.state = (3 : Int) then
      if ((decide (p0.rel < (0 : Int))) || (decide (p1 ≤ p0.rel))) = true then
        some false
      else
        bindM (
          if p0.timer = (0 : Int) then
            some true
          else
            guardM (I64 (p1 - (1 : Int))) <|
            if p0.rel = (p1 - (1 : Int)) then
              if (0 : Int) < p0.timer then
                some (decide (p0.timer < (4 : Int)))
              else
                some false
            else
              some false) fun x10 =>
        some x10
    else
      if p0.state = (4 : Int) then
        some ((decide ((0 : Int) ≤ p0.rel)) && ((decide (p0.rel < p1)) && ((decide ((0 : Int) ≤ p0.timer)) && (decide (p0.timer < (12 : Int))))))
      else
        some false

def locks_fits (p0 : Table) (p1 : Inter) : Option Bool :=
  bindM (
    bindM (table_Check p0) fun r3 =>
    if r3 = (0 : Int) then
      if (p1.routes.length : Int) = (p0.routes.length : Int) then
        some (!(decide ((p1.lies.length : Int) = (p0.points.length : Int))))
      else
        some true
    else
      some true) fun x1 =>
  if x1 = true then
    some false
  else
    bindS (
      loopM (fun x9 =>
        if x9 < (p1.routes.length : Int) then
          getM p1.routes x9 fun e12 =>
          getM p0.routes x9 fun e13 =>
          bindM (locks_routeFits e12 (e13.sections.length : Int)) fun r14 =>
          if (!(r14)) = true then
            inrM (
              inrM (
                some false))
          else
            guardM (I64 (x9 + (1 : Int))) <|
            some (.inl (x9 + (1 : Int)))
        else
          inrM (
            some (.inl ()))) (0 : Int)) fun _ =>
    bindS (
      loopM (fun x22 =>
        if x22 < (p1.lies.length : Int) then
          getM p1.lies x22 fun e25 =>
          if ((!(decide (e25 = (1 : Int)))) && (!(decide (e25 = (2 : Int))))) = true then
            inrM (
              inrM (
                some false))
          else
            guardM (I64 (x22 + (1 : Int))) <|
            some (.inl (x22 + (1 : Int)))
        else
          inrM (
            some (.inl ()))) (0 : Int)) fun _ =>
    some true

def slices_Clone_int (p0 : (List Int)) : Option ((List Int)) :=
  nilM p0 (
    some ([] : List Int)) (
    guardM ((([] : List Int) ++ p0).length ≤ 1000000000) <|
    some (([] : List Int) ++ p0))

def locks_path (p0 : Route) (p1 : RouteState) : Option ((List Int)) :=
  if p1.state = (0 : Int) then
    some ([] : List Int)
  else
    guardM (0 ≤ p1.rel ∧ p1.rel ≤ (p0.sections.length : Int) ∧ (p0.sections.length : Int) ≤ (p0.sections.length : Int)) <|
    bindM (slices_Clone_int (sub p0.sections p1.rel (p0.sections.length : Int))) fun r3 =>
    some r3

def locks_Path (p0 : Table) (p1 : Inter) (p2 : Int) : Option ((List Int)) :=
  bindM (
    if p2 < (0 : Int) then
      some true
    else
      if (p0.routes.length : Int) ≤ p2 then
        some true
      else
        bindM (locks_fits p0 p1) fun r5 =>
        some (!(r5))) fun x1 =>
  if x1 = true then
    some ([] : List Int)
  else
    getM p0.routes p2 fun e7 =>
    getM p1.routes p2 fun e8 =>
    bindM (locks_path e7 e8) fun r9 =>
    some r9

def law21_ints (p0 : (List Int)) (p1 : (List Int)) : Option Bool :=
  if (p0.length : Int) = (p1.length : Int) then
    bindS (
      loopM (fun x4 =>
        if x4 < (p0.length : Int) then
          getM p0 x4 fun e7 =>
          getM p1 x4 fun e8 =>
          if e7 = e8 then
            guardM (I64 (x4 + (1 : Int))) <|
            some (.inl (x4 + (1 : Int)))
          else
            inrM (
              inrM (
                some false))
        else
          inrM (
            some (.inl ()))) (0 : Int)) fun _ =>
    some true
  else
    some false

def locks_over (p0 : Route) (p1 : RouteState) : Option ((List Int)) :=
  if p1.state = (0 : Int) then
    some ([] : List Int)
  else
    bindM (slices_Clone_int p0.overSections) fun r2 =>
    some r2

def locks_Over (p0 : Table) (p1 : Inter) (p2 : Int) : Option ((List Int)) :=
  bindM (
    if p2 < (0 : Int) then
      some true
    else
      if (p0.routes.length : Int) ≤ p2 then
        some true
      else
        bindM (locks_fits p0 p1) fun r5 =>
        some (!(r5))) fun x1 =>
  if x1 = true then
    some ([] : List Int)
  else
    getM p0.routes p2 fun e7 =>
    getM p1.routes p2 fun e8 =>
    bindM (locks_over e7 e8) fun r9 =>
    some r9

def slices_Contains_int (p0 : (List Int)) (p1 : Int) : Option Bool :=
  bindM (slices_Index_int p0 p1) fun r1 =>
  some (decide ((0 : Int) ≤ r1))

def idset_Has (p0 : (List Int)) (p1 : Int) : Option Bool :=
  bindM (slices_Contains_int p0 p1) fun r1 =>
  some r1

def slices_Concat_Setting (p0 : List (List Setting)) : Option (List Setting) :=
  guardM (p0.length ≤ 1000 ∧ p0.flatten.length ≤ 1000000000) <|
  some p0.flatten

def cmp_isNaN_int (p0 : Int) : Option Bool :=
  some (!(decide (p0 = p0)))

def cmp_Compare_int (p0 : Int) (p1 : Int) : Option Int :=
  bindM (cmp_isNaN_int p0) fun r1 =>
  bindM (cmp_isNaN_int p1) fun r2 =>
  if r1 = true then
    if r2 = true then
      some (0 : Int)
    else
      some (-1 : Int)
  else
    if r2 = true then
      some (1 : Int)
    else
      if p0 < p1 then
        some (-1 : Int)
      else
        if p1 < p0 then
          some (1 : Int)
        else
          some (0 : Int)

def cmp_Or_int (p0 : (List Int)) : Option Int :=
  bindS (
    loopM (fun x3 =>
      if x3 < (p0.length : Int) then
        getM p0 x3 fun e6 =>
        if e6 = (0 : Int) then
          guardM (I64 (x3 + (1 : Int))) <|
          some (.inl (x3 + (1 : Int)))
        else
          inrM (
            inrM (
              some e6))
      else
        inrM (
          some (.inl ()))) (0 : Int)) fun _ =>
  some (0 : Int)

def table_Settings_c1 (p0 : Setting) (p1 : Setting) : Option Int :=
  bindM (cmp_Compare_int p0.el p1.el) fun r1 =>
  bindM (cmp_Compare_int p0.pos p1.pos) fun r2 =>
  bindM (cmp_Or_int ([r1, r2] : List Int)) fun r3 =>
  some r3

def table_Settings (p0 : Route) : Option ((List Setting)) :=
  bindM (slices_Concat_Setting ([p0.points, p0.overPoints, p0.flank] : List (List Setting))) fun r1 =>
  guardM (r1.length ≤ 1000000000) <|
  bindM (
    loopM (fun (x8, b9) =>
      if x8 < ((sortM table_Settings_c1 r1).length : Int) then
        getM (sortM table_Settings_c1 r1) x8 fun e12 =>
        bindM (
          if x8 = (0 : Int) then
            some true
          else
            guardM (I64 (x8 - (1 : Int))) <|
            getM (sortM table_Settings_c1 r1) (x8 - (1 : Int)) fun e17 =>
            guardM (Setting.ok e12 ∧ Setting.ok e17) <|
            some (!(decide (e12 = e17)))) fun x13 =>
        if x13 = true then
          guardM ((b9 ++ ([e12] : List Setting)).length ≤ 1000000000) <|
          guardM (I64 (x8 + (1 : Int))) <|
          some (.inl ((x8 + (1 : Int)), (b9 ++ ([e12] : List Setting))))
        else
          guardM (I64 (x8 + (1 : Int))) <|
          some (.inl ((x8 + (1 : Int)), b9))
      else
        inrM (
          some b9)) ((0 : Int), ([] : List Setting))) fun b3 =>
  some b3

def locks_bound (p0 : Table) (p1 : Route) (p2 : RouteState) : Option ((List Setting)) :=
  if p2.state = (0 : Int) then
    some ([] : List Setting)
  else
    bindM (
      loopM (fun (x7, b8) =>
        if x7 < (p1.points.length : Int) then
          getM p1.points x7 fun e11 =>
          guardM (0 ≤ (0 : Int) ∧ (0 : Int) ≤ p2.rel ∧ p2.rel ≤ (p1.sections.length : Int)) <|
          bindM (table_Index p0 e11.el) fun r13 =>
          getM p0.homes r13 fun e14 =>
          bindM (idset_Has (sub p1.sections (0 : Int) p2.rel) e14) fun r15 =>
          if (!(r15)) = true then
            guardM ((b8 ++ ([e11] : List Setting)).length ≤ 1000000000) <|
            guardM (I64 (x7 + (1 : Int))) <|
            some (.inl ((x7 + (1 : Int)), (b8 ++ ([e11] : List Setting))))
          else
            guardM (I64 (x7 + (1 : Int))) <|
            some (.inl ((x7 + (1 : Int)), b8))
        else
          inrM (
            some b8)) ((0 : Int), ([] : List Setting))) fun b2 =>
    bindM (table_Settings (⟨(⟨#[]⟩ : ByteArray), (0 : Int), (0 : Int), ([] : List Step), b2, ([] : List Int), (0 : Int), (0 : Int), ([] : List Step), p1.overPoints, ([] : List Int), p1.flank, ([] : List Int), ([] : List End)⟩ : Route)) fun r21 =>
    some r21

def locks_Bound (p0 : Table) (p1 : Inter) (p2 : Int) : Option ((List Setting)) :=
  bindM (
    if p2 < (0 : Int) then
      some true
    else
      if (p0.routes.length : Int) ≤ p2 then
        some true
      else
        bindM (locks_fits p0 p1) fun r5 =>
        some (!(r5))) fun x1 =>
  if x1 = true then
    some ([] : List Setting)
  else
    getM p0.routes p2 fun e7 =>
    getM p1.routes p2 fun e8 =>
    bindM (locks_bound p0 e7 e8) fun r9 =>
    some r9

def locks_locked (p0 : Route) (p1 : RouteState) : Option ((List A2_int)) :=
  bindM (
    bindM (locks_path p0 p1) fun r3 =>
    loopM (fun (x7, b8) =>
      if x7 < (r3.length : Int) then
        getM r3 x7 fun e11 =>
        guardM ((b8 ++ ([(⟨e11, (0 : Int)⟩ : A2_int)] : List A2_int)).length ≤ 1000000000) <|
        guardM (I64 (x7 + (1 : Int))) <|
        some (.inl ((x7 + (1 : Int)), (b8 ++ ([(⟨e11, (0 : Int)⟩ : A2_int)] : List A2_int))))
      else
        inrM (
          some b8)) ((0 : Int), ([] : List A2_int))) fun b1 =>
  bindM (
    bindM (locks_over p0 p1) fun r17 =>
    loopM (fun (x21, b22) =>
      if x21 < (r17.length : Int) then
        getM r17 x21 fun e25 =>
        guardM ((b22 ++ ([(⟨e25, (1 : Int)⟩ : A2_int)] : List A2_int)).length ≤ 1000000000) <|
        guardM (I64 (x21 + (1 : Int))) <|
        some (.inl ((x21 + (1 : Int)), (b22 ++ ([(⟨e25, (1 : Int)⟩ : A2_int)] : List A2_int))))
      else
        inrM (
          some b22)) ((0 : Int), b1)) fun b15 =>
  some b15

def conflict_Follows (p0 : Route) (p1 : Route) : Option Bool :=
  some ((decide ((0 : Int) ≤ p0.exit)) && (decide (p1.entry = p0.exit)))

def locks_has (p0 : (List A2_int)) (p1 : Int) (p2 : Int) : Option Bool :=
  bindS (
    loopM (fun x3 =>
      if x3 < (p0.length : Int) then
        getM p0 x3 fun e6 =>
        guardM (A2_int.ok e6 ∧ A2_int.ok (⟨p1, p2⟩ : A2_int)) <|
        if e6 = (⟨p1, p2⟩ : A2_int) then
          inrM (
            inrM (
              some true))
        else
          guardM (I64 (x3 + (1 : Int))) <|
          some (.inl (x3 + (1 : Int)))
      else
        inrM (
          some (.inl ()))) (0 : Int)) fun _ =>
  some false

def locks_clash (p0 : Route) (p1 : Route) (p2 : (List A2_int)) (p3 : (List A2_int)) : Option Bool :=
  bindM (conflict_Follows p0 p1) fun r1 =>
  bindM (conflict_Follows p1 p0) fun r2 =>
  bindS (
    loopM (fun x5 =>
      if x5 < (p2.length : Int) then
        getM p2 x5 fun e8 =>
        bindM (
          bindM (locks_has p3 e8.a0 (0 : Int)) fun r11 =>
          if r11 = true then
            if e8.a1 = (0 : Int) then
              some true
            else
              some (!(r1))
          else
            some false) fun x9 =>
        if x9 = true then
          inrM (
            inrM (
              some true))
        else
          bindM (
            bindM (locks_has p3 e8.a0 (1 : Int)) fun r19 =>
            if r19 = true then
              if (!(r2)) = true then
                if e8.a1 = (0 : Int) then
                  some true
                else
                  some (!(r1))
              else
                some false
            else
              some false) fun x17 =>
          if x17 = true then
            inrM (
              inrM (
                some true))
          else
            guardM (I64 (x5 + (1 : Int))) <|
            some (.inl (x5 + (1 : Int)))
      else
        inrM (
          some (.inl ()))) (0 : Int)) fun _ =>
  some false

def locks_Sound (p0 : Table) (p1 : Inter) : Option Bool :=
  bindM (locks_fits p0 p1) fun r1 =>
  if (!(r1)) = true then
    some false
  else
    bindM (
      loopM (fun (x8, b9) =>
        if x8 < (p0.routes.length : Int) then
          getM p0.routes x8 fun e12 =>
          getM p1.routes x8 fun e13 =>
          bindM (locks_locked e12 e13) fun r14 =>
          guardM ((b9 ++ ([r14] : List (List A2_int))).length ≤ 1000000000) <|
          guardM (I64 (x8 + (1 : Int))) <|
          some (.inl ((x8 + (1 : Int)), (b9 ++ ([r14] : List (List A2_int)))))
        else
          inrM (
            some b9)) ((0 : Int), ([] : List (List A2_int)))) fun b3 =>
    bindS (
      loopM (fun x20 =>
        if x20 < (p0.routes.length : Int) then
          bindS (
            loopM (fun x25 =>
              if x25 < x20 then
                getM p0.routes x20 fun e28 =>
                getM p0.routes x25 fun e29 =>
                getM b3 x20 fun e30 =>
                getM b3 x25 fun e31 =>
                bindM (locks_clash e28 e29 e30 e31) fun r32 =>
                if r32 = true then
                  inrM (
                    inrM (
                      inrM (
                        inrM (
                          some false))))
                else
                  guardM (I64 (x25 + (1 : Int))) <|
                  some (.inl (x25 + (1 : Int)))
              else
                inrM (
                  some (.inl ()))) (0 : Int)) fun _ =>
          guardM (I64 (x20 + (1 : Int))) <|
          some (.inl (x20 + (1 : Int)))
        else
          inrM (
            some (.inl ()))) (0 : Int)) fun _ =>
    bindS (
      loopM (fun x44 =>
        if x44 < (p0.routes.length : Int) then
          bindS (
            getM p0.routes x44 fun e48 =>
            getM p1.routes x44 fun e49 =>
            bindM (locks_bound p0 e48 e49) fun r50 =>
            loopM (fun x52 =>
              if x52 < (r50.length : Int) then
                getM r50 x52 fun e55 =>
                bindM (table_Index p0 e55.el) fun r56 =>
                getM p1.lies r56 fun e57 =>
                if e57 = e55.pos then
                  guardM (I64 (x52 + (1 : Int))) <|
                  some (.inl (x52 + (1 : Int)))
                else
                  inrM (
                    inrM (
                      inrM (
                        inrM (
                          some false))))
              else
                inrM (
                  some (.inl ()))) (0 : Int)) fun _ =>
          guardM (I64 (x44 + (1 : Int))) <|
          some (.inl (x44 + (1 : Int)))
        else
          inrM (
            some (.inl ()))) (0 : Int)) fun _ =>
    some true

def locks_restrictive (p0 : (List Bool)) (p1 : Int) : Option Bool :=
  bindM (
    if p1 < (0 : Int) then
      some true
    else
      if (p0.length : Int) ≤ p1 then
        some true
      else
        getM p0 p1 fun e5 =>
        some e5) fun x1 =>
  some x1

def locks_Free (p0 : Table) (p1 : Inter) (p2 : Inputs) (p3 : Int) : Option Int :=
  bindM (
    bindM (locks_Sound p0 p1) fun r3 =>
    if (!(r3)) = true then
      some true
    else
      if p3 < (0 : Int) then
        some true
      else
        some (decide ((p0.routes.length : Int) ≤ p3))) fun x1 =>
  if x1 = true then
    some (1 : Int)
  else
    getM p1.routes p3 fun e7 =>
    if e7.state = (0 : Int) then
      getM p0.routes p3 fun e9 =>
      bindM (locks_locked e9 (⟨(1 : Int), (0 : Int), (0 : Int)⟩ : RouteState)) fun r10 =>
      bindS (
        loopM (fun x13 =>
          if x13 < (r10.length : Int) then
            getM r10 x13 fun e16 =>
            bindM (locks_restrictive p2.closed e16.a0) fun r17 =>
            if r17 = true then
              inrM (
                inrM (
                  some (13 : Int)))
            else
              guardM (I64 (x13 + (1 : Int))) <|
              some (.inl (x13 + (1 : Int)))
          else
            inrM (
              some (.inl ()))) (0 : Int)) fun _ =>
      bindS (
        loopM (fun x25 =>
          if x25 < (p0.routes.length : Int) then
            getM p0.routes x25 fun e28 =>
            bindM (
              if x25 = p3 then
                some false
              else
                getM p1.routes x25 fun e32 =>
                bindM (locks_locked e28 e32) fun r33 =>
                bindM (locks_clash e9 e28 r10 r33) fun r34 =>
                some r34) fun x29 =>
            if x29 = true then
              inrM (
                inrM (
                  some (12 : Int)))
            else
              guardM (I64 (x25 + (1 : Int))) <|
              some (.inl (x25 + (1 : Int)))
          else
            inrM (
              some (.inl ()))) (0 : Int)) fun _ =>
      bindM (table_Settings e9) fun r40 =>
      bindS (
        loopM (fun x43 =>
          if x43 < (p0.routes.length : Int) then
            getM p0.routes x43 fun e46 =>
            bindM (
              if x43 = p3 then
                some false
              else
                getM p1.routes x43 fun e50 =>
                bindM (locks_bound p0 e46 e50) fun r51 =>
                bindM (conflict_Agree r40 r51) fun r52 =>
                some (!(r52))) fun x47 =>
            if x47 = true then
              inrM (
                inrM (
                  some (10 : Int)))
            else
              guardM (I64 (x43 + (1 : Int))) <|
              some (.inl (x43 + (1 : Int)))
          else
            inrM (
              some (.inl ()))) (0 : Int)) fun _ =>
      bindS (
        loopM (fun x60 =>
          if x60 < (r40.length : Int) then
            getM r40 x60 fun e63 =>
            bindM (table_Index p0 e63.el) fun r64 =>
            bindM (
              getM p1.lies r64 fun e67 =>
              if e67 = e63.pos then
                some false
              else
                getM p0.homes r64 fun e69 =>
                bindM (locks_restrictive p2.occupied e69) fun r70 =>
                some r70) fun x65 =>
            if x65 = true then
              inrM (
                inrM (
                  some (14 : Int)))
            else
              guardM (I64 (x60 + (1 : Int))) <|
              some (.inl (x60 + (1 : Int)))
          else
            inrM (
              some (.inl ()))) (0 : Int)) fun _ =>
      some (0 : Int)
    else
      some (11 : Int)

def law21_alive  : Option Bool :=
  bindM (law21_Table) fun r1 =>
  guardM (0 ≤ (5 : Int) ∧ (5 : Int) ≤ 1000000000) <|
  guardM (0 ≤ (5 : Int) ∧ (5 : Int) ≤ 1000000000) <|
  bindM (
    bindM (locks_Path r1 (⟨([(⟨(1 : Int), (0 : Int), (0 : Int)⟩ : RouteState), (⟨(0 : Int), (0 : Int), (0 : Int)⟩ : RouteState)] : List RouteState), ([(1 : Int)] : List Int)⟩ : Inter) (0 : Int)) fun r6 =>
    bindM (law21_ints r6 ([(1 : Int), (2 : Int)] : List Int)) fun r7 =>
    if (!(r7)) = true then
      some true
    else
      bindM (locks_Over r1 (⟨([(⟨(1 : Int), (0 : Int), (0 : Int)⟩ : RouteState), (⟨(0 : Int), (0 : Int), (0 : Int)⟩ : RouteState)] : List RouteState), ([(1 : Int)] : List Int)⟩ : Inter) (0 : Int)) fun r9 =>
      bindM (law21_ints r9 ([(3 : Int)] : List Int)) fun r10 =>
      if (!(r10)) = true then
        some true
      else
        bindM (locks_Bound r1 (⟨([(⟨(1 : Int), (0 : Int), (0 : Int)⟩ : RouteState), (⟨(0 : Int), (0 : Int), (0 : Int)⟩ : RouteState)] : List RouteState), ([(1 : Int)] : List Int)⟩ : Inter) (0 : Int)) fun r12 =>
        if (r12.length : Int) = (1 : Int) then
          bindM (locks_Path r1 (⟨([(⟨(1 : Int), (0 : Int), (0 : Int)⟩ : RouteState), (⟨(0 : Int), (0 : Int), (0 : Int)⟩ : RouteState)] : List RouteState), ([(1 : Int)] : List Int)⟩ : Inter) (1 : Int)) fun r14 =>
          if (r14.length : Int) = (0 : Int) then
            bindM (locks_Sound r1 (⟨([(⟨(1 : Int), (0 : Int), (0 : Int)⟩ : RouteState), (⟨(0 : Int), (0 : Int), (0 : Int)⟩ : RouteState)] : List RouteState), ([(1 : Int)] : List Int)⟩ : Inter)) fun r16 =>
            some (!(r16))
          else
            some true
        else
          some true) fun x4 =>
  if x4 = true then
    some false
  else
    bindM (
      bindM (locks_Free r1 (⟨([(⟨(1 : Int), (0 : Int), (0 : Int)⟩ : RouteState), (⟨(0 : Int), (0 : Int), (0 : Int)⟩ : RouteState)] : List RouteState), ([(1 : Int)] : List Int)⟩ : Inter) (⟨(List.replicate (5 : Int).toNat false), ([] : List Int), (List.replicate (5 : Int).toNat false), ([] : List Bool), ([] : List Bool), ([] : List Int), ([] : List Int)⟩ : Inputs) (1 : Int)) fun r20 =>
      if r20 = (0 : Int) then
        bindM (locks_Free r1 (⟨([(⟨(1 : Int), (0 : Int), (0 : Int)⟩ : RouteState), (⟨(0 : Int), (0 : Int), (0 : Int)⟩ : RouteState)] : List RouteState), ([(1 : Int)] : List Int)⟩ : Inter) (⟨(List.replicate (5 : Int).toNat false), ([] : List Int), (List.replicate (5 : Int).toNat false), ([] : List Bool), ([] : List Bool), ([] : List Int), ([] : List Int)⟩ : Inputs) (0 : Int)) fun r22 =>
        if r22 = (11 : Int) then
          bindM (locks_Path r1 (⟨([(⟨(3 : Int), (1 : Int), (0 : Int)⟩ : RouteState), (⟨(0 : Int), (0 : Int), (0 : Int)⟩ : RouteState)] : List RouteState), ([(2 : Int)] : List Int)⟩ : Inter) (0 : Int)) fun r24 =>
          bindM (law21_ints r24 ([(2 : Int)] : List Int)) fun r25 =>
          if r25 = true then
            bindM (locks_Sound r1 (⟨([(⟨(3 : Int), (1 : Int), (0 : Int)⟩ : RouteState), (⟨(0 : Int), (0 : Int), (0 : Int)⟩ : RouteState)] : List RouteState), ([(2 : Int)] : List Int)⟩ : Inter)) fun r27 =>
            some (!(r27))
          else
            some false
        else
          some false
      else
        some false) fun x18 =>
    some x18

def ref16_sections (p0 : Table) (p1 : (List Int)) : Option Bool :=
  bindS (
    loopM (fun x3 =>
      if x3 < (p1.length : Int) then
        bindS (
          getM p1 x3 fun e7 =>
          if ((decide (e7 < (0 : Int))) || (decide (p0.sections ≤ e7))) = true then
            inrM (
              inrM (
                inrM (
                  some false)))
          else
            loopM (fun x14 =>
              if x14 < x3 then
                getM p1 x14 fun e17 =>
                if e17 = e7 then
                  inrM (
                    inrM (
                      inrM (
                        inrM (
                          some false))))
                else
                  guardM (I64 (x14 + (1 : Int))) <|
                  some (.inl (x14 + (1 : Int)))
              else
                inrM (
                  some (.inl ()))) (0 : Int)) fun _ =>
        guardM (I64 (x3 + (1 : Int))) <|
        some (.inl (x3 + (1 : Int)))
      else
        inrM (
          some (.inl ()))) (0 : Int)) fun _ =>
  some true

def ref16_right (p0 : Table) (p1 : Route) : Option Bool :=
  if ((decide (p1.entry < (0 : Int))) || ((decide (p0.signals ≤ p1.entry)) || ((decide (p1.exit < (-1 : Int))) || ((decide (p0.signals ≤ p1.exit)) || ((decide ((p1.path.length : Int) < (1 : Int))) || ((decide ((12 : Int) < (p1.path.length : Int))) || (decide (p1.length < (1 : Int))))))))) = true then
    some false
  else
    guardM ((([] : List Int) ++ p1.sections).length ≤ 1000000000) <|
    guardM (((([] : List Int) ++ p1.sections) ++ p1.overSections).length ≤ 1000000000) <|
    bindM (
      if (0 : Int) < (p1.sections.length : Int) then
        bindM (ref16_sections p0 ((([] : List Int) ++ p1.sections) ++ p1.overSections)) fun r13 =>
        if r13 = true then
          if (0 : Int) ≤ p1.approach then
            some (decide (p1.approach < p0.sections))
          else
            some false
        else
          some false
      else
        some false) fun x10 =>
    some x10

def ref16_Index (p0 : Table) (p1 : Int) : Option Int :=
  bindS (
    loopM (fun x3 =>
      if x3 < (p0.points.length : Int) then
        getM p0.points x3 fun e6 =>
        if e6 = p1 then
          inrM (
            inrM (
              some x3))
        else
          guardM (I64 (x3 + (1 : Int))) <|
          some (.inl (x3 + (1 : Int)))
      else
        inrM (
          some (.inl ()))) (0 : Int)) fun _ =>
  some (-1 : Int)

def ref16_settings (p0 : Table) (p1 : (List Setting)) : Option Bool :=
  bindS (
    loopM (fun x3 =>
      if x3 < (p1.length : Int) then
        getM p1 x3 fun e6 =>
        bindM (
          bindM (ref16_Index p0 e6.el) fun r9 =>
          if r9 < (0 : Int) then
            some true
          else
            if e6.pos < (1 : Int) then
              some true
            else
              if (2 : Int) < e6.pos then
                some true
              else
                if (0 : Int) < x3 then
                  guardM (I64 (x3 - (1 : Int))) <|
                  getM p1 (x3 - (1 : Int)) fun e15 =>
                  some (decide (e6.el ≤ e15.el))
                else
                  some false) fun x7 =>
        if x7 = true then
          inrM (
            inrM (
              some false))
        else
          guardM (I64 (x3 + (1 : Int))) <|
          some (.inl (x3 + (1 : Int)))
      else
        inrM (
          some (.inl ()))) (0 : Int)) fun _ =>
  some true

def ref16_agree (p0 : (List Setting)) (p1 : (List Setting)) : Option Bool :=
  bindS (
    loopM (fun x3 =>
      if x3 < (p0.length : Int) then
        bindS (
          getM p0 x3 fun e7 =>
          loopM (fun x9 =>
            if x9 < (p1.length : Int) then
              getM p1 x9 fun e12 =>
              if ((decide (e7.el = e12.el)) && (!(decide (e7.pos = e12.pos)))) = true then
                inrM (
                  inrM (
                    inrM (
                      inrM (
                        some false))))
              else
                guardM (I64 (x9 + (1 : Int))) <|
                some (.inl (x9 + (1 : Int)))
            else
              inrM (
                some (.inl ()))) (0 : Int)) fun _ =>
        guardM (I64 (x3 + (1 : Int))) <|
        some (.inl (x3 + (1 : Int)))
      else
        inrM (
          some (.inl ()))) (0 : Int)) fun _ =>
  some true

def ref16_Find (p0 : Table) (p1 : ByteArray) : Option Int :=
  bindS (
    loopM (fun x3 =>
      if x3 < (p0.routes.length : Int) then
        getM p0.routes x3 fun e6 =>
        if e6.name = p1 then
          inrM (
            inrM (
              some x3))
        else
          guardM (I64 (x3 + (1 : Int))) <|
          some (.inl (x3 + (1 : Int)))
      else
        inrM (
          some (.inl ()))) (0 : Int)) fun _ =>
  some (-1 : Int)

def ref16_Check (p0 : Table) : Option Int :=
  if ((decide ((48 : Int) < (p0.routes.length : Int))) || ((decide ((32 : Int) < (p0.points.length : Int))) || ((decide (p0.sections < (0 : Int))) || ((decide ((24 : Int) < p0.sections)) || ((decide (p0.signals < (0 : Int))) || (decide ((20 : Int) < p0.signals))))))) = true then
    some (2 : Int)
  else
    if (p0.homes.length : Int) = (p0.points.length : Int) then
      bindS (
        loopM (fun x10 =>
          if x10 < (p0.points.length : Int) then
            getM p0.points x10 fun e13 =>
            bindM (
              if e13 < (0 : Int) then
                some true
              else
                if (0 : Int) < x10 then
                  guardM (I64 (x10 - (1 : Int))) <|
                  getM p0.points (x10 - (1 : Int)) fun e22 =>
                  if e13 ≤ e22 then
                    some true
                  else
                    getM p0.homes x10 fun e24 =>
                    if e24 < (0 : Int) then
                      some true
                    else
                      getM p0.homes x10 fun e26 =>
                      some (decide (p0.sections ≤ e26))
                else
                  getM p0.homes x10 fun e18 =>
                  if e18 < (0 : Int) then
                    some true
                  else
                    getM p0.homes x10 fun e20 =>
                    some (decide (p0.sections ≤ e20))) fun x14 =>
            if x14 = true then
              inrM (
                inrM (
                  some (1 : Int)))
            else
              guardM (I64 (x10 + (1 : Int))) <|
              some (.inl (x10 + (1 : Int)))
          else
            inrM (
              some (.inl ()))) (0 : Int)) fun _ =>
      bindS (
        loopM (fun x34 =>
          if x34 < (p0.routes.length : Int) then
            getM p0.routes x34 fun e37 =>
            bindM (
              bindM (ref16_right p0 e37) fun r40 =>
              if (!(r40)) = true then
                some true
              else
                bindM (ref16_settings p0 e37.points) fun r42 =>
                if (!(r42)) = true then
                  some true
                else
                  bindM (ref16_settings p0 e37.overPoints) fun r44 =>
                  if (!(r44)) = true then
                    some true
                  else
                    bindM (ref16_settings p0 e37.flank) fun r46 =>
                    some (!(r46))) fun x38 =>
            if x38 = true then
              inrM (
                inrM (
                  some (1 : Int)))
            else
              guardM (I64 (x34 + (1 : Int))) <|
              some (.inl (x34 + (1 : Int)))
          else
            inrM (
              some (.inl ()))) (0 : Int)) fun _ =>
      bindS (
        loopM (fun x54 =>
          if x54 < (p0.routes.length : Int) then
            getM p0.routes x54 fun e57 =>
            bindM (
              bindM (ref16_agree e57.points e57.overPoints) fun r60 =>
              if (!(r60)) = true then
                some true
              else
                bindM (ref16_agree e57.points e57.flank) fun r62 =>
                if (!(r62)) = true then
                  some true
                else
                  bindM (ref16_agree e57.overPoints e57.flank) fun r64 =>
                  some (!(r64))) fun x58 =>
            if x58 = true then
              inrM (
                inrM (
                  some (10 : Int)))
            else
              guardM (I64 (x54 + (1 : Int))) <|
              some (.inl (x54 + (1 : Int)))
          else
            inrM (
              some (.inl ()))) (0 : Int)) fun _ =>
      bindS (
        loopM (fun x72 =>
          if x72 < (p0.routes.length : Int) then
            getM p0.routes x72 fun e75 =>
            bindM (ref16_Find p0 e75.name) fun r76 =>
            if r76 = x72 then
              guardM (I64 (x72 + (1 : Int))) <|
              some (.inl (x72 + (1 : Int)))
            else
              inrM (
                inrM (
                  some (8 : Int)))
          else
            inrM (
              some (.inl ()))) (0 : Int)) fun _ =>
      some (0 : Int)
    else
      some (1 : Int)

def ref21_fitsRoute (p0 : RouteState) (p1 : Int) : Option Bool :=
  bindM (
    if p0.state = (0 : Int) then
      some (decide (p0.state = (0 : Int)))
    else
      if p0.state = (1 : Int) then
        some (decide (p0.state = (1 : Int)))
      else
        some (decide (p0.state = (2 : Int)))) fun x1 =>
  if x1 = true then
    some ((decide (p0.rel = (0 : Int))) && (decide (p0.timer = (0 : Int))))
  else
    if p0.state = (3 : Int) then
      bindM (
        if (0 : Int) ≤ p0.rel then
          if p0.rel < p1 then
            if (0 : Int) ≤ p0.timer then
              if p0.timer < (4 : Int) then
                if p0.timer = (0 : Int) then
                  some true
                else
                  guardM (I64 (p1 - (1 : Int))) <|
                  some (decide (p0.rel = (p1 - (1 : Int))))
              else
                some false
            else
              some false
          else
            some false
        else
          some false) fun x8 =>
      some x8
    else
      if p0.state = (4 : Int) then
        some ((decide ((0 : Int) ≤ p0.rel)) && ((decide (p0.rel < p1)) && ((decide ((0 : Int) ≤ p0.timer)) && (decide (p0.timer < (12 : Int))))))
      else
        some false

def ref21_Fits (p0 : Table) (p1 : Inter) : Option Bool :=
  bindM (
    bindM (ref16_Check p0) fun r3 =>
    if r3 = (0 : Int) then
      if (p1.routes.length : Int) = (p0.routes.length : Int) then
        some (!(decide ((p1.lies.length : Int) = (p0.points.length : Int))))
      else
        some true
    else
      some true) fun x1 =>
  if x1 = true then
    some false
  else
    bindS (
      loopM (fun x9 =>
        if x9 < (p1.routes.length : Int) then
          getM p1.routes x9 fun e12 =>
          getM p0.routes x9 fun e13 =>
          bindM (ref21_fitsRoute e12 (e13.sections.length : Int)) fun r14 =>
          if (!(r14)) = true then
            inrM (
              inrM (
                some false))
          else
            guardM (I64 (x9 + (1 : Int))) <|
            some (.inl (x9 + (1 : Int)))
        else
          inrM (
            some (.inl ()))) (0 : Int)) fun _ =>
    bindS (
      loopM (fun x22 =>
        if x22 < (p1.lies.length : Int) then
          bindM (
            getM p1.lies x22 fun e27 =>
            if e27 = (1 : Int) then
              some false
            else
              getM p1.lies x22 fun e29 =>
              some (!(decide (e29 = (2 : Int))))) fun x25 =>
          if x25 = true then
            inrM (
              inrM (
                some false))
          else
            guardM (I64 (x22 + (1 : Int))) <|
            some (.inl (x22 + (1 : Int)))
        else
          inrM (
            some (.inl ()))) (0 : Int)) fun _ =>
    some true

def ref21_locked (p0 : Table) (p1 : Inter) (p2 : Int) : Option Bool :=
  bindM (
    if (0 : Int) ≤ p2 then
      if p2 < (p0.routes.length : Int) then
        bindM (ref21_Fits p0 p1) fun r5 =>
        if r5 = true then
          getM p1.routes p2 fun e7 =>
          some (!(decide (e7.state = (0 : Int))))
        else
          some false
      else
        some false
    else
      some false) fun x1 =>
  some x1

def ref21_path (p0 : Table) (p1 : Inter) (p2 : Int) : Option ((List Int)) :=
  getM p1.routes p2 fun e1 =>
  if e1.state = (0 : Int) then
    some ([] : List Int)
  else
    getM p0.routes p2 fun e3 =>
    getM p1.routes p2 fun e4 =>
    guardM (0 ≤ e4.rel ∧ e4.rel ≤ (e3.sections.length : Int) ∧ (e3.sections.length : Int) ≤ (e3.sections.length : Int)) <|
    guardM ((([] : List Int) ++ (sub e3.sections e4.rel (e3.sections.length : Int))).length ≤ 1000000000) <|
    some (([] : List Int) ++ (sub e3.sections e4.rel (e3.sections.length : Int)))

def ref21_Path (p0 : Table) (p1 : Inter) (p2 : Int) : Option ((List Int)) :=
  bindM (ref21_locked p0 p1 p2) fun r1 =>
  if (!(r1)) = true then
    some ([] : List Int)
  else
    bindM (ref21_path p0 p1 p2) fun r3 =>
    some r3

def ref21_over (p0 : Table) (p1 : Inter) (p2 : Int) : Option ((List Int)) :=
  getM p1.routes p2 fun e1 =>
  if e1.state = (0 : Int) then
    some ([] : List Int)
  else
    getM p0.routes p2 fun e3 =>
    guardM ((([] : List Int) ++ e3.overSections).length ≤ 1000000000) <|
    some (([] : List Int) ++ e3.overSections)

def ref21_Over (p0 : Table) (p1 : Inter) (p2 : Int) : Option ((List Int)) :=
  bindM (ref21_locked p0 p1 p2) fun r1 =>
  if (!(r1)) = true then
    some ([] : List Int)
  else
    bindM (ref21_over p0 p1 p2) fun r3 =>
    some r3

def ref16_less (p0 : Setting) (p1 : Setting) : Option Bool :=
  some ((decide (p0.el < p1.el)) || ((decide (p0.el = p1.el)) && (decide (p0.pos < p1.pos))))

def ref16_Settings (p0 : Route) : Option ((List Setting)) :=
  guardM ((([] : List Setting) ++ p0.points).length ≤ 1000000000) <|
  guardM (((([] : List Setting) ++ p0.points) ++ p0.overPoints).length ≤ 1000000000) <|
  guardM ((((([] : List Setting) ++ p0.points) ++ p0.overPoints) ++ p0.flank).length ≤ 1000000000) <|
  loopM (fun b5 =>
    bindM (
      loopM (fun (found11, x12) =>
        if x12 < ((((([] : List Setting) ++ p0.points) ++ p0.overPoints) ++ p0.flank).length : Int) then
          getM (((([] : List Setting) ++ p0.points) ++ p0.overPoints) ++ p0.flank) x12 fun e15 =>
          bindM (
            if (b5.length : Int) = (0 : Int) then
              if found11 < (0 : Int) then
                some true
              else
                getM (((([] : List Setting) ++ p0.points) ++ p0.overPoints) ++ p0.flank) found11 fun e27 =>
                bindM (ref16_less e15 e27) fun r28 =>
                some r28
            else
              guardM (I64 ((b5.length : Int) - (1 : Int))) <|
              getM b5 ((b5.length : Int) - (1 : Int)) fun e20 =>
              bindM (ref16_less e20 e15) fun r21 =>
              if r21 = true then
                if found11 < (0 : Int) then
                  some true
                else
                  getM (((([] : List Setting) ++ p0.points) ++ p0.overPoints) ++ p0.flank) found11 fun e24 =>
                  bindM (ref16_less e15 e24) fun r25 =>
                  some r25
              else
                some false) fun x16 =>
          if x16 = true then
            guardM (I64 (x12 + (1 : Int))) <|
            some (.inl (x12, (x12 + (1 : Int))))
          else
            guardM (I64 (x12 + (1 : Int))) <|
            some (.inl (found11, (x12 + (1 : Int))))
        else
          inrM (
            some found11)) ((-1 : Int), (0 : Int))) fun found7 =>
    if found7 < (0 : Int) then
      inrM (
        some b5)
    else
      getM (((([] : List Setting) ++ p0.points) ++ p0.overPoints) ++ p0.flank) found7 fun e35 =>
      guardM ((b5 ++ ([e35] : List Setting)).length ≤ 1000000000) <|
      some (.inl (b5 ++ ([e35] : List Setting)))) ([] : List Setting)

def ref21_has (p0 : (List Setting)) (p1 : Setting) : Option Bool :=
  bindS (
    loopM (fun i3 =>
      if i3 < (p0.length : Int) then
        getM p0 i3 fun e6 =>
        guardM (Setting.ok e6 ∧ Setting.ok p1) <|
        if e6 = p1 then
          inrM (
            inrM (
              some true))
        else
          guardM (I64 (i3 + (1 : Int))) <|
          some (.inl (i3 + (1 : Int)))
      else
        inrM (
          some (.inl ()))) (0 : Int)) fun _ =>
  some false

def ref02_Has (p0 : (List Int)) (p1 : Int) : Option Bool :=
  bindS (
    loopM (fun i3 =>
      if i3 < (p0.length : Int) then
        getM p0 i3 fun e6 =>
        if e6 = p1 then
          inrM (
            inrM (
              some true))
        else
          guardM (I64 (i3 + (1 : Int))) <|
          some (.inl (i3 + (1 : Int)))
      else
        inrM (
          some (.inl ()))) (0 : Int)) fun _ =>
  some false

def ref21_bound (p0 : Table) (p1 : Inter) (p2 : Int) : Option ((List Setting)) :=
  getM p1.routes p2 fun e1 =>
  if e1.state = (0 : Int) then
    some ([] : List Setting)
  else
    getM p0.routes p2 fun e3 =>
    getM p1.routes p2 fun e4 =>
    guardM (0 ≤ (0 : Int) ∧ (0 : Int) ≤ e4.rel ∧ e4.rel ≤ (e3.sections.length : Int)) <|
    bindM (ref16_Settings e3) fun r6 =>
    bindM (
      loopM (fun (x12, b13) =>
        if x12 < (r6.length : Int) then
          getM r6 x12 fun e16 =>
          bindM (ref16_Index p0 e16.el) fun r17 =>
          bindM (
            getM r6 x12 fun e20 =>
            bindM (ref21_has e3.points e20) fun r21 =>
            if r21 = true then
              getM p0.homes r17 fun e23 =>
              bindM (ref02_Has (sub e3.sections (0 : Int) e4.rel) e23) fun r24 =>
              some (!(r24))
            else
              some false) fun x18 =>
          bindM (
            if x18 = true then
              some true
            else
              getM r6 x12 fun e28 =>
              bindM (ref21_has e3.overPoints e28) fun r29 =>
              if r29 = true then
                some true
              else
                getM r6 x12 fun e31 =>
                bindM (ref21_has e3.flank e31) fun r32 =>
                some r32) fun x25 =>
          if x25 = true then
            getM r6 x12 fun e34 =>
            guardM ((b13 ++ ([e34] : List Setting)).length ≤ 1000000000) <|
            guardM (I64 (x12 + (1 : Int))) <|
            some (.inl ((x12 + (1 : Int)), (b13 ++ ([e34] : List Setting))))
          else
            guardM (I64 (x12 + (1 : Int))) <|
            some (.inl ((x12 + (1 : Int)), b13))
        else
          inrM (
            some b13)) ((0 : Int), ([] : List Setting))) fun b7 =>
    some b7

def ref21_Bound (p0 : Table) (p1 : Inter) (p2 : Int) : Option ((List Setting)) :=
  bindM (ref21_locked p0 p1 p2) fun r1 =>
  if (!(r1)) = true then
    some ([] : List Setting)
  else
    bindM (ref21_bound p0 p1 p2) fun r3 =>
    some r3

def law21_settings (p0 : (List Setting)) (p1 : (List Setting)) : Option Bool :=
  if (p0.length : Int) = (p1.length : Int) then
    bindS (
      loopM (fun x4 =>
        if x4 < (p0.length : Int) then
          getM p0 x4 fun e7 =>
          getM p1 x4 fun e8 =>
          guardM (Setting.ok e7 ∧ Setting.ok e8) <|
          if e7 = e8 then
            guardM (I64 (x4 + (1 : Int))) <|
            some (.inl (x4 + (1 : Int)))
          else
            inrM (
              inrM (
                some false))
        else
          inrM (
            some (.inl ()))) (0 : Int)) fun _ =>
    some true
  else
    some false

def law21_LocksOf (p0 : Table) (p1 : Inter) (p2 : Int) : Option Bool :=
  bindM (law21_Small p0 p1) fun r1 =>
  if (!(r1)) = true then
    bindM (law21_alive) fun r3 =>
    some r3
  else
    bindM (
      bindM (locks_Path p0 p1 p2) fun r6 =>
      bindM (ref21_Path p0 p1 p2) fun r7 =>
      bindM (law21_ints r6 r7) fun r8 =>
      if r8 = true then
        bindM (locks_Over p0 p1 p2) fun r10 =>
        bindM (ref21_Over p0 p1 p2) fun r11 =>
        bindM (law21_ints r10 r11) fun r12 =>
        if r12 = true then
          bindM (locks_Bound p0 p1 p2) fun r14 =>
          bindM (ref21_Bound p0 p1 p2) fun r15 =>
          bindM (law21_settings r14 r15) fun r16 =>
          if r16 = true then
            bindM (law21_alive) fun r18 =>
            some r18
          else
            some false
        else
          some false
      else
        some false) fun x4 =>
    some x4

def ref21_meet (p0 : (List Int)) (p1 : (List Int)) : Option Bool :=
  bindS (
    loopM (fun i3 =>
      if i3 < (p0.length : Int) then
        getM p0 i3 fun e6 =>
        bindM (ref02_Has p1 e6) fun r7 =>
        if r7 = true then
          inrM (
            inrM (
              some true))
        else
          guardM (I64 (i3 + (1 : Int))) <|
          some (.inl (i3 + (1 : Int)))
      else
        inrM (
          some (.inl ()))) (0 : Int)) fun _ =>
  some false

def ref21_follows (p0 : Table) (p1 : Int) (p2 : Int) : Option Bool :=
  bindM (
    getM p0.routes p1 fun e3 =>
    if (0 : Int) ≤ e3.exit then
      getM p0.routes p2 fun e5 =>
      getM p0.routes p1 fun e6 =>
      some (decide (e5.entry = e6.exit))
    else
      some false) fun x1 =>
  some x1

def ref21_apart (p0 : Table) (p1 : Inter) (p2 : Int) (p3 : Int) : Option Bool :=
  bindM (
    bindM (ref21_path p0 p1 p2) fun r3 =>
    bindM (ref21_path p0 p1 p3) fun r4 =>
    bindM (ref21_meet r3 r4) fun r5 =>
    if r5 = true then
      some true
    else
      bindM (ref21_over p0 p1 p2) fun r7 =>
      bindM (ref21_path p0 p1 p3) fun r8 =>
      bindM (ref21_meet r7 r8) fun r9 =>
      if r9 = true then
        bindM (ref21_follows p0 p2 p3) fun r11 =>
        some (!(r11))
      else
        some false) fun x1 =>
  if x1 = true then
    some false
  else
    bindM (
      bindM (ref21_over p0 p1 p2) fun r15 =>
      bindM (ref21_over p0 p1 p3) fun r16 =>
      bindM (ref21_meet r15 r16) fun r17 =>
      if (!(r17)) = true then
        some true
      else
        bindM (ref21_follows p0 p2 p3) fun r19 =>
        if r19 = true then
          some true
        else
          bindM (ref21_follows p0 p3 p2) fun r21 =>
          some r21) fun x13 =>
    some x13

def ref21_Sound (p0 : Table) (p1 : Inter) : Option Bool :=
  bindM (ref21_Fits p0 p1) fun r1 =>
  if (!(r1)) = true then
    some false
  else
    bindS (
      loopM (fun x5 =>
        if x5 < (p0.routes.length : Int) then
          bindS (
            bindM (ref21_bound p0 p1 x5) fun r9 =>
            bindS (
              loopM (fun x12 =>
                if x12 < (r9.length : Int) then
                  getM r9 x12 fun e15 =>
                  bindM (ref16_Index p0 e15.el) fun r16 =>
                  getM p1.lies r16 fun e17 =>
                  getM r9 x12 fun e18 =>
                  if e17 = e18.pos then
                    guardM (I64 (x12 + (1 : Int))) <|
                    some (.inl (x12 + (1 : Int)))
                  else
                    inrM (
                      inrM (
                        inrM (
                          inrM (
                            inrM (
                              some false)))))
                else
                  inrM (
                    some (.inl ()))) (0 : Int)) fun _ =>
            loopM (fun x28 =>
              if x28 < (p0.routes.length : Int) then
                bindM (
                  if x5 = x28 then
                    some false
                  else
                    bindM (ref21_apart p0 p1 x5 x28) fun r34 =>
                    some (!(r34))) fun x31 =>
                if x31 = true then
                  inrM (
                    inrM (
                      inrM (
                        inrM (
                          some false))))
                else
                  guardM (I64 (x28 + (1 : Int))) <|
                  some (.inl (x28 + (1 : Int)))
              else
                inrM (
                  some (.inl ()))) (0 : Int)) fun _ =>
          guardM (I64 (x5 + (1 : Int))) <|
          some (.inl (x5 + (1 : Int)))
        else
          inrM (
            some (.inl ()))) (0 : Int)) fun _ =>
    some true

def law21_LocksSound (p0 : Table) (p1 : Inter) : Option Bool :=
  bindM (
    bindM (law21_Small p0 p1) fun r3 =>
    if (!(r3)) = true then
      some true
    else
      bindM (locks_Sound p0 p1) fun r5 =>
      bindM (ref21_Sound p0 p1) fun r6 =>
      if ((r5 == r6)) = true then
        bindM (law21_alive) fun r8 =>
        some r8
      else
        some false) fun x1 =>
  some x1

def ref21_Closed (p0 : Inputs) (p1 : Int) : Option Bool :=
  bindM (
    if p1 < (0 : Int) then
      some true
    else
      if (p0.closed.length : Int) ≤ p1 then
        some true
      else
        getM p0.closed p1 fun e5 =>
        some e5) fun x1 =>
  some x1

def ref21_busy (p0 : Table) (p1 : Inter) (p2 : Int) : Option Bool :=
  getM p0.routes p2 fun e1 =>
  bindS (
    loopM (fun x4 =>
      if x4 < (p0.routes.length : Int) then
        if x4 = p2 then
          guardM (I64 (x4 + (1 : Int))) <|
          some (.inl (x4 + (1 : Int)))
        else
          bindM (ref21_path p0 p1 x4) fun r9 =>
          bindM (ref21_over p0 p1 x4) fun r10 =>
          bindM (
            bindM (ref21_meet e1.sections r9) fun r13 =>
            if r13 = true then
              some true
            else
              bindM (ref21_meet e1.sections r10) fun r15 =>
              if r15 = true then
                bindM (ref21_follows p0 x4 p2) fun r20 =>
                if (!(r20)) = true then
                  some true
                else
                  bindM (ref21_meet e1.overSections r9) fun r22 =>
                  if r22 = true then
                    bindM (ref21_follows p0 p2 x4) fun r24 =>
                    some (!(r24))
                  else
                    some false
              else
                bindM (ref21_meet e1.overSections r9) fun r17 =>
                if r17 = true then
                  bindM (ref21_follows p0 p2 x4) fun r19 =>
                  some (!(r19))
                else
                  some false) fun x11 =>
          if x11 = true then
            inrM (
              inrM (
                some true))
          else
            bindM (
              bindM (ref21_meet e1.overSections r10) fun r30 =>
              if r30 = true then
                bindM (ref21_follows p0 x4 p2) fun r32 =>
                if (!(r32)) = true then
                  bindM (ref21_follows p0 p2 x4) fun r34 =>
                  some (!(r34))
                else
                  some false
              else
                some false) fun x28 =>
            if x28 = true then
              inrM (
                inrM (
                  some true))
            else
              guardM (I64 (x4 + (1 : Int))) <|
              some (.inl (x4 + (1 : Int)))
      else
        inrM (
          some (.inl ()))) (0 : Int)) fun _ =>
  some false

def ref21_contradicted (p0 : Table) (p1 : Inter) (p2 : Int) : Option Bool :=
  getM p0.routes p2 fun e1 =>
  bindM (ref16_Settings e1) fun r2 =>
  bindS (
    loopM (fun x5 =>
      if x5 < (p0.routes.length : Int) then
        bindS (
          bindM (ref21_bound p0 p1 x5) fun r9 =>
          loopM (fun x11 =>
            if ((decide (x11 < (r9.length : Int))) && (!(decide (x5 = p2)))) = true then
              bindS (
                loopM (fun x17 =>
                  if x17 < (r2.length : Int) then
                    bindM (
                      getM r2 x17 fun e22 =>
                      getM r9 x11 fun e23 =>
                      if e22.el = e23.el then
                        getM r2 x17 fun e25 =>
                        getM r9 x11 fun e26 =>
                        some (!(decide (e25.pos = e26.pos)))
                      else
                        some false) fun x20 =>
                    if x20 = true then
                      inrM (
                        inrM (
                          inrM (
                            inrM (
                              inrM (
                                inrM (
                                  some true))))))
                    else
                      guardM (I64 (x17 + (1 : Int))) <|
                      some (.inl (x17 + (1 : Int)))
                  else
                    inrM (
                      some (.inl ()))) (0 : Int)) fun _ =>
              guardM (I64 (x11 + (1 : Int))) <|
              some (.inl (x11 + (1 : Int)))
            else
              inrM (
                some (.inl ()))) (0 : Int)) fun _ =>
        guardM (I64 (x5 + (1 : Int))) <|
        some (.inl (x5 + (1 : Int)))
      else
        inrM (
          some (.inl ()))) (0 : Int)) fun _ =>
  some false

def ref21_occupied (p0 : Inputs) (p1 : Int) : Option Bool :=
  bindM (
    if p1 < (0 : Int) then
      some true
    else
      if (p0.occupied.length : Int) ≤ p1 then
        some true
      else
        getM p0.occupied p1 fun e5 =>
        some e5) fun x1 =>
  some x1

def ref21_Free (p0 : Table) (p1 : Inter) (p2 : Inputs) (p3 : Int) : Option Int :=
  bindM (
    bindM (ref21_Sound p0 p1) fun r3 =>
    if (!(r3)) = true then
      some true
    else
      if p3 < (0 : Int) then
        some true
      else
        some (decide ((p0.routes.length : Int) ≤ p3))) fun x1 =>
  if x1 = true then
    some (1 : Int)
  else
    getM p1.routes p3 fun e7 =>
    if e7.state = (0 : Int) then
      getM p0.routes p3 fun e9 =>
      bindS (
        loopM (fun x12 =>
          if x12 < (e9.sections.length : Int) then
            getM e9.sections x12 fun e15 =>
            bindM (ref21_Closed p2 e15) fun r16 =>
            if r16 = true then
              inrM (
                inrM (
                  some (13 : Int)))
            else
              guardM (I64 (x12 + (1 : Int))) <|
              some (.inl (x12 + (1 : Int)))
          else
            inrM (
              some (.inl ()))) (0 : Int)) fun _ =>
      bindS (
        loopM (fun x24 =>
          if x24 < (e9.overSections.length : Int) then
            getM e9.overSections x24 fun e27 =>
            bindM (ref21_Closed p2 e27) fun r28 =>
            if r28 = true then
              inrM (
                inrM (
                  some (13 : Int)))
            else
              guardM (I64 (x24 + (1 : Int))) <|
              some (.inl (x24 + (1 : Int)))
          else
            inrM (
              some (.inl ()))) (0 : Int)) fun _ =>
      bindM (ref21_busy p0 p1 p3) fun r34 =>
      if r34 = true then
        some (12 : Int)
      else
        bindM (ref21_contradicted p0 p1 p3) fun r36 =>
        if r36 = true then
          some (10 : Int)
        else
          bindM (ref16_Settings e9) fun r38 =>
          bindS (
            loopM (fun x41 =>
              if x41 < (r38.length : Int) then
                getM r38 x41 fun e44 =>
                bindM (ref16_Index p0 e44.el) fun r45 =>
                bindM (
                  getM p1.lies r45 fun e48 =>
                  getM r38 x41 fun e49 =>
                  if e48 = e49.pos then
                    some false
                  else
                    getM p0.homes r45 fun e51 =>
                    bindM (ref21_occupied p2 e51) fun r52 =>
                    some r52) fun x46 =>
                if x46 = true then
                  inrM (
                    inrM (
                      some (14 : Int)))
                else
                  guardM (I64 (x41 + (1 : Int))) <|
                  some (.inl (x41 + (1 : Int)))
              else
                inrM (
                  some (.inl ()))) (0 : Int)) fun _ =>
          some (0 : Int)
    else
      some (11 : Int)

def law21_LocksFree (p0 : Table) (p1 : Inter) (p2 : Inputs) (p3 : Int) : Option Bool :=
  bindM (
    bindM (law21_Small p0 p1) fun r3 =>
    if (!(r3)) = true then
      some true
    else
      bindM (locks_Free p0 p1 p2 p3) fun r5 =>
      bindM (ref21_Free p0 p1 p2 p3) fun r6 =>
      if r5 = r6 then
        bindM (law21_alive) fun r8 =>
        some r8
      else
        some false) fun x1 =>
  some x1

def ref21_Call (p0 : Table) (p1 : Inter) (p2 : Int) : Option Inter :=
  guardM ((([] : List RouteState) ++ p1.routes).length ≤ 1000000000) <|
  guardM ((([] : List Int) ++ p1.lies).length ≤ 1000000000) <|
  getM (([] : List RouteState) ++ p1.routes) p2 fun e3 =>
  getM p0.routes p2 fun e4 =>
  bindM (ref16_Settings e4) fun r5 =>
  bindM (
    loopM (fun (i11, b12) =>
      if i11 < (r5.length : Int) then
        getM r5 i11 fun e15 =>
        bindM (ref16_Index p0 e15.el) fun r16 =>
        getM r5 i11 fun e17 =>
        getM b12 r16 fun e18 =>
        guardM (I64 (i11 + (1 : Int))) <|
        some (.inl ((i11 + (1 : Int)), (b12.set r16.toNat e17.pos)))
      else
        inrM (
          some b12)) ((0 : Int), (([] : List Int) ++ p1.lies))) fun b6 =>
  some (⟨((([] : List RouteState) ++ p1.routes).set p2.toNat (⟨(1 : Int), (0 : Int), (0 : Int)⟩ : RouteState)), b6⟩ : Inter)

def law21_LocksCall (p0 : Table) (p1 : Inter) (p2 : Inputs) (p3 : Int) : Option Bool :=
  bindM (
    bindM (law21_Small p0 p1) fun r3 =>
    if (!(r3)) = true then
      some true
    else
      bindM (locks_Free p0 p1 p2 p3) fun r5 =>
      some (!(decide (r5 = (0 : Int))))) fun x1 =>
  if x1 = true then
    bindM (law21_alive) fun r7 =>
    some r7
  else
    bindM (
      if p3 < (0 : Int) then
        some true
      else
        if (p0.routes.length : Int) ≤ p3 then
          some true
        else
          bindM (ref21_Sound p0 p1) fun r12 =>
          some (!(r12))) fun x8 =>
    if x8 = true then
      some false
    else
      bindM (
        bindM (ref21_Call p0 p1 p3) fun r16 =>
        bindM (locks_Sound p0 r16) fun r17 =>
        if r17 = true then
          bindM (law21_alive) fun r19 =>
          some r19
        else
          some false) fun x14 =>
      some x14

def law21_LocksExclude (p0 : Table) (p1 : Inter) (p2 : Int) (p3 : Int) : Option Bool :=
  bindM (
    bindM (law21_Small p0 p1) fun r3 =>
    if (!(r3)) = true then
      some true
    else
      bindM (locks_Sound p0 p1) fun r5 =>
      if (!(r5)) = true then
        some true
      else
        some (decide (p2 = p3))) fun x1 =>
  if x1 = true then
    bindM (law21_alive) fun r8 =>
    some r8
  else
    bindM (locks_Path p0 p1 p2) fun r9 =>
    bindM (locks_Path p0 p1 p3) fun r10 =>
    bindS (
      loopM (fun x13 =>
        if x13 < (r9.length : Int) then
          bindS (
            loopM (fun x18 =>
              if x18 < (r10.length : Int) then
                getM r9 x13 fun e21 =>
                getM r10 x18 fun e22 =>
                if e21 = e22 then
                  inrM (
                    inrM (
                      inrM (
                        inrM (
                          some false))))
                else
                  guardM (I64 (x18 + (1 : Int))) <|
                  some (.inl (x18 + (1 : Int)))
              else
                inrM (
                  some (.inl ()))) (0 : Int)) fun _ =>
          guardM (I64 (x13 + (1 : Int))) <|
          some (.inl (x13 + (1 : Int)))
        else
          inrM (
            some (.inl ()))) (0 : Int)) fun _ =>
    bindM (law21_alive) fun r32 =>
    some r32

end Go.Proofs.Ytckkkfgjgjoemaa
