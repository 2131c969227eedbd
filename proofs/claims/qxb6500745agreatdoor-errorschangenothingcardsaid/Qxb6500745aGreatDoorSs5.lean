import Derived.Test.Qxb6500745aGreatDoorMach3
namespace Go.Proofs.Qxb6500745aGreatDoor
open Go.RowKit

set_option maxRecDepth 100000 in
set_option maxHeartbeats 4000000 in
theorem stepSet_41 {ea : Nat → Addr} {w : World} {mb : Nat} {pt : Nat → Nat} {D : Nat → DomV} {Z : Nat → List Int} {fp : Nat → List Nat} (G : Glob ea w) (M : Mach w mb pt D Z fp) (a b c v u : Int) (xs : Value) :
    Calls Tryz.prog 31 #[bp mb, .agg (opCells 41 a b c v u xs)] w (PStep w mb fp (False)) := by
  have P := PreS.mk' w 41 a b c v u xs
  have hra := regOf_lt a
  have hrb := regOf_lt b
  have hrc := regOf_lt c
  unfold bp opCells
  have hreg := fun a w => reg_any a w
  go_enter Tryz.func31, Tryz.ntmps31
  go_wp2_with (go_at_call 20; refine (hreg _ _).mono ?_; rintro e w2 ⟨rfl, h2⟩; rw [h2]; clear h2 w2)
  unfold opCells at P
  unfold res0 at P
  generalize hS : w.heap.size = S at *
  generalize (w.alloc (Obj.cells
            #[Value.int IntKind.i64 41, Value.int IntKind.i64 a, Value.int IntKind.i64 b, Value.int IntKind.i64 c,
              Value.int IntKind.i64 v, Value.int IntKind.i64 u, xs]
            29)).alloc
      (Obj.cells
        #[Value.nilIface, Value.bool false, Value.int IntKind.i64 0, Value.slice none 0 0, Value.string { data := #[] }]
        39) = W at *
  have HP : Hid (PreS w 41 a b c v u xs S W) := P
  have MW := M.kp0 P.kp
  have c1 := P.b1.cell 0
  have c2 := P.b1.cell 2
  have c3 := P.b1.cell 3
  have c4 := P.b1.cell 4
  have c5 := P.b1.cell 5
  have c6 := P.b1.cell 6
  have ca : W.cell? ⟨mb, 4 + regOf a, none⟩ = some (.pointer (some ⟨pt (regOf a + 4), 0, none⟩)) := by rw [MW.blk.cell, machCells_get _ _ (by omega), Nat.add_comm]; rfl
  have cb : W.cell? ⟨mb, 4 + regOf b, none⟩ = some (.pointer (some ⟨pt (regOf b + 4), 0, none⟩)) := by rw [MW.blk.cell, machCells_get _ _ (by omega), Nat.add_comm]; rfl
  have cc : W.cell? ⟨mb, 4 + regOf c, none⟩ = some (.pointer (some ⟨pt (regOf c + 4), 0, none⟩)) := by rw [MW.blk.cell, machCells_get _ _ (by omega), Nat.add_comm]; rfl
  simp [opCells] at c1 c2 c3 c4 c5 c6
  have hreg2 : ∀ q x, Calls Tryz.prog 20 #[.int .i64 x, .int .i64 4] (W.drewN q) fun e w' => e = .returned (.int .i64 (regOf x : Nat)) ∧ ∃ q', w' = (W.drewN q).drewN q' := fun q x => (reg_any x _).mono (by rintro e w' ⟨rfl, h⟩; exact ⟨rfl, 0, h⟩)
  clear P MW hreg
  go_quiet ((go_at_call 20; refine Calls.quiet_of (hreg2 _ _)))
  revert nq; intro p1
  clear hreg2
  have hK1 : Kp [] w (W.drewN p1) := HP.out.kp.drewN p1
  have GW := G.kp hK1 (by simp)
  have MA := (M.kp0 hK1).set (regOf a) hra
  have MB := (M.kp0 hK1).set (regOf b) hrb
  have MC := (M.kp0 hK1).set (regOf c) hrc
  have MAB := (M.kp0 hK1).sets2 hra hrb
  have HN : Hid (¬ False) := not_false
  have hcall := s_subset MA.1 MA.2 MB.1 MB.2
  clear MA MB MC MAB
  go_wp2_with fail
  refine hcall.mono ?_
  rintro e w2 ⟨r, rfl, _, q, h2⟩
  clear hcall
  · have k2 : Kp [] (W.drewN p1) w2 := by rw [h2]; exact Kp.dN _ _
    clear h2
    have ms := MStep.same (M.kp0 hK1) k2
    have B2 := HP.out.res M k2 (by simp)
    have r0 := B2.cell 0; have r1 := B2.cell 1; have r2 := B2.cell 2; have r3 := B2.cell 3; have r4 := B2.cell 4
    have z0 := B2.frozen 0; have z1 := B2.frozen 1; have z2 := B2.frozen 2; have z3 := B2.frozen 3; have z4 := B2.frozen 4
    simp [res0] at r0 r1 r2 r3 r4
    go_wp2_with fail
    refine bodyPost_ret (v := resV .nilIface r 0 (.slice none 0 0) ByteArray.empty) (by simp [results, Tryz.results31, go_sem, resV, r0, r1, r2, r3, r4] <;> rfl) rfl ?_
    exact .inl ⟨HN.out, _, _, _, _, _, _, rfl, HP.out.step M ms ((set5 _ _ _ _ _ _ _))⟩

set_option maxRecDepth 100000 in
set_option maxHeartbeats 4000000 in
theorem stepSet_42 {ea : Nat → Addr} {w : World} {mb : Nat} {pt : Nat → Nat} {D : Nat → DomV} {Z : Nat → List Int} {fp : Nat → List Nat} (G : Glob ea w) (M : Mach w mb pt D Z fp) (a b c v u : Int) (xs : Value) :
    Calls Tryz.prog 31 #[bp mb, .agg (opCells 42 a b c v u xs)] w (PStep w mb fp (False)) := by
  have P := PreS.mk' w 42 a b c v u xs
  have hra := regOf_lt a
  have hrb := regOf_lt b
  have hrc := regOf_lt c
  unfold bp opCells
  have hreg := fun a w => reg_any a w
  go_enter Tryz.func31, Tryz.ntmps31
  go_wp2_with (go_at_call 20; refine (hreg _ _).mono ?_; rintro e w2 ⟨rfl, h2⟩; rw [h2]; clear h2 w2)
  unfold opCells at P
  unfold res0 at P
  generalize hS : w.heap.size = S at *
  generalize (w.alloc (Obj.cells
            #[Value.int IntKind.i64 42, Value.int IntKind.i64 a, Value.int IntKind.i64 b, Value.int IntKind.i64 c,
              Value.int IntKind.i64 v, Value.int IntKind.i64 u, xs]
            29)).alloc
      (Obj.cells
        #[Value.nilIface, Value.bool false, Value.int IntKind.i64 0, Value.slice none 0 0, Value.string { data := #[] }]
        39) = W at *
  have HP : Hid (PreS w 42 a b c v u xs S W) := P
  have MW := M.kp0 P.kp
  have c1 := P.b1.cell 0
  have c2 := P.b1.cell 2
  have c3 := P.b1.cell 3
  have c4 := P.b1.cell 4
  have c5 := P.b1.cell 5
  have c6 := P.b1.cell 6
  have ca : W.cell? ⟨mb, 4 + regOf a, none⟩ = some (.pointer (some ⟨pt (regOf a + 4), 0, none⟩)) := by rw [MW.blk.cell, machCells_get _ _ (by omega), Nat.add_comm]; rfl
  have cb : W.cell? ⟨mb, 4 + regOf b, none⟩ = some (.pointer (some ⟨pt (regOf b + 4), 0, none⟩)) := by rw [MW.blk.cell, machCells_get _ _ (by omega), Nat.add_comm]; rfl
  have cc : W.cell? ⟨mb, 4 + regOf c, none⟩ = some (.pointer (some ⟨pt (regOf c + 4), 0, none⟩)) := by rw [MW.blk.cell, machCells_get _ _ (by omega), Nat.add_comm]; rfl
  simp [opCells] at c1 c2 c3 c4 c5 c6
  have hreg2 : ∀ q x, Calls Tryz.prog 20 #[.int .i64 x, .int .i64 4] (W.drewN q) fun e w' => e = .returned (.int .i64 (regOf x : Nat)) ∧ ∃ q', w' = (W.drewN q).drewN q' := fun q x => (reg_any x _).mono (by rintro e w' ⟨rfl, h⟩; exact ⟨rfl, 0, h⟩)
  clear P MW hreg
  go_quiet ((go_at_call 20; refine Calls.quiet_of (hreg2 _ _)))
  revert nq; intro p1
  clear hreg2
  have hK1 : Kp [] w (W.drewN p1) := HP.out.kp.drewN p1
  have GW := G.kp hK1 (by simp)
  have MA := (M.kp0 hK1).set (regOf a) hra
  have MB := (M.kp0 hK1).set (regOf b) hrb
  have MC := (M.kp0 hK1).set (regOf c) hrc
  have MAB := (M.kp0 hK1).sets2 hra hrb
  have HN : Hid (¬ False) := not_false
  have hcall := s_disjoint MA.1 MA.2 MB.1 MB.2
  clear MA MB MC MAB
  go_wp2_with fail
  refine hcall.mono ?_
  rintro e w2 ⟨r, rfl, _, q, h2⟩
  clear hcall
  · have k2 : Kp [] (W.drewN p1) w2 := by rw [h2]; exact Kp.dN _ _
    clear h2
    have ms := MStep.same (M.kp0 hK1) k2
    have B2 := HP.out.res M k2 (by simp)
    have r0 := B2.cell 0; have r1 := B2.cell 1; have r2 := B2.cell 2; have r3 := B2.cell 3; have r4 := B2.cell 4
    have z0 := B2.frozen 0; have z1 := B2.frozen 1; have z2 := B2.frozen 2; have z3 := B2.frozen 3; have z4 := B2.frozen 4
    simp [res0] at r0 r1 r2 r3 r4
    go_wp2_with fail
    refine bodyPost_ret (v := resV .nilIface r 0 (.slice none 0 0) ByteArray.empty) (by simp [results, Tryz.results31, go_sem, resV, r0, r1, r2, r3, r4] <;> rfl) rfl ?_
    exact .inl ⟨HN.out, _, _, _, _, _, _, rfl, HP.out.step M ms ((set5 _ _ _ _ _ _ _))⟩

set_option maxRecDepth 100000 in
set_option maxHeartbeats 4000000 in
theorem stepSet_43 {ea : Nat → Addr} {w : World} {mb : Nat} {pt : Nat → Nat} {D : Nat → DomV} {Z : Nat → List Int} {fp : Nat → List Nat} (G : Glob ea w) (M : Mach w mb pt D Z fp) (a b c v u : Int) (xs : Value) :
    Calls Tryz.prog 31 #[bp mb, .agg (opCells 43 a b c v u xs)] w (PStep w mb fp (False)) := by
  have P := PreS.mk' w 43 a b c v u xs
  have hra := regOf_lt a
  have hrb := regOf_lt b
  have hrc := regOf_lt c
  unfold bp opCells
  have hreg := fun a w => reg_any a w
  go_enter Tryz.func31, Tryz.ntmps31
  go_wp2_with (go_at_call 20; refine (hreg _ _).mono ?_; rintro e w2 ⟨rfl, h2⟩; rw [h2]; clear h2 w2)
  unfold opCells at P
  unfold res0 at P
  generalize hS : w.heap.size = S at *
  generalize (w.alloc (Obj.cells
            #[Value.int IntKind.i64 43, Value.int IntKind.i64 a, Value.int IntKind.i64 b, Value.int IntKind.i64 c,
              Value.int IntKind.i64 v, Value.int IntKind.i64 u, xs]
            29)).alloc
      (Obj.cells
        #[Value.nilIface, Value.bool false, Value.int IntKind.i64 0, Value.slice none 0 0, Value.string { data := #[] }]
        39) = W at *
  have HP : Hid (PreS w 43 a b c v u xs S W) := P
  have MW := M.kp0 P.kp
  have c1 := P.b1.cell 0
  have c2 := P.b1.cell 2
  have c3 := P.b1.cell 3
  have c4 := P.b1.cell 4
  have c5 := P.b1.cell 5
  have c6 := P.b1.cell 6
  have ca : W.cell? ⟨mb, 4 + regOf a, none⟩ = some (.pointer (some ⟨pt (regOf a + 4), 0, none⟩)) := by rw [MW.blk.cell, machCells_get _ _ (by omega), Nat.add_comm]; rfl
  have cb : W.cell? ⟨mb, 4 + regOf b, none⟩ = some (.pointer (some ⟨pt (regOf b + 4), 0, none⟩)) := by rw [MW.blk.cell, machCells_get _ _ (by omega), Nat.add_comm]; rfl
  have cc : W.cell? ⟨mb, 4 + regOf c, none⟩ = some (.pointer (some ⟨pt (regOf c + 4), 0, none⟩)) := by rw [MW.blk.cell, machCells_get _ _ (by omega), Nat.add_comm]; rfl
  simp [opCells] at c1 c2 c3 c4 c5 c6
  have hreg2 : ∀ q x, Calls Tryz.prog 20 #[.int .i64 x, .int .i64 4] (W.drewN q) fun e w' => e = .returned (.int .i64 (regOf x : Nat)) ∧ ∃ q', w' = (W.drewN q).drewN q' := fun q x => (reg_any x _).mono (by rintro e w' ⟨rfl, h⟩; exact ⟨rfl, 0, h⟩)
  clear P MW hreg
  go_quiet ((go_at_call 20; refine Calls.quiet_of (hreg2 _ _)))
  revert nq; intro p1
  clear hreg2
  have hK1 : Kp [] w (W.drewN p1) := HP.out.kp.drewN p1
  have GW := G.kp hK1 (by simp)
  have MA := (M.kp0 hK1).set (regOf a) hra
  have MB := (M.kp0 hK1).set (regOf b) hrb
  have MC := (M.kp0 hK1).set (regOf c) hrc
  have MAB := (M.kp0 hK1).sets2 hra hrb
  have HN : Hid (¬ False) := not_false
  have hcall := s_equal MA.1 MA.2 MB.1 MB.2
  clear MA MB MC MAB
  go_wp2_with fail
  refine hcall.mono ?_
  rintro e w2 ⟨r, rfl, _, q, h2⟩
  clear hcall
  · have k2 : Kp [] (W.drewN p1) w2 := by rw [h2]; exact Kp.dN _ _
    clear h2
    have ms := MStep.same (M.kp0 hK1) k2
    have B2 := HP.out.res M k2 (by simp)
    have r0 := B2.cell 0; have r1 := B2.cell 1; have r2 := B2.cell 2; have r3 := B2.cell 3; have r4 := B2.cell 4
    have z0 := B2.frozen 0; have z1 := B2.frozen 1; have z2 := B2.frozen 2; have z3 := B2.frozen 3; have z4 := B2.frozen 4
    simp [res0] at r0 r1 r2 r3 r4
    go_wp2_with fail
    refine bodyPost_ret (v := resV .nilIface r 0 (.slice none 0 0) ByteArray.empty) (by simp [results, Tryz.results31, go_sem, resV, r0, r1, r2, r3, r4] <;> rfl) rfl ?_
    exact .inl ⟨HN.out, _, _, _, _, _, _, rfl, HP.out.step M ms ((set5 _ _ _ _ _ _ _))⟩

set_option maxRecDepth 100000 in
set_option maxHeartbeats 4000000 in
theorem stepSet_44 {ea : Nat → Addr} {w : World} {mb : Nat} {pt : Nat → Nat} {D : Nat → DomV} {Z : Nat → List Int} {fp : Nat → List Nat} (G : Glob ea w) (M : Mach w mb pt D Z fp) (a b c v u : Int) (xs : Value) :
    Calls Tryz.prog 31 #[bp mb, .agg (opCells 44 a b c v u xs)] w (PStep w mb fp (False)) := by
  have P := PreS.mk' w 44 a b c v u xs
  have hra := regOf_lt a
  have hrb := regOf_lt b
  have hrc := regOf_lt c
  unfold bp opCells
  have hreg := fun a w => reg_any a w
  go_enter Tryz.func31, Tryz.ntmps31
  go_wp2_with (go_at_call 20; refine (hreg _ _).mono ?_; rintro e w2 ⟨rfl, h2⟩; rw [h2]; clear h2 w2)
  unfold opCells at P
  unfold res0 at P
  generalize hS : w.heap.size = S at *
  generalize (w.alloc (Obj.cells
            #[Value.int IntKind.i64 44, Value.int IntKind.i64 a, Value.int IntKind.i64 b, Value.int IntKind.i64 c,
              Value.int IntKind.i64 v, Value.int IntKind.i64 u, xs]
            29)).alloc
      (Obj.cells
        #[Value.nilIface, Value.bool false, Value.int IntKind.i64 0, Value.slice none 0 0, Value.string { data := #[] }]
        39) = W at *
  have HP : Hid (PreS w 44 a b c v u xs S W) := P
  have MW := M.kp0 P.kp
  have c1 := P.b1.cell 0
  have c2 := P.b1.cell 2
  have c3 := P.b1.cell 3
  have c4 := P.b1.cell 4
  have c5 := P.b1.cell 5
  have c6 := P.b1.cell 6
  have ca : W.cell? ⟨mb, 4 + regOf a, none⟩ = some (.pointer (some ⟨pt (regOf a + 4), 0, none⟩)) := by rw [MW.blk.cell, machCells_get _ _ (by omega), Nat.add_comm]; rfl
  have cb : W.cell? ⟨mb, 4 + regOf b, none⟩ = some (.pointer (some ⟨pt (regOf b + 4), 0, none⟩)) := by rw [MW.blk.cell, machCells_get _ _ (by omega), Nat.add_comm]; rfl
  have cc : W.cell? ⟨mb, 4 + regOf c, none⟩ = some (.pointer (some ⟨pt (regOf c + 4), 0, none⟩)) := by rw [MW.blk.cell, machCells_get _ _ (by omega), Nat.add_comm]; rfl
  simp [opCells] at c1 c2 c3 c4 c5 c6
  have hreg2 : ∀ q x, Calls Tryz.prog 20 #[.int .i64 x, .int .i64 4] (W.drewN q) fun e w' => e = .returned (.int .i64 (regOf x : Nat)) ∧ ∃ q', w' = (W.drewN q).drewN q' := fun q x => (reg_any x _).mono (by rintro e w' ⟨rfl, h⟩; exact ⟨rfl, 0, h⟩)
  clear P MW hreg
  go_quiet ((go_at_call 20; refine Calls.quiet_of (hreg2 _ _)))
  revert nq; intro p1
  clear hreg2
  have hK1 : Kp [] w (W.drewN p1) := HP.out.kp.drewN p1
  have GW := G.kp hK1 (by simp)
  have MA := (M.kp0 hK1).set (regOf a) hra
  have MB := (M.kp0 hK1).set (regOf b) hrb
  have MC := (M.kp0 hK1).set (regOf c) hrc
  have MAB := (M.kp0 hK1).sets2 hra hrb
  have HN : Hid (¬ False) := not_false
  have hcall := s_compare MA.1 MA.2 MB.1 MB.2
  clear MA MB MC MAB
  go_wp2_with fail
  refine hcall.mono ?_
  rintro e w2 ⟨i, rfl, q, h2⟩
  clear hcall
  · have k2 : Kp [] (W.drewN p1) w2 := by rw [h2]; exact Kp.dN _ _
    clear h2
    have ms := MStep.same (M.kp0 hK1) k2
    have B2 := HP.out.res M k2 (by simp)
    have r0 := B2.cell 0; have r1 := B2.cell 1; have r2 := B2.cell 2; have r3 := B2.cell 3; have r4 := B2.cell 4
    have z0 := B2.frozen 0; have z1 := B2.frozen 1; have z2 := B2.frozen 2; have z3 := B2.frozen 3; have z4 := B2.frozen 4
    simp [res0] at r0 r1 r2 r3 r4
    go_wp2_with fail
    refine bodyPost_ret (v := resV .nilIface false i (.slice none 0 0) ByteArray.empty) (by simp [results, Tryz.results31, go_sem, resV, r0, r1, r2, r3, r4] <;> rfl) rfl ?_
    exact .inl ⟨HN.out, _, _, _, _, _, _, rfl, HP.out.step M ms ((set5 _ _ _ _ _ _ _))⟩

set_option maxRecDepth 100000 in
set_option maxHeartbeats 4000000 in
theorem stepSet_45 {ea : Nat → Addr} {w : World} {mb : Nat} {pt : Nat → Nat} {D : Nat → DomV} {Z : Nat → List Int} {fp : Nat → List Nat} (G : Glob ea w) (M : Mach w mb pt D Z fp) (a b c v u : Int) (xs : Value) :
    Calls Tryz.prog 31 #[bp mb, .agg (opCells 45 a b c v u xs)] w (PStep w mb fp (False)) := by
  have P := PreS.mk' w 45 a b c v u xs
  have hra := regOf_lt a
  have hrb := regOf_lt b
  have hrc := regOf_lt c
  unfold bp opCells
  have hreg := fun a w => reg_any a w
  go_enter Tryz.func31, Tryz.ntmps31
  go_wp2_with (go_at_call 20; refine (hreg _ _).mono ?_; rintro e w2 ⟨rfl, h2⟩; rw [h2]; clear h2 w2)
  unfold opCells at P
  unfold res0 at P
  generalize hS : w.heap.size = S at *
  generalize (w.alloc (Obj.cells
            #[Value.int IntKind.i64 45, Value.int IntKind.i64 a, Value.int IntKind.i64 b, Value.int IntKind.i64 c,
              Value.int IntKind.i64 v, Value.int IntKind.i64 u, xs]
            29)).alloc
      (Obj.cells
        #[Value.nilIface, Value.bool false, Value.int IntKind.i64 0, Value.slice none 0 0, Value.string { data := #[] }]
        39) = W at *
  have HP : Hid (PreS w 45 a b c v u xs S W) := P
  have MW := M.kp0 P.kp
  have c1 := P.b1.cell 0
  have c2 := P.b1.cell 2
  have c3 := P.b1.cell 3
  have c4 := P.b1.cell 4
  have c5 := P.b1.cell 5
  have c6 := P.b1.cell 6
  have ca : W.cell? ⟨mb, 4 + regOf a, none⟩ = some (.pointer (some ⟨pt (regOf a + 4), 0, none⟩)) := by rw [MW.blk.cell, machCells_get _ _ (by omega), Nat.add_comm]; rfl
  have cb : W.cell? ⟨mb, 4 + regOf b, none⟩ = some (.pointer (some ⟨pt (regOf b + 4), 0, none⟩)) := by rw [MW.blk.cell, machCells_get _ _ (by omega), Nat.add_comm]; rfl
  have cc : W.cell? ⟨mb, 4 + regOf c, none⟩ = some (.pointer (some ⟨pt (regOf c + 4), 0, none⟩)) := by rw [MW.blk.cell, machCells_get _ _ (by omega), Nat.add_comm]; rfl
  simp [opCells] at c1 c2 c3 c4 c5 c6
  have hreg2 : ∀ q x, Calls Tryz.prog 20 #[.int .i64 x, .int .i64 4] (W.drewN q) fun e w' => e = .returned (.int .i64 (regOf x : Nat)) ∧ ∃ q', w' = (W.drewN q).drewN q' := fun q x => (reg_any x _).mono (by rintro e w' ⟨rfl, h⟩; exact ⟨rfl, 0, h⟩)
  clear P MW hreg
  go_quiet ((go_at_call 20; refine Calls.quiet_of (hreg2 _ _)))
  revert nq; intro p1
  clear hreg2
  have hK1 : Kp [] w (W.drewN p1) := HP.out.kp.drewN p1
  have GW := G.kp hK1 (by simp)
  have MA := (M.kp0 hK1).set (regOf a) hra
  have MB := (M.kp0 hK1).set (regOf b) hrb
  have MC := (M.kp0 hK1).set (regOf c) hrc
  have MAB := (M.kp0 hK1).sets2 hra hrb
  have HN : Hid (¬ False) := not_false
  have hcall := s_string GW MA.1 MA.2
  clear MA MB MC MAB
  go_wp2_with fail
  refine hcall.mono ?_
  rintro e w2 ⟨t, rfl, h2⟩
  clear hcall
  · have k2 : Kp [] (W.drewN p1) w2 := h2
    clear h2
    have ms := MStep.same (M.kp0 hK1) k2
    have B2 := HP.out.res M k2 (by simp)
    have r0 := B2.cell 0; have r1 := B2.cell 1; have r2 := B2.cell 2; have r3 := B2.cell 3; have r4 := B2.cell 4
    have z0 := B2.frozen 0; have z1 := B2.frozen 1; have z2 := B2.frozen 2; have z3 := B2.frozen 3; have z4 := B2.frozen 4
    simp [res0] at r0 r1 r2 r3 r4
    go_wp2_with fail
    refine bodyPost_ret (v := resV .nilIface false 0 (.slice none 0 0) t) (by simp [results, Tryz.results31, go_sem, resV, r0, r1, r2, r3, r4] <;> rfl) rfl ?_
    exact .inl ⟨HN.out, _, _, _, _, _, _, rfl, HP.out.step M ms ((set5 _ _ _ _ _ _ _))⟩

end Go.Proofs.Qxb6500745aGreatDoor
