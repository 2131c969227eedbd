import Derived.Test.Qxb6500745aGreatDoorMach3
namespace Go.Proofs.Qxb6500745aGreatDoor
open Go.RowKit

set_option maxRecDepth 100000 in
set_option maxHeartbeats 4000000 in
theorem stepSet_26 {ea : Nat → Addr} {w : World} {mb : Nat} {pt : Nat → Nat} {D : Nat → DomV} {Z : Nat → List Int} {fp : Nat → List Nat} (G : Glob ea w) (M : Mach w mb pt D Z fp) (a b c v u : Int) (xs : Value) {B : Nat} {zs : List Int} (hx : XsAt B w xs zs) (hB : B ≤ w.heap.size) (hz : zs.length ≤ 65536) :
    Calls Tryz.prog 31 #[bp mb, .agg (opCells 26 a b c v u xs)] w (PStep w mb fp (∃ x ∈ zs, badID x)) := by
  obtain ⟨ax, cx, rfl⟩ := hx.shape
  have P := PreS.mk' w 26 a b c v u (.slice ax zs.length cx)
  have hra := regOf_lt a
  have hrb := regOf_lt b
  have hrc := regOf_lt c
  unfold bp opCells
  have hreg := fun a w => reg_any a w
  go_enter Tryz.func31, Tryz.ntmps31
  go_wp2_with (go_at_call 20; refine (hreg _ _).mono ?_; rintro e w2 ⟨rfl, h2⟩; rw [h2]; clear h2 w2)
  unfold opCells at P
  unfold res0 at P
  generalize hS : w.heap.size = S at *
  generalize (w.alloc (Obj.cells
            #[Value.int IntKind.i64 26, Value.int IntKind.i64 a, Value.int IntKind.i64 b, Value.int IntKind.i64 c,
              Value.int IntKind.i64 v, Value.int IntKind.i64 u, Value.slice ax zs.length cx]
            29)).alloc
      (Obj.cells
        #[Value.nilIface, Value.bool false, Value.int IntKind.i64 0, Value.slice none 0 0, Value.string { data := #[] }]
        39) = W at *
  have HP : Hid (PreS w 26 a b c v u (.slice ax zs.length cx) S W) := P
  have MW := M.kp0 P.kp
  have c1 := P.b1.cell 0
  have c2 := P.b1.cell 2
  have c3 := P.b1.cell 3
  have c4 := P.b1.cell 4
  have c5 := P.b1.cell 5
  have c6 := P.b1.cell 6
  have ca : W.cell? ⟨mb, 4 + regOf a, none⟩ = some (.pointer (some ⟨pt (regOf a + 4), 0, none⟩)) := by rw [MW.blk.cell, machCells_get _ _ (by omega), Nat.add_comm]; rfl
  have cb : W.cell? ⟨mb, 4 + regOf b, none⟩ = some (.pointer (some ⟨pt (regOf b + 4), 0, none⟩)) := by rw [MW.blk.cell, machCells_get _ _ (by omega), Nat.add_comm]; rfl
  have cc : W.cell? ⟨mb, 4 + regOf c, none⟩ = some (.pointer (some ⟨pt (regOf c + 4), 0, none⟩)) := by rw [MW.blk.cell, machCells_get _ _ (by omega), Nat.add_comm]; rfl
  simp [opCells] at c1 c2 c3 c4 c5 c6
  have hreg2 : ∀ q x, Calls Tryz.prog 20 #[.int .i64 x, .int .i64 4] (W.drewN q) fun e w' => e = .returned (.int .i64 (regOf x : Nat)) ∧ ∃ q', w' = (W.drewN q).drewN q' := fun q x => (reg_any x _).mono (by rintro e w' ⟨rfl, h⟩; exact ⟨rfl, 0, h⟩)
  clear P MW hreg
  go_quiet ((go_at_call 20; refine Calls.quiet_of (hreg2 _ _)))
  revert nq; intro p1
  clear hreg2
  have hK1 : Kp [] w (W.drewN p1) := HP.out.kp.drewN p1
  have GW := G.kp hK1 (by simp)
  have MA := (M.kp0 hK1).set (regOf a) hra
  have MB := (M.kp0 hK1).set (regOf b) hrb
  have MC := (M.kp0 hK1).set (regOf c) hrc
  have MAB := (M.kp0 hK1).sets2 hra hrb
  have hcall := s_fromIDs GW _ zs (hx.kp hK1 (by omega) (fun _ h => by cases h)) hz
  clear MA MB MC MAB
  go_wp2_with fail
  refine hcall.mono ?_
  rintro e w2 h
  clear hcall
  rcases h with ⟨hn, b', zs', rfl, hm, hok⟩ | ⟨hb, rfl, k2⟩
  · have HN : Hid (¬ (∃ x ∈ zs, badID x)) := hn
    clear hn
    have k2 : Kp [] (W.drewN p1) w2 := by obtain ⟨_, _, _, h⟩ := hm; exact h
    have y4 := ((M.kp0 hK1).kp0 k2).blk
    have xm := y4.cell (4 + regOf a)
    have xf := y4.frozen (4 + regOf a)
    rw [machCells_get _ _ (by omega)] at xm
    unfold bp at xm
    have ms := MStep.snew (M.kp0 hK1) (regOf a) hra hm hok
    have B2 := (HP.out.res M k2 (by simp)).other (p := ⟨mb, regOf a + 4, none⟩) (by have := M.blk.lt; show S + 1 ≠ mb; omega) (bp b')
    rw [Nat.add_comm (regOf a) 4] at ms B2
    unfold bp at ms B2
    clear hm hok y4
    have r0 := B2.cell 0; have r1 := B2.cell 1; have r2 := B2.cell 2; have r3 := B2.cell 3; have r4 := B2.cell 4
    have z0 := B2.frozen 0; have z1 := B2.frozen 1; have z2 := B2.frozen 2; have z3 := B2.frozen 3; have z4 := B2.frozen 4
    simp [res0] at r0 r1 r2 r3 r4
    go_wp2_with fail
    refine bodyPost_ret (v := resV .nilIface false 0 (.slice none 0 0) ByteArray.empty) (by simp [results, Tryz.results31, go_sem, resV, r0, r1, r2, r3, r4] <;> rfl) rfl ?_
    exact .inl ⟨HN.out, _, _, _, _, _, _, rfl, HP.out.step M ms ((set5 _ _ _ _ _ _ _))⟩
  · have HB : Hid (∃ x ∈ zs, badID x) := hb
    clear hb
    have B2 := HP.out.res M k2 (by simp)
    unfold errV
    have r0 := B2.cell 0; have r1 := B2.cell 1; have r2 := B2.cell 2; have r3 := B2.cell 3; have r4 := B2.cell 4
    have z0 := B2.frozen 0; have z1 := B2.frozen 1; have z2 := B2.frozen 2; have z3 := B2.frozen 3; have z4 := B2.frozen 4
    simp [res0] at r0 r1 r2 r3 r4
    go_wp2_with fail
    refine bodyPost_ret (v := resV (.iface 110 (.pointer (some (ea 0)))) false 0 (.slice none 0 0) ByteArray.empty) (by simp [results, Tryz.results31, go_sem, resV, r0, r1, r2, r3, r4] <;> rfl) rfl ?_
    exact .inr ⟨HB.out, _, rfl, HP.out.quiet ((k2.nil (M := [S + 1])).step (set5 _ _ _ _ _ _ _))⟩

set_option maxRecDepth 100000 in
set_option maxHeartbeats 4000000 in
theorem stepSet_27 {ea : Nat → Addr} {w : World} {mb : Nat} {pt : Nat → Nat} {D : Nat → DomV} {Z : Nat → List Int} {fp : Nat → List Nat} (G : Glob ea w) (M : Mach w mb pt D Z fp) (a b c v u : Int) (xs : Value) :
    Calls Tryz.prog 31 #[bp mb, .agg (opCells 27 a b c v u xs)] w (PStep w mb fp (badID v)) := by
  have P := PreS.mk' w 27 a b c v u xs
  have hra := regOf_lt a
  have hrb := regOf_lt b
  have hrc := regOf_lt c
  unfold bp opCells
  have hreg := fun a w => reg_any a w
  go_enter Tryz.func31, Tryz.ntmps31
  go_wp2_with (go_at_call 20; refine (hreg _ _).mono ?_; rintro e w2 ⟨rfl, h2⟩; rw [h2]; clear h2 w2)
  unfold opCells at P
  unfold res0 at P
  generalize hS : w.heap.size = S at *
  generalize (w.alloc (Obj.cells
            #[Value.int IntKind.i64 27, Value.int IntKind.i64 a, Value.int IntKind.i64 b, Value.int IntKind.i64 c,
              Value.int IntKind.i64 v, Value.int IntKind.i64 u, xs]
            29)).alloc
      (Obj.cells
        #[Value.nilIface, Value.bool false, Value.int IntKind.i64 0, Value.slice none 0 0, Value.string { data := #[] }]
        39) = W at *
  have HP : Hid (PreS w 27 a b c v u xs S W) := P
  have MW := M.kp0 P.kp
  have c1 := P.b1.cell 0
  have c2 := P.b1.cell 2
  have c3 := P.b1.cell 3
  have c4 := P.b1.cell 4
  have c5 := P.b1.cell 5
  have c6 := P.b1.cell 6
  have ca : W.cell? ⟨mb, 4 + regOf a, none⟩ = some (.pointer (some ⟨pt (regOf a + 4), 0, none⟩)) := by rw [MW.blk.cell, machCells_get _ _ (by omega), Nat.add_comm]; rfl
  have cb : W.cell? ⟨mb, 4 + regOf b, none⟩ = some (.pointer (some ⟨pt (regOf b + 4), 0, none⟩)) := by rw [MW.blk.cell, machCells_get _ _ (by omega), Nat.add_comm]; rfl
  have cc : W.cell? ⟨mb, 4 + regOf c, none⟩ = some (.pointer (some ⟨pt (regOf c + 4), 0, none⟩)) := by rw [MW.blk.cell, machCells_get _ _ (by omega), Nat.add_comm]; rfl
  simp [opCells] at c1 c2 c3 c4 c5 c6
  have hreg2 : ∀ q x, Calls Tryz.prog 20 #[.int .i64 x, .int .i64 4] (W.drewN q) fun e w' => e = .returned (.int .i64 (regOf x : Nat)) ∧ ∃ q', w' = (W.drewN q).drewN q' := fun q x => (reg_any x _).mono (by rintro e w' ⟨rfl, h⟩; exact ⟨rfl, 0, h⟩)
  clear P MW hreg
  go_quiet ((go_at_call 20; refine Calls.quiet_of (hreg2 _ _)))
  revert nq; intro p1
  clear hreg2
  have hK1 : Kp [] w (W.drewN p1) := HP.out.kp.drewN p1
  have GW := G.kp hK1 (by simp)
  have MA := (M.kp0 hK1).set (regOf a) hra
  have MB := (M.kp0 hK1).set (regOf b) hrb
  have MC := (M.kp0 hK1).set (regOf c) hrc
  have MAB := (M.kp0 hK1).sets2 hra hrb
  have hcall := s_insert GW MA.1 MA.2 v
  clear MA MB MC MAB
  go_wp2_with fail
  refine hcall.mono ?_
  rintro e w2 h
  clear hcall
  rcases h with ⟨hn, r, zs', rfl, hm⟩ | ⟨hb, rfl, k2⟩
  · have ms := MStep.smod (M.kp0 hK1) (regOf a) hra hm
    have HN : Hid (¬ (badID v)) := hn
    clear hn hm
    have hch := changed_any r .nilIface w2 ErrOk.nil
    go_wp2_with fail
    refine hch.mono ?_
    rintro e w3 ⟨rfl, k3⟩
    have B2 := (HP.out.res M ms.2 (fun x hx => .inr ⟨_, by omega, hx⟩)).kp k3 (by simp)
    unfold resV
    have r0 := B2.cell 0; have r1 := B2.cell 1; have r2 := B2.cell 2; have r3 := B2.cell 3; have r4 := B2.cell 4
    have z0 := B2.frozen 0; have z1 := B2.frozen 1; have z2 := B2.frozen 2; have z3 := B2.frozen 3; have z4 := B2.frozen 4
    simp [res0] at r0 r1 r2 r3 r4
    go_wp2_with fail
    refine bodyPost_ret (v := resV .nilIface r 0 (.slice none 0 0) ByteArray.empty) (by simp [results, Tryz.results31, go_sem, resV, r0, r1, r2, r3, r4] <;> rfl) rfl ?_
    exact .inl ⟨HN.out, _, _, _, _, _, _, rfl, HP.out.step M ms.1 ((k3.nil (M := [S + 1])).step (set5 _ _ _ _ _ _ _))⟩
  · have HB : Hid (badID v) := hb
    clear hb
    have hch := changed_any false _ w2 (ErrOk.err ea 0)
    unfold errV at *
    go_wp2_with fail
    refine hch.mono ?_
    rintro e w3 ⟨rfl, k3⟩
    have B2 := (HP.out.res M k2 (by simp)).kp k3 (by simp)
    unfold resV
    have r0 := B2.cell 0; have r1 := B2.cell 1; have r2 := B2.cell 2; have r3 := B2.cell 3; have r4 := B2.cell 4
    have z0 := B2.frozen 0; have z1 := B2.frozen 1; have z2 := B2.frozen 2; have z3 := B2.frozen 3; have z4 := B2.frozen 4
    simp [res0] at r0 r1 r2 r3 r4
    go_wp2_with fail
    refine bodyPost_ret (v := resV (.iface 110 (.pointer (some (ea 0)))) false 0 (.slice none 0 0) ByteArray.empty) (by simp [results, Tryz.results31, go_sem, resV, r0, r1, r2, r3, r4] <;> rfl) rfl ?_
    exact .inr ⟨HB.out, _, rfl, HP.out.quiet (((k2.step k3).nil (M := [S + 1])).step (set5 _ _ _ _ _ _ _))⟩

set_option maxRecDepth 100000 in
set_option maxHeartbeats 4000000 in
theorem stepSet_28 {ea : Nat → Addr} {w : World} {mb : Nat} {pt : Nat → Nat} {D : Nat → DomV} {Z : Nat → List Int} {fp : Nat → List Nat} (G : Glob ea w) (M : Mach w mb pt D Z fp) (a b c v u : Int) (xs : Value) :
    Calls Tryz.prog 31 #[bp mb, .agg (opCells 28 a b c v u xs)] w (PStep w mb fp (badID v)) := by
  have P := PreS.mk' w 28 a b c v u xs
  have hra := regOf_lt a
  have hrb := regOf_lt b
  have hrc := regOf_lt c
  unfold bp opCells
  have hreg := fun a w => reg_any a w
  go_enter Tryz.func31, Tryz.ntmps31
  go_wp2_with (go_at_call 20; refine (hreg _ _).mono ?_; rintro e w2 ⟨rfl, h2⟩; rw [h2]; clear h2 w2)
  unfold opCells at P
  unfold res0 at P
  generalize hS : w.heap.size = S at *
  generalize (w.alloc (Obj.cells
            #[Value.int IntKind.i64 28, Value.int IntKind.i64 a, Value.int IntKind.i64 b, Value.int IntKind.i64 c,
              Value.int IntKind.i64 v, Value.int IntKind.i64 u, xs]
            29)).alloc
      (Obj.cells
        #[Value.nilIface, Value.bool false, Value.int IntKind.i64 0, Value.slice none 0 0, Value.string { data := #[] }]
        39) = W at *
  have HP : Hid (PreS w 28 a b c v u xs S W) := P
  have MW := M.kp0 P.kp
  have c1 := P.b1.cell 0
  have c2 := P.b1.cell 2
  have c3 := P.b1.cell 3
  have c4 := P.b1.cell 4
  have c5 := P.b1.cell 5
  have c6 := P.b1.cell 6
  have ca : W.cell? ⟨mb, 4 + regOf a, none⟩ = some (.pointer (some ⟨pt (regOf a + 4), 0, none⟩)) := by rw [MW.blk.cell, machCells_get _ _ (by omega), Nat.add_comm]; rfl
  have cb : W.cell? ⟨mb, 4 + regOf b, none⟩ = some (.pointer (some ⟨pt (regOf b + 4), 0, none⟩)) := by rw [MW.blk.cell, machCells_get _ _ (by omega), Nat.add_comm]; rfl
  have cc : W.cell? ⟨mb, 4 + regOf c, none⟩ = some (.pointer (some ⟨pt (regOf c + 4), 0, none⟩)) := by rw [MW.blk.cell, machCells_get _ _ (by omega), Nat.add_comm]; rfl
  simp [opCells] at c1 c2 c3 c4 c5 c6
  have hreg2 : ∀ q x, Calls Tryz.prog 20 #[.int .i64 x, .int .i64 4] (W.drewN q) fun e w' => e = .returned (.int .i64 (regOf x : Nat)) ∧ ∃ q', w' = (W.drewN q).drewN q' := fun q x => (reg_any x _).mono (by rintro e w' ⟨rfl, h⟩; exact ⟨rfl, 0, h⟩)
  clear P MW hreg
  go_quiet ((go_at_call 20; refine Calls.quiet_of (hreg2 _ _)))
  revert nq; intro p1
  clear hreg2
  have hK1 : Kp [] w (W.drewN p1) := HP.out.kp.drewN p1
  have GW := G.kp hK1 (by simp)
  have MA := (M.kp0 hK1).set (regOf a) hra
  have MB := (M.kp0 hK1).set (regOf b) hrb
  have MC := (M.kp0 hK1).set (regOf c) hrc
  have MAB := (M.kp0 hK1).sets2 hra hrb
  have hcall := s_remove GW MA.1 MA.2 v
  clear MA MB MC MAB
  go_wp2_with fail
  refine hcall.mono ?_
  rintro e w2 h
  clear hcall
  rcases h with ⟨hn, r, zs', rfl, hm⟩ | ⟨hb, rfl, k2⟩
  · have ms := MStep.smod (M.kp0 hK1) (regOf a) hra hm
    have HN : Hid (¬ (badID v)) := hn
    clear hn hm
    have hch := changed_any r .nilIface w2 ErrOk.nil
    go_wp2_with fail
    refine hch.mono ?_
    rintro e w3 ⟨rfl, k3⟩
    have B2 := (HP.out.res M ms.2 (fun x hx => .inr ⟨_, by omega, hx⟩)).kp k3 (by simp)
    unfold resV
    have r0 := B2.cell 0; have r1 := B2.cell 1; have r2 := B2.cell 2; have r3 := B2.cell 3; have r4 := B2.cell 4
    have z0 := B2.frozen 0; have z1 := B2.frozen 1; have z2 := B2.frozen 2; have z3 := B2.frozen 3; have z4 := B2.frozen 4
    simp [res0] at r0 r1 r2 r3 r4
    go_wp2_with fail
    refine bodyPost_ret (v := resV .nilIface r 0 (.slice none 0 0) ByteArray.empty) (by simp [results, Tryz.results31, go_sem, resV, r0, r1, r2, r3, r4] <;> rfl) rfl ?_
    exact .inl ⟨HN.out, _, _, _, _, _, _, rfl, HP.out.step M ms.1 ((k3.nil (M := [S + 1])).step (set5 _ _ _ _ _ _ _))⟩
  · have HB : Hid (badID v) := hb
    clear hb
    have hch := changed_any false _ w2 (ErrOk.err ea 0)
    unfold errV at *
    go_wp2_with fail
    refine hch.mono ?_
    rintro e w3 ⟨rfl, k3⟩
    have B2 := (HP.out.res M k2 (by simp)).kp k3 (by simp)
    unfold resV
    have r0 := B2.cell 0; have r1 := B2.cell 1; have r2 := B2.cell 2; have r3 := B2.cell 3; have r4 := B2.cell 4
    have z0 := B2.frozen 0; have z1 := B2.frozen 1; have z2 := B2.frozen 2; have z3 := B2.frozen 3; have z4 := B2.frozen 4
    simp [res0] at r0 r1 r2 r3 r4
    go_wp2_with fail
    refine bodyPost_ret (v := resV (.iface 110 (.pointer (some (ea 0)))) false 0 (.slice none 0 0) ByteArray.empty) (by simp [results, Tryz.results31, go_sem, resV, r0, r1, r2, r3, r4] <;> rfl) rfl ?_
    exact .inr ⟨HB.out, _, rfl, HP.out.quiet (((k2.step k3).nil (M := [S + 1])).step (set5 _ _ _ _ _ _ _))⟩

end Go.Proofs.Qxb6500745aGreatDoor
