import Derived.Test.Qxb6500745aGreatDoorMach2
namespace Go.Proofs.Qxb6500745aGreatDoor
open Go.RowKit

set_option maxRecDepth 100000 in
set_option maxHeartbeats 4000000 in
theorem stepDom_0 {ea : Nat → Addr} {w : World} {mb : Nat} {pt : Nat → Nat} {D : Nat → DomV} {Z : Nat → List Int} {fp : Nat → List Nat} (G : Glob ea w) (M : Mach w mb pt D Z fp) (a b c v u : Int) (xs : Value) :
    Calls Tryz.prog 29 #[bp mb, .agg (opCells 0 a b c v u xs)] w (PStep w mb fp (badW v)) := by
  have P := Pre.mk' w mb 0 a b c v u xs (regOf a)
  have hra := regOf_lt a
  have hrb := regOf_lt b
  unfold bp opCells
  have hreg := fun a w => reg_any a w
  go_enter Tryz.func29, Tryz.ntmps29
  go_wp2_with (go_at_call 20; refine (hreg _ _).mono ?_; rintro e w2 ⟨rfl, h2⟩; rw [h2]; clear h2 w2)
  unfold opCells at P
  unfold res0 at P
  generalize hS : w.heap.size = S at *
  generalize (((w.alloc (Obj.cells #[Value.pointer (some { block := mb, off := 0 })] 24)).alloc
          (Obj.cells
            #[Value.int IntKind.i64 0, Value.int IntKind.i64 a, Value.int IntKind.i64 b, Value.int IntKind.i64 c,
              Value.int IntKind.i64 v, Value.int IntKind.i64 u, xs]
            29)).alloc
      (Obj.cells
        #[Value.nilIface, Value.bool false, Value.int IntKind.i64 0, Value.slice none 0 0, Value.string { data := #[] }]
        39)).alloc
    (Obj.cells #[Value.int IntKind.i64 ↑(regOf a)] 3) = W at *
  have HP : Hid (Pre w mb 0 a b c v u xs (regOf a) S W) := P
  have MW := M.kp0 P.kp
  have c0 := P.b0.cell 0
  have c1 := P.b1.cell 0
  have c2 := P.b1.cell 2
  have c3 := P.b3.cell 0
  have c4 := P.b1.cell 4
  have c5 := P.b1.cell 5
  have c6 := P.b1.cell 6
  have ca := MW.blk.cell (regOf a)
  have cb := MW.blk.cell (regOf b)
  rw [machCells_get _ _ (by omega)] at ca cb
  unfold bp at ca cb
  simp [opCells] at c0 c1 c2 c3 c4 c5 c6
  have hreg2 : ∀ q, Calls Tryz.prog 20 #[.int .i64 b, .int .i64 4] (W.drewN q) fun e w' => e = .returned (.int .i64 (regOf b : Nat)) ∧ ∃ q', w' = (W.drewN q).drewN q' := fun q => (reg_any b _).mono (by rintro e w' ⟨rfl, h⟩; exact ⟨rfl, 0, h⟩)
  clear P MW hreg
  go_quiet ((go_at_call 20; refine Calls.quiet_of (hreg2 _)))
  revert nq; intro p1
  clear hreg2
  have hK1 : Kp [] w (W.drewN p1) := HP.out.kp.drewN p1
  have GW := G.kp hK1 (by simp)
  have MA := (M.kp0 hK1).dom (regOf a) hra
  have MB := (M.kp0 hK1).dom (regOf b) hrb
  have hcall := d_newEmpty GW v
  clear MA MB
  go_wp2_with fail
  refine hcall.mono ?_
  rintro e w2 h
  clear hcall
  rcases h with ⟨hn, b', rfl, hm⟩ | ⟨hb, rfl, k2⟩
  · have HN : Hid (¬ (badW v)) := hn
    clear hn
    have k2 : Kp [] (W.drewN p1) w2 := by obtain ⟨_, _, _, _, _, _, h⟩ := hm; exact h
    obtain ⟨y1, y2, y3⟩ := HP.out.res M k2 (by simp)
    have hins := install_ok b' S (S + 1 + 1 + 1) mb (regOf a) hra w2 y2 y3 pt ((M.kp0 hK1).kp0 k2).blk
    go_wp2_with fail
    refine hins.mono ?_
    rintro e w3 ⟨rfl, wa, ka, kb⟩
    have ms := MStep.dnew (M.kp0 hK1) (regOf a) hra (hm.kp0 ka)
    have B2 := ((y1.kp ka (by simp)).other (p := ⟨mb, regOf a, none⟩) (by have := M.blk.lt; show S + 1 + 1 ≠ mb; omega) (bp b')).kp kb (by simp)
    clear y1 y2 y3 hins
    unfold resV
    have r0 := B2.cell 0; have r1 := B2.cell 1; have r2 := B2.cell 2; have r3 := B2.cell 3; have r4 := B2.cell 4
    have z0 := B2.frozen 0; have z1 := B2.frozen 1; have z2 := B2.frozen 2; have z3 := B2.frozen 3; have z4 := B2.frozen 4
    simp [res0] at r0 r1 r2 r3 r4
    go_wp2_with fail
    refine bodyPost_ret (v := resV .nilIface false 0 (.slice none 0 0) ByteArray.empty) (by simp [results, Tryz.results29, go_sem, resV, r0, r1, r2, r3, r4] <;> rfl) rfl ?_
    exact .inl ⟨HN.out, _, _, _, _, _, _, rfl, HP.out.step M ms ((kb.nil (M := [S + 1 + 1])).step (set5 _ _ _ _ _ _ _))⟩
  · have HB : Hid (badW v) := hb
    clear hb
    have hins := install_err (.pointer none) rfl (.pointer (some (ea 1))) S (S + 1 + 1 + 1) w2
    unfold errV
    go_wp2_with fail
    refine hins.mono ?_
    rintro e w3 ⟨rfl, k3⟩
    have B2 := (HP.out.res M k2 (by simp)).1.kp k3 (by simp)
    unfold resV
    have r0 := B2.cell 0; have r1 := B2.cell 1; have r2 := B2.cell 2; have r3 := B2.cell 3; have r4 := B2.cell 4
    have z0 := B2.frozen 0; have z1 := B2.frozen 1; have z2 := B2.frozen 2; have z3 := B2.frozen 3; have z4 := B2.frozen 4
    simp [res0] at r0 r1 r2 r3 r4
    go_wp2_with fail
    refine bodyPost_ret (v := resV (.iface 110 (.pointer (some (ea 1)))) false 0 (.slice none 0 0) ByteArray.empty) (by simp [results, Tryz.results29, go_sem, resV, r0, r1, r2, r3, r4] <;> rfl) rfl ?_
    exact .inr ⟨HB.out, _, rfl, HP.out.quiet (((k2.step k3).nil (M := [S + 1 + 1])).step (set5 _ _ _ _ _ _ _))⟩

set_option maxRecDepth 100000 in
set_option maxHeartbeats 4000000 in
theorem stepDom_1 {ea : Nat → Addr} {w : World} {mb : Nat} {pt : Nat → Nat} {D : Nat → DomV} {Z : Nat → List Int} {fp : Nat → List Nat} (G : Glob ea w) (M : Mach w mb pt D Z fp) (a b c v u : Int) (xs : Value) :
    Calls Tryz.prog 29 #[bp mb, .agg (opCells 1 a b c v u xs)] w (PStep w mb fp (badW v)) := by
  have P := Pre.mk' w mb 1 a b c v u xs (regOf a)
  have hra := regOf_lt a
  have hrb := regOf_lt b
  unfold bp opCells
  have hreg := fun a w => reg_any a w
  go_enter Tryz.func29, Tryz.ntmps29
  go_wp2_with (go_at_call 20; refine (hreg _ _).mono ?_; rintro e w2 ⟨rfl, h2⟩; rw [h2]; clear h2 w2)
  unfold opCells at P
  unfold res0 at P
  generalize hS : w.heap.size = S at *
  generalize (((w.alloc (Obj.cells #[Value.pointer (some { block := mb, off := 0 })] 24)).alloc
          (Obj.cells
            #[Value.int IntKind.i64 1, Value.int IntKind.i64 a, Value.int IntKind.i64 b, Value.int IntKind.i64 c,
              Value.int IntKind.i64 v, Value.int IntKind.i64 u, xs]
            29)).alloc
      (Obj.cells
        #[Value.nilIface, Value.bool false, Value.int IntKind.i64 0, Value.slice none 0 0, Value.string { data := #[] }]
        39)).alloc
    (Obj.cells #[Value.int IntKind.i64 ↑(regOf a)] 3) = W at *
  have HP : Hid (Pre w mb 1 a b c v u xs (regOf a) S W) := P
  have MW := M.kp0 P.kp
  have c0 := P.b0.cell 0
  have c1 := P.b1.cell 0
  have c2 := P.b1.cell 2
  have c3 := P.b3.cell 0
  have c4 := P.b1.cell 4
  have c5 := P.b1.cell 5
  have c6 := P.b1.cell 6
  have ca := MW.blk.cell (regOf a)
  have cb := MW.blk.cell (regOf b)
  rw [machCells_get _ _ (by omega)] at ca cb
  unfold bp at ca cb
  simp [opCells] at c0 c1 c2 c3 c4 c5 c6
  have hreg2 : ∀ q, Calls Tryz.prog 20 #[.int .i64 b, .int .i64 4] (W.drewN q) fun e w' => e = .returned (.int .i64 (regOf b : Nat)) ∧ ∃ q', w' = (W.drewN q).drewN q' := fun q => (reg_any b _).mono (by rintro e w' ⟨rfl, h⟩; exact ⟨rfl, 0, h⟩)
  clear P MW hreg
  go_quiet ((go_at_call 20; refine Calls.quiet_of (hreg2 _)))
  revert nq; intro p1
  clear hreg2
  have hK1 : Kp [] w (W.drewN p1) := HP.out.kp.drewN p1
  have GW := G.kp hK1 (by simp)
  have MA := (M.kp0 hK1).dom (regOf a) hra
  have MB := (M.kp0 hK1).dom (regOf b) hrb
  have hcall := d_newFull GW v
  clear MA MB
  go_wp2_with fail
  refine hcall.mono ?_
  rintro e w2 h
  clear hcall
  rcases h with ⟨hn, b', rfl, hm⟩ | ⟨hb, rfl, k2⟩
  · have HN : Hid (¬ (badW v)) := hn
    clear hn
    have k2 : Kp [] (W.drewN p1) w2 := by obtain ⟨_, _, _, _, _, _, h⟩ := hm; exact h
    obtain ⟨y1, y2, y3⟩ := HP.out.res M k2 (by simp)
    have hins := install_ok b' S (S + 1 + 1 + 1) mb (regOf a) hra w2 y2 y3 pt ((M.kp0 hK1).kp0 k2).blk
    go_wp2_with fail
    refine hins.mono ?_
    rintro e w3 ⟨rfl, wa, ka, kb⟩
    have ms := MStep.dnew (M.kp0 hK1) (regOf a) hra (hm.kp0 ka)
    have B2 := ((y1.kp ka (by simp)).other (p := ⟨mb, regOf a, none⟩) (by have := M.blk.lt; show S + 1 + 1 ≠ mb; omega) (bp b')).kp kb (by simp)
    clear y1 y2 y3 hins
    unfold resV
    have r0 := B2.cell 0; have r1 := B2.cell 1; have r2 := B2.cell 2; have r3 := B2.cell 3; have r4 := B2.cell 4
    have z0 := B2.frozen 0; have z1 := B2.frozen 1; have z2 := B2.frozen 2; have z3 := B2.frozen 3; have z4 := B2.frozen 4
    simp [res0] at r0 r1 r2 r3 r4
    go_wp2_with fail
    refine bodyPost_ret (v := resV .nilIface false 0 (.slice none 0 0) ByteArray.empty) (by simp [results, Tryz.results29, go_sem, resV, r0, r1, r2, r3, r4] <;> rfl) rfl ?_
    exact .inl ⟨HN.out, _, _, _, _, _, _, rfl, HP.out.step M ms ((kb.nil (M := [S + 1 + 1])).step (set5 _ _ _ _ _ _ _))⟩
  · have HB : Hid (badW v) := hb
    clear hb
    have hins := install_err (.pointer none) rfl (.pointer (some (ea 1))) S (S + 1 + 1 + 1) w2
    unfold errV
    go_wp2_with fail
    refine hins.mono ?_
    rintro e w3 ⟨rfl, k3⟩
    have B2 := (HP.out.res M k2 (by simp)).1.kp k3 (by simp)
    unfold resV
    have r0 := B2.cell 0; have r1 := B2.cell 1; have r2 := B2.cell 2; have r3 := B2.cell 3; have r4 := B2.cell 4
    have z0 := B2.frozen 0; have z1 := B2.frozen 1; have z2 := B2.frozen 2; have z3 := B2.frozen 3; have z4 := B2.frozen 4
    simp [res0] at r0 r1 r2 r3 r4
    go_wp2_with fail
    refine bodyPost_ret (v := resV (.iface 110 (.pointer (some (ea 1)))) false 0 (.slice none 0 0) ByteArray.empty) (by simp [results, Tryz.results29, go_sem, resV, r0, r1, r2, r3, r4] <;> rfl) rfl ?_
    exact .inr ⟨HB.out, _, rfl, HP.out.quiet (((k2.step k3).nil (M := [S + 1 + 1])).step (set5 _ _ _ _ _ _ _))⟩

set_option maxRecDepth 100000 in
set_option maxHeartbeats 4000000 in
theorem stepDom_2 {ea : Nat → Addr} {w : World} {mb : Nat} {pt : Nat → Nat} {D : Nat → DomV} {Z : Nat → List Int} {fp : Nat → List Nat} (G : Glob ea w) (M : Mach w mb pt D Z fp) (a b c v u : Int) (xs : Value) {B : Nat} {zs : List Int} (hx : XsAt B w xs zs) (hB : B ≤ w.heap.size) (hz : zs.length ≤ 65536) :
    Calls Tryz.prog 29 #[bp mb, .agg (opCells 2 a b c v u xs)] w (PStep w mb fp (badW v ∨ ∃ x ∈ zs, ¬ (0 ≤ x ∧ x < v))) := by
  obtain ⟨ax, cx, rfl⟩ := hx.shape
  have P := Pre.mk' w mb 2 a b c v u (.slice ax zs.length cx) (regOf a)
  have hra := regOf_lt a
  have hrb := regOf_lt b
  unfold bp opCells
  have hreg := fun a w => reg_any a w
  go_enter Tryz.func29, Tryz.ntmps29
  go_wp2_with (go_at_call 20; refine (hreg _ _).mono ?_; rintro e w2 ⟨rfl, h2⟩; rw [h2]; clear h2 w2)
  unfold opCells at P
  unfold res0 at P
  generalize hS : w.heap.size = S at *
  generalize (((w.alloc (Obj.cells #[Value.pointer (some { block := mb, off := 0 })] 24)).alloc
          (Obj.cells
            #[Value.int IntKind.i64 2, Value.int IntKind.i64 a, Value.int IntKind.i64 b, Value.int IntKind.i64 c,
              Value.int IntKind.i64 v, Value.int IntKind.i64 u, Value.slice ax zs.length cx]
            29)).alloc
      (Obj.cells
        #[Value.nilIface, Value.bool false, Value.int IntKind.i64 0, Value.slice none 0 0, Value.string { data := #[] }]
        39)).alloc
    (Obj.cells #[Value.int IntKind.i64 ↑(regOf a)] 3) = W at *
  have HP : Hid (Pre w mb 2 a b c v u (.slice ax zs.length cx) (regOf a) S W) := P
  have MW := M.kp0 P.kp
  have c0 := P.b0.cell 0
  have c1 := P.b1.cell 0
  have c2 := P.b1.cell 2
  have c3 := P.b3.cell 0
  have c4 := P.b1.cell 4
  have c5 := P.b1.cell 5
  have c6 := P.b1.cell 6
  have ca := MW.blk.cell (regOf a)
  have cb := MW.blk.cell (regOf b)
  rw [machCells_get _ _ (by omega)] at ca cb
  unfold bp at ca cb
  simp [opCells] at c0 c1 c2 c3 c4 c5 c6
  have hreg2 : ∀ q, Calls Tryz.prog 20 #[.int .i64 b, .int .i64 4] (W.drewN q) fun e w' => e = .returned (.int .i64 (regOf b : Nat)) ∧ ∃ q', w' = (W.drewN q).drewN q' := fun q => (reg_any b _).mono (by rintro e w' ⟨rfl, h⟩; exact ⟨rfl, 0, h⟩)
  clear P MW hreg
  go_quiet ((go_at_call 20; refine Calls.quiet_of (hreg2 _)))
  revert nq; intro p1
  clear hreg2
  have hK1 : Kp [] w (W.drewN p1) := HP.out.kp.drewN p1
  have GW := G.kp hK1 (by simp)
  have MA := (M.kp0 hK1).dom (regOf a) hra
  have MB := (M.kp0 hK1).dom (regOf b) hrb
  have hcall := d_fromValues GW v _ zs (hx.kp hK1 (by omega) (fun _ h => by cases h)) (by have := hK1.size; omega) hz
  clear MA MB
  go_wp2_with fail
  refine hcall.mono ?_
  rintro e w2 h
  clear hcall
  rcases h with ⟨hn, b', rfl, hm⟩ | ⟨hb, i, rfl, k2⟩
  · have HN : Hid (¬ (badW v ∨ ∃ x ∈ zs, ¬ (0 ≤ x ∧ x < v))) := hn
    clear hn
    have k2 : Kp [] (W.drewN p1) w2 := by obtain ⟨_, _, _, _, _, _, h⟩ := hm; exact h
    obtain ⟨y1, y2, y3⟩ := HP.out.res M k2 (by simp)
    have hins := install_ok b' S (S + 1 + 1 + 1) mb (regOf a) hra w2 y2 y3 pt ((M.kp0 hK1).kp0 k2).blk
    go_wp2_with fail
    refine hins.mono ?_
    rintro e w3 ⟨rfl, wa, ka, kb⟩
    have ms := MStep.dnew (M.kp0 hK1) (regOf a) hra (hm.kp0 ka)
    have B2 := ((y1.kp ka (by simp)).other (p := ⟨mb, regOf a, none⟩) (by have := M.blk.lt; show S + 1 + 1 ≠ mb; omega) (bp b')).kp kb (by simp)
    clear y1 y2 y3 hins
    unfold resV
    have r0 := B2.cell 0; have r1 := B2.cell 1; have r2 := B2.cell 2; have r3 := B2.cell 3; have r4 := B2.cell 4
    have z0 := B2.frozen 0; have z1 := B2.frozen 1; have z2 := B2.frozen 2; have z3 := B2.frozen 3; have z4 := B2.frozen 4
    simp [res0] at r0 r1 r2 r3 r4
    go_wp2_with fail
    refine bodyPost_ret (v := resV .nilIface false 0 (.slice none 0 0) ByteArray.empty) (by simp [results, Tryz.results29, go_sem, resV, r0, r1, r2, r3, r4] <;> rfl) rfl ?_
    exact .inl ⟨HN.out, _, _, _, _, _, _, rfl, HP.out.step M ms ((kb.nil (M := [S + 1 + 1])).step (set5 _ _ _ _ _ _ _))⟩
  · have HB : Hid (badW v ∨ ∃ x ∈ zs, ¬ (0 ≤ x ∧ x < v)) := hb
    clear hb
    have hins := install_err (.pointer none) rfl (.pointer (some (ea i))) S (S + 1 + 1 + 1) w2
    unfold errV
    go_wp2_with fail
    refine hins.mono ?_
    rintro e w3 ⟨rfl, k3⟩
    have B2 := (HP.out.res M k2 (by simp)).1.kp k3 (by simp)
    unfold resV
    have r0 := B2.cell 0; have r1 := B2.cell 1; have r2 := B2.cell 2; have r3 := B2.cell 3; have r4 := B2.cell 4
    have z0 := B2.frozen 0; have z1 := B2.frozen 1; have z2 := B2.frozen 2; have z3 := B2.frozen 3; have z4 := B2.frozen 4
    simp [res0] at r0 r1 r2 r3 r4
    go_wp2_with fail
    refine bodyPost_ret (v := resV (.iface 110 (.pointer (some (ea i)))) false 0 (.slice none 0 0) ByteArray.empty) (by simp [results, Tryz.results29, go_sem, resV, r0, r1, r2, r3, r4] <;> rfl) rfl ?_
    exact .inr ⟨HB.out, _, rfl, HP.out.quiet (((k2.step k3).nil (M := [S + 1 + 1])).step (set5 _ _ _ _ _ _ _))⟩

end Go.Proofs.Qxb6500745aGreatDoor
