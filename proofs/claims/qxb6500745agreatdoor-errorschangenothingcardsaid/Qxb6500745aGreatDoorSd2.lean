import Derived.Test.Qxb6500745aGreatDoorMach1
namespace Go.Proofs.Qxb6500745aGreatDoor
open Go.RowKit

set_option maxRecDepth 100000 in
set_option maxHeartbeats 4000000 in
theorem stepDom_15 {ea : Nat → Addr} {w : World} {mb : Nat} {pt : Nat → Nat} {D : Nat → DomV} {Z : Nat → List Int} {fp : Nat → List Nat} (G : Glob ea w) (M : Mach w mb pt D Z fp) (a b c v u : Int) (xs : Value) :
    Calls Tryz.prog 29 #[bp mb, .agg (opCells 15 a b c v u xs)] w (PStep w mb fp (outR (D (regOf a)) v ∨ outR (D (regOf a)) u)) := by
  have P := Pre.mk' w mb 15 a b c v u xs (regOf a)
  have hra := regOf_lt a
  have hrb := regOf_lt b
  unfold bp opCells
  have hreg := fun a w => reg_any a w
  go_enter Tryz.func29, Tryz.ntmps29
  go_wp2_with (go_at_call 20; refine (hreg _ _).mono ?_; rintro e w2 ⟨rfl, h2⟩; rw [h2]; clear h2 w2)
  unfold opCells at P
  unfold res0 at P
  generalize hS : w.heap.size = S at *
  generalize (((w.alloc (Obj.cells #[Value.pointer (some { block := mb, off := 0 })] 24)).alloc
          (Obj.cells
            #[Value.int IntKind.i64 15, Value.int IntKind.i64 a, Value.int IntKind.i64 b, Value.int IntKind.i64 c,
              Value.int IntKind.i64 v, Value.int IntKind.i64 u, xs]
            29)).alloc
      (Obj.cells
        #[Value.nilIface, Value.bool false, Value.int IntKind.i64 0, Value.slice none 0 0, Value.string { data := #[] }]
        39)).alloc
    (Obj.cells #[Value.int IntKind.i64 ↑(regOf a)] 3) = W at *
  have HP : Hid (Pre w mb 15 a b c v u xs (regOf a) S W) := P
  have MW := M.kp0 P.kp
  have c0 := P.b0.cell 0
  have c1 := P.b1.cell 0
  have c2 := P.b1.cell 2
  have c3 := P.b3.cell 0
  have c4 := P.b1.cell 4
  have c5 := P.b1.cell 5
  have c6 := P.b1.cell 6
  have ca := MW.blk.cell (regOf a)
  have cb := MW.blk.cell (regOf b)
  rw [machCells_get _ _ (by omega)] at ca cb
  unfold bp at ca cb
  simp [opCells] at c0 c1 c2 c3 c4 c5 c6
  have hreg2 : ∀ q, Calls Tryz.prog 20 #[.int .i64 b, .int .i64 4] (W.drewN q) fun e w' => e = .returned (.int .i64 (regOf b : Nat)) ∧ ∃ q', w' = (W.drewN q).drewN q' := fun q => (reg_any b _).mono (by rintro e w' ⟨rfl, h⟩; exact ⟨rfl, 0, h⟩)
  clear P MW hreg
  go_quiet ((go_at_call 20; refine Calls.quiet_of (hreg2 _)))
  revert nq; intro p1
  clear hreg2
  have hK1 : Kp [] w (W.drewN p1) := HP.out.kp.drewN p1
  have GW := G.kp hK1 (by simp)
  have MA := (M.kp0 hK1).dom (regOf a) hra
  have MB := (M.kp0 hK1).dom (regOf b) hrb
  have hcall := d_keepRange GW MA.1 MA.2 v u
  clear MA MB
  go_wp2_with fail
  refine hcall.mono ?_
  rintro e w2 h
  clear hcall
  rcases h with ⟨hn, r, rfl, hm⟩ | ⟨hb, rfl, k2⟩
  · have ms := MStep.dmod (M.kp0 hK1) (regOf a) hra hm
    have HN : Hid (¬ (outR (D (regOf a)) v ∨ outR (D (regOf a)) u)) := hn
    clear hn hm
    have hch := changed_any r .nilIface w2 ErrOk.nil
    go_wp2_with fail
    refine hch.mono ?_
    rintro e w3 ⟨rfl, k3⟩
    have B2 := (HP.out.res M ms.2 (fun x hx => .inr ⟨_, by omega, hx⟩)).1.kp k3 (by simp)
    unfold resV
    have r0 := B2.cell 0; have r1 := B2.cell 1; have r2 := B2.cell 2; have r3 := B2.cell 3; have r4 := B2.cell 4
    have z0 := B2.frozen 0; have z1 := B2.frozen 1; have z2 := B2.frozen 2; have z3 := B2.frozen 3; have z4 := B2.frozen 4
    simp [res0] at r0 r1 r2 r3 r4
    go_wp2_with fail
    refine bodyPost_ret (v := resV .nilIface r 0 (.slice none 0 0) ByteArray.empty) (by simp [results, Tryz.results29, go_sem, resV, r0, r1, r2, r3, r4]) rfl ?_
    exact .inl ⟨HN.out, _, _, _, _, _, _, rfl, HP.out.step M ms.1 ((k3.nil (M := [S + 1 + 1])).step (set5 _ _ _ _ _ _ _))⟩
  · have HB : Hid (outR (D (regOf a)) v ∨ outR (D (regOf a)) u) := hb
    clear hb
    have hch := changed_any false _ w2 (ErrOk.err ea 2)
    unfold errV at *
    go_wp2_with fail
    refine hch.mono ?_
    rintro e w3 ⟨rfl, k3⟩
    have B2 := (HP.out.res M k2 (by simp)).1.kp k3 (by simp)
    unfold resV
    have r0 := B2.cell 0; have r1 := B2.cell 1; have r2 := B2.cell 2; have r3 := B2.cell 3; have r4 := B2.cell 4
    have z0 := B2.frozen 0; have z1 := B2.frozen 1; have z2 := B2.frozen 2; have z3 := B2.frozen 3; have z4 := B2.frozen 4
    simp [res0] at r0 r1 r2 r3 r4
    go_wp2_with fail
    refine bodyPost_ret (v := resV (.iface 110 (.pointer (some (ea 2)))) false 0 (.slice none 0 0) ByteArray.empty) (by simp [results, Tryz.results29, go_sem, resV, r0, r1, r2, r3, r4]) rfl ?_
    exact .inr ⟨HB.out, _, rfl, HP.out.quiet (((k2.step k3).nil (M := [S + 1 + 1])).step (set5 _ _ _ _ _ _ _))⟩

set_option maxRecDepth 100000 in
set_option maxHeartbeats 4000000 in
theorem stepDom_16 {ea : Nat → Addr} {w : World} {mb : Nat} {pt : Nat → Nat} {D : Nat → DomV} {Z : Nat → List Int} {fp : Nat → List Nat} (G : Glob ea w) (M : Mach w mb pt D Z fp) (a b c v u : Int) (xs : Value) :
    Calls Tryz.prog 29 #[bp mb, .agg (opCells 16 a b c v u xs)] w (PStep w mb fp (outR (D (regOf a)) v)) := by
  have P := Pre.mk' w mb 16 a b c v u xs (regOf a)
  have hra := regOf_lt a
  have hrb := regOf_lt b
  unfold bp opCells
  have hreg := fun a w => reg_any a w
  go_enter Tryz.func29, Tryz.ntmps29
  go_wp2_with (go_at_call 20; refine (hreg _ _).mono ?_; rintro e w2 ⟨rfl, h2⟩; rw [h2]; clear h2 w2)
  unfold opCells at P
  unfold res0 at P
  generalize hS : w.heap.size = S at *
  generalize (((w.alloc (Obj.cells #[Value.pointer (some { block := mb, off := 0 })] 24)).alloc
          (Obj.cells
            #[Value.int IntKind.i64 16, Value.int IntKind.i64 a, Value.int IntKind.i64 b, Value.int IntKind.i64 c,
              Value.int IntKind.i64 v, Value.int IntKind.i64 u, xs]
            29)).alloc
      (Obj.cells
        #[Value.nilIface, Value.bool false, Value.int IntKind.i64 0, Value.slice none 0 0, Value.string { data := #[] }]
        39)).alloc
    (Obj.cells #[Value.int IntKind.i64 ↑(regOf a)] 3) = W at *
  have HP : Hid (Pre w mb 16 a b c v u xs (regOf a) S W) := P
  have MW := M.kp0 P.kp
  have c0 := P.b0.cell 0
  have c1 := P.b1.cell 0
  have c2 := P.b1.cell 2
  have c3 := P.b3.cell 0
  have c4 := P.b1.cell 4
  have c5 := P.b1.cell 5
  have c6 := P.b1.cell 6
  have ca := MW.blk.cell (regOf a)
  have cb := MW.blk.cell (regOf b)
  rw [machCells_get _ _ (by omega)] at ca cb
  unfold bp at ca cb
  simp [opCells] at c0 c1 c2 c3 c4 c5 c6
  have hreg2 : ∀ q, Calls Tryz.prog 20 #[.int .i64 b, .int .i64 4] (W.drewN q) fun e w' => e = .returned (.int .i64 (regOf b : Nat)) ∧ ∃ q', w' = (W.drewN q).drewN q' := fun q => (reg_any b _).mono (by rintro e w' ⟨rfl, h⟩; exact ⟨rfl, 0, h⟩)
  clear P MW hreg
  go_quiet ((go_at_call 20; refine Calls.quiet_of (hreg2 _)))
  revert nq; intro p1
  clear hreg2
  have hK1 : Kp [] w (W.drewN p1) := HP.out.kp.drewN p1
  have GW := G.kp hK1 (by simp)
  have MA := (M.kp0 hK1).dom (regOf a) hra
  have MB := (M.kp0 hK1).dom (regOf b) hrb
  have hcall := d_keepOnly GW MA.1 MA.2 v
  clear MA MB
  go_wp2_with fail
  refine hcall.mono ?_
  rintro e w2 h
  clear hcall
  rcases h with ⟨hn, r, rfl, hm⟩ | ⟨hb, rfl, k2⟩
  · have ms := MStep.dmod (M.kp0 hK1) (regOf a) hra hm
    have HN : Hid (¬ (outR (D (regOf a)) v)) := hn
    clear hn hm
    have hch := changed_any r .nilIface w2 ErrOk.nil
    go_wp2_with fail
    refine hch.mono ?_
    rintro e w3 ⟨rfl, k3⟩
    have B2 := (HP.out.res M ms.2 (fun x hx => .inr ⟨_, by omega, hx⟩)).1.kp k3 (by simp)
    unfold resV
    have r0 := B2.cell 0; have r1 := B2.cell 1; have r2 := B2.cell 2; have r3 := B2.cell 3; have r4 := B2.cell 4
    have z0 := B2.frozen 0; have z1 := B2.frozen 1; have z2 := B2.frozen 2; have z3 := B2.frozen 3; have z4 := B2.frozen 4
    simp [res0] at r0 r1 r2 r3 r4
    go_wp2_with fail
    refine bodyPost_ret (v := resV .nilIface r 0 (.slice none 0 0) ByteArray.empty) (by simp [results, Tryz.results29, go_sem, resV, r0, r1, r2, r3, r4]) rfl ?_
    exact .inl ⟨HN.out, _, _, _, _, _, _, rfl, HP.out.step M ms.1 ((k3.nil (M := [S + 1 + 1])).step (set5 _ _ _ _ _ _ _))⟩
  · have HB : Hid (outR (D (regOf a)) v) := hb
    clear hb
    have hch := changed_any false _ w2 (ErrOk.err ea 2)
    unfold errV at *
    go_wp2_with fail
    refine hch.mono ?_
    rintro e w3 ⟨rfl, k3⟩
    have B2 := (HP.out.res M k2 (by simp)).1.kp k3 (by simp)
    unfold resV
    have r0 := B2.cell 0; have r1 := B2.cell 1; have r2 := B2.cell 2; have r3 := B2.cell 3; have r4 := B2.cell 4
    have z0 := B2.frozen 0; have z1 := B2.frozen 1; have z2 := B2.frozen 2; have z3 := B2.frozen 3; have z4 := B2.frozen 4
    simp [res0] at r0 r1 r2 r3 r4
    go_wp2_with fail
    refine bodyPost_ret (v := resV (.iface 110 (.pointer (some (ea 2)))) false 0 (.slice none 0 0) ByteArray.empty) (by simp [results, Tryz.results29, go_sem, resV, r0, r1, r2, r3, r4]) rfl ?_
    exact .inr ⟨HB.out, _, rfl, HP.out.quiet (((k2.step k3).nil (M := [S + 1 + 1])).step (set5 _ _ _ _ _ _ _))⟩

set_option maxRecDepth 100000 in
set_option maxHeartbeats 4000000 in
theorem stepDom_19 {ea : Nat → Addr} {w : World} {mb : Nat} {pt : Nat → Nat} {D : Nat → DomV} {Z : Nat → List Int} {fp : Nat → List Nat} (G : Glob ea w) (M : Mach w mb pt D Z fp) (a b c v u : Int) (xs : Value) :
    Calls Tryz.prog 29 #[bp mb, .agg (opCells 19 a b c v u xs)] w (PStep w mb fp ((D (regOf a)).width ≠ (D (regOf b)).width)) := by
  have P := Pre.mk' w mb 19 a b c v u xs (regOf a)
  have hra := regOf_lt a
  have hrb := regOf_lt b
  unfold bp opCells
  have hreg := fun a w => reg_any a w
  go_enter Tryz.func29, Tryz.ntmps29
  go_wp2_with (go_at_call 20; refine (hreg _ _).mono ?_; rintro e w2 ⟨rfl, h2⟩; rw [h2]; clear h2 w2)
  unfold opCells at P
  unfold res0 at P
  generalize hS : w.heap.size = S at *
  generalize (((w.alloc (Obj.cells #[Value.pointer (some { block := mb, off := 0 })] 24)).alloc
          (Obj.cells
            #[Value.int IntKind.i64 19, Value.int IntKind.i64 a, Value.int IntKind.i64 b, Value.int IntKind.i64 c,
              Value.int IntKind.i64 v, Value.int IntKind.i64 u, xs]
            29)).alloc
      (Obj.cells
        #[Value.nilIface, Value.bool false, Value.int IntKind.i64 0, Value.slice none 0 0, Value.string { data := #[] }]
        39)).alloc
    (Obj.cells #[Value.int IntKind.i64 ↑(regOf a)] 3) = W at *
  have HP : Hid (Pre w mb 19 a b c v u xs (regOf a) S W) := P
  have MW := M.kp0 P.kp
  have c0 := P.b0.cell 0
  have c1 := P.b1.cell 0
  have c2 := P.b1.cell 2
  have c3 := P.b3.cell 0
  have c4 := P.b1.cell 4
  have c5 := P.b1.cell 5
  have c6 := P.b1.cell 6
  have ca := MW.blk.cell (regOf a)
  have cb := MW.blk.cell (regOf b)
  rw [machCells_get _ _ (by omega)] at ca cb
  unfold bp at ca cb
  simp [opCells] at c0 c1 c2 c3 c4 c5 c6
  have hreg2 : ∀ q, Calls Tryz.prog 20 #[.int .i64 b, .int .i64 4] (W.drewN q) fun e w' => e = .returned (.int .i64 (regOf b : Nat)) ∧ ∃ q', w' = (W.drewN q).drewN q' := fun q => (reg_any b _).mono (by rintro e w' ⟨rfl, h⟩; exact ⟨rfl, 0, h⟩)
  clear P MW hreg
  go_quiet ((go_at_call 20; refine Calls.quiet_of (hreg2 _)))
  revert nq; intro p1
  clear hreg2
  have hK1 : Kp [] w (W.drewN p1) := HP.out.kp.drewN p1
  have GW := G.kp hK1 (by simp)
  have MA := (M.kp0 hK1).dom (regOf a) hra
  have MB := (M.kp0 hK1).dom (regOf b) hrb
  have hcall := d_union GW MA.1 MA.2 MB.1 MB.2
  clear MA MB
  go_wp2_with fail
  refine hcall.mono ?_
  rintro e w2 h
  clear hcall
  rcases h with ⟨hn, r, rfl, hm⟩ | ⟨hb, rfl, k2⟩
  · have ms := MStep.dmod (M.kp0 hK1) (regOf a) hra hm
    have HN : Hid (¬ ((D (regOf a)).width ≠ (D (regOf b)).width)) := hn
    clear hn hm
    have hch := changed_any r .nilIface w2 ErrOk.nil
    go_wp2_with fail
    refine hch.mono ?_
    rintro e w3 ⟨rfl, k3⟩
    have B2 := (HP.out.res M ms.2 (fun x hx => .inr ⟨_, by omega, hx⟩)).1.kp k3 (by simp)
    unfold resV
    have r0 := B2.cell 0; have r1 := B2.cell 1; have r2 := B2.cell 2; have r3 := B2.cell 3; have r4 := B2.cell 4
    have z0 := B2.frozen 0; have z1 := B2.frozen 1; have z2 := B2.frozen 2; have z3 := B2.frozen 3; have z4 := B2.frozen 4
    simp [res0] at r0 r1 r2 r3 r4
    go_wp2_with fail
    refine bodyPost_ret (v := resV .nilIface r 0 (.slice none 0 0) ByteArray.empty) (by simp [results, Tryz.results29, go_sem, resV, r0, r1, r2, r3, r4]) rfl ?_
    exact .inl ⟨HN.out, _, _, _, _, _, _, rfl, HP.out.step M ms.1 ((k3.nil (M := [S + 1 + 1])).step (set5 _ _ _ _ _ _ _))⟩
  · have HB : Hid ((D (regOf a)).width ≠ (D (regOf b)).width) := hb
    clear hb
    have hch := changed_any false _ w2 (ErrOk.err ea 3)
    unfold errV at *
    go_wp2_with fail
    refine hch.mono ?_
    rintro e w3 ⟨rfl, k3⟩
    have B2 := (HP.out.res M k2 (by simp)).1.kp k3 (by simp)
    unfold resV
    have r0 := B2.cell 0; have r1 := B2.cell 1; have r2 := B2.cell 2; have r3 := B2.cell 3; have r4 := B2.cell 4
    have z0 := B2.frozen 0; have z1 := B2.frozen 1; have z2 := B2.frozen 2; have z3 := B2.frozen 3; have z4 := B2.frozen 4
    simp [res0] at r0 r1 r2 r3 r4
    go_wp2_with fail
    refine bodyPost_ret (v := resV (.iface 110 (.pointer (some (ea 3)))) false 0 (.slice none 0 0) ByteArray.empty) (by simp [results, Tryz.results29, go_sem, resV, r0, r1, r2, r3, r4]) rfl ?_
    exact .inr ⟨HB.out, _, rfl, HP.out.quiet (((k2.step k3).nil (M := [S + 1 + 1])).step (set5 _ _ _ _ _ _ _))⟩

set_option maxRecDepth 100000 in
set_option maxHeartbeats 4000000 in
theorem stepDom_20 {ea : Nat → Addr} {w : World} {mb : Nat} {pt : Nat → Nat} {D : Nat → DomV} {Z : Nat → List Int} {fp : Nat → List Nat} (G : Glob ea w) (M : Mach w mb pt D Z fp) (a b c v u : Int) (xs : Value) :
    Calls Tryz.prog 29 #[bp mb, .agg (opCells 20 a b c v u xs)] w (PStep w mb fp ((D (regOf a)).width ≠ (D (regOf b)).width)) := by
  have P := Pre.mk' w mb 20 a b c v u xs (regOf a)
  have hra := regOf_lt a
  have hrb := regOf_lt b
  unfold bp opCells
  have hreg := fun a w => reg_any a w
  go_enter Tryz.func29, Tryz.ntmps29
  go_wp2_with (go_at_call 20; refine (hreg _ _).mono ?_; rintro e w2 ⟨rfl, h2⟩; rw [h2]; clear h2 w2)
  unfold opCells at P
  unfold res0 at P
  generalize hS : w.heap.size = S at *
  generalize (((w.alloc (Obj.cells #[Value.pointer (some { block := mb, off := 0 })] 24)).alloc
          (Obj.cells
            #[Value.int IntKind.i64 20, Value.int IntKind.i64 a, Value.int IntKind.i64 b, Value.int IntKind.i64 c,
              Value.int IntKind.i64 v, Value.int IntKind.i64 u, xs]
            29)).alloc
      (Obj.cells
        #[Value.nilIface, Value.bool false, Value.int IntKind.i64 0, Value.slice none 0 0, Value.string { data := #[] }]
        39)).alloc
    (Obj.cells #[Value.int IntKind.i64 ↑(regOf a)] 3) = W at *
  have HP : Hid (Pre w mb 20 a b c v u xs (regOf a) S W) := P
  have MW := M.kp0 P.kp
  have c0 := P.b0.cell 0
  have c1 := P.b1.cell 0
  have c2 := P.b1.cell 2
  have c3 := P.b3.cell 0
  have c4 := P.b1.cell 4
  have c5 := P.b1.cell 5
  have c6 := P.b1.cell 6
  have ca := MW.blk.cell (regOf a)
  have cb := MW.blk.cell (regOf b)
  rw [machCells_get _ _ (by omega)] at ca cb
  unfold bp at ca cb
  simp [opCells] at c0 c1 c2 c3 c4 c5 c6
  have hreg2 : ∀ q, Calls Tryz.prog 20 #[.int .i64 b, .int .i64 4] (W.drewN q) fun e w' => e = .returned (.int .i64 (regOf b : Nat)) ∧ ∃ q', w' = (W.drewN q).drewN q' := fun q => (reg_any b _).mono (by rintro e w' ⟨rfl, h⟩; exact ⟨rfl, 0, h⟩)
  clear P MW hreg
  go_quiet ((go_at_call 20; refine Calls.quiet_of (hreg2 _)))
  revert nq; intro p1
  clear hreg2
  have hK1 : Kp [] w (W.drewN p1) := HP.out.kp.drewN p1
  have GW := G.kp hK1 (by simp)
  have MA := (M.kp0 hK1).dom (regOf a) hra
  have MB := (M.kp0 hK1).dom (regOf b) hrb
  have hcall := d_inter GW MA.1 MA.2 MB.1 MB.2
  clear MA MB
  go_wp2_with fail
  refine hcall.mono ?_
  rintro e w2 h
  clear hcall
  rcases h with ⟨hn, r, rfl, hm⟩ | ⟨hb, rfl, k2⟩
  · have ms := MStep.dmod (M.kp0 hK1) (regOf a) hra hm
    have HN : Hid (¬ ((D (regOf a)).width ≠ (D (regOf b)).width)) := hn
    clear hn hm
    have hch := changed_any r .nilIface w2 ErrOk.nil
    go_wp2_with fail
    refine hch.mono ?_
    rintro e w3 ⟨rfl, k3⟩
    have B2 := (HP.out.res M ms.2 (fun x hx => .inr ⟨_, by omega, hx⟩)).1.kp k3 (by simp)
    unfold resV
    have r0 := B2.cell 0; have r1 := B2.cell 1; have r2 := B2.cell 2; have r3 := B2.cell 3; have r4 := B2.cell 4
    have z0 := B2.frozen 0; have z1 := B2.frozen 1; have z2 := B2.frozen 2; have z3 := B2.frozen 3; have z4 := B2.frozen 4
    simp [res0] at r0 r1 r2 r3 r4
    go_wp2_with fail
    refine bodyPost_ret (v := resV .nilIface r 0 (.slice none 0 0) ByteArray.empty) (by simp [results, Tryz.results29, go_sem, resV, r0, r1, r2, r3, r4]) rfl ?_
    exact .inl ⟨HN.out, _, _, _, _, _, _, rfl, HP.out.step M ms.1 ((k3.nil (M := [S + 1 + 1])).step (set5 _ _ _ _ _ _ _))⟩
  · have HB : Hid ((D (regOf a)).width ≠ (D (regOf b)).width) := hb
    clear hb
    have hch := changed_any false _ w2 (ErrOk.err ea 3)
    unfold errV at *
    go_wp2_with fail
    refine hch.mono ?_
    rintro e w3 ⟨rfl, k3⟩
    have B2 := (HP.out.res M k2 (by simp)).1.kp k3 (by simp)
    unfold resV
    have r0 := B2.cell 0; have r1 := B2.cell 1; have r2 := B2.cell 2; have r3 := B2.cell 3; have r4 := B2.cell 4
    have z0 := B2.frozen 0; have z1 := B2.frozen 1; have z2 := B2.frozen 2; have z3 := B2.frozen 3; have z4 := B2.frozen 4
    simp [res0] at r0 r1 r2 r3 r4
    go_wp2_with fail
    refine bodyPost_ret (v := resV (.iface 110 (.pointer (some (ea 3)))) false 0 (.slice none 0 0) ByteArray.empty) (by simp [results, Tryz.results29, go_sem, resV, r0, r1, r2, r3, r4]) rfl ?_
    exact .inr ⟨HB.out, _, rfl, HP.out.quiet (((k2.step k3).nil (M := [S + 1 + 1])).step (set5 _ _ _ _ _ _ _))⟩

end Go.Proofs.Qxb6500745aGreatDoor
