import Derived.Test.Qxb6500745aGreatDoorMach2
namespace Go.Proofs.Qxb6500745aGreatDoor
open Go.RowKit

set_option maxRecDepth 100000 in
set_option maxHeartbeats 4000000 in
theorem stepDom_17 {ea : Nat → Addr} {w : World} {mb : Nat} {pt : Nat → Nat} {D : Nat → DomV} {Z : Nat → List Int} {fp : Nat → List Nat} (G : Glob ea w) (M : Mach w mb pt D Z fp) (a b c v u : Int) (xs : Value) :
    Calls Tryz.prog 29 #[bp mb, .agg (opCells 17 a b c v u xs)] w (PStep w mb fp (False)) := by
  have P := Pre.mk' w mb 17 a b c v u xs (regOf a)
  have hra := regOf_lt a
  have hrb := regOf_lt b
  unfold bp opCells
  have hreg := fun a w => reg_any a w
  go_enter Tryz.func29, Tryz.ntmps29
  go_wp2_with (go_at_call 20; refine (hreg _ _).mono ?_; rintro e w2 ⟨rfl, h2⟩; rw [h2]; clear h2 w2)
  unfold opCells at P
  unfold res0 at P
  generalize hS : w.heap.size = S at *
  generalize (((w.alloc (Obj.cells #[Value.pointer (some { block := mb, off := 0 })] 24)).alloc
          (Obj.cells
            #[Value.int IntKind.i64 17, Value.int IntKind.i64 a, Value.int IntKind.i64 b, Value.int IntKind.i64 c,
              Value.int IntKind.i64 v, Value.int IntKind.i64 u, xs]
            29)).alloc
      (Obj.cells
        #[Value.nilIface, Value.bool false, Value.int IntKind.i64 0, Value.slice none 0 0, Value.string { data := #[] }]
        39)).alloc
    (Obj.cells #[Value.int IntKind.i64 ↑(regOf a)] 3) = W at *
  have HP : Hid (Pre w mb 17 a b c v u xs (regOf a) S W) := P
  have MW := M.kp0 P.kp
  have c0 := P.b0.cell 0
  have c1 := P.b1.cell 0
  have c2 := P.b1.cell 2
  have c3 := P.b3.cell 0
  have c4 := P.b1.cell 4
  have c5 := P.b1.cell 5
  have c6 := P.b1.cell 6
  have ca := MW.blk.cell (regOf a)
  have cb := MW.blk.cell (regOf b)
  rw [machCells_get _ _ (by omega)] at ca cb
  unfold bp at ca cb
  simp [opCells] at c0 c1 c2 c3 c4 c5 c6
  have hreg2 : ∀ q, Calls Tryz.prog 20 #[.int .i64 b, .int .i64 4] (W.drewN q) fun e w' => e = .returned (.int .i64 (regOf b : Nat)) ∧ ∃ q', w' = (W.drewN q).drewN q' := fun q => (reg_any b _).mono (by rintro e w' ⟨rfl, h⟩; exact ⟨rfl, 0, h⟩)
  clear P MW hreg
  go_quiet ((go_at_call 20; refine Calls.quiet_of (hreg2 _)))
  revert nq; intro p1
  clear hreg2
  have hK1 : Kp [] w (W.drewN p1) := HP.out.kp.drewN p1
  have GW := G.kp hK1 (by simp)
  have MA := (M.kp0 hK1).dom (regOf a) hra
  have MB := (M.kp0 hK1).dom (regOf b) hrb
  have hS8 : 8 ≤ (W.drewN p1).heap.size := GW.size
  have hqq : ∀ q, Kp [] (W.drewN p1) (W.drewN q) := fun q => ⟨rfl, rfl, rfl, Nat.le_refl _, fun _ _ _ => rfl⟩
  have hcall : ∀ q, Calls Tryz.prog 75 #[.pointer (some ⟨pt (regOf b), 0, none⟩)] (W.drewN q) fun e w' => ∃ b', e = .returned (.pointer (some ⟨b', 0, none⟩)) ∧ DNew (W.drewN p1) (D (regOf b)).width b' w' := fun q => by
    refine (d_clone (w := W.drewN q) hS8 (MB.1.kp (hqq q) (by simp)) MB.2).mono ?_
    rintro e w' ⟨b', rfl, Dn, f, m1, m2, m3, m4, m5⟩
    exact ⟨b', rfl, Dn, f, m1, m2, m3, m4, (hqq q).step m5⟩
  clear MA MB
  have HN : Hid (¬ False) := not_false
  have hcall2 : ∀ q, Calls Tryz.prog 75 #[.pointer (some ⟨pt (regOf b), 0, none⟩)] (W.drewN q) fun e w' => ∃ b', e = .returned (.pointer (some ⟨b', 0, none⟩)) ∧ Hid (DNew (W.drewN p1) (D (regOf b)).width b' w') ∧ w'.cell? ⟨S, 0, none⟩ = some (.pointer (some ⟨mb, 0, none⟩)) ∧ w'.cell? ⟨S + 1 + 1 + 1, 0, none⟩ = some (.int .i64 (regOf a : Nat)) ∧ w'.cell? ⟨mb, regOf a, none⟩ = some (bp (pt (regOf a))) ∧ w'.frozen? ⟨mb, regOf a, none⟩ = false := fun q => by
    refine (hcall q).mono ?_
    rintro e w' ⟨b', rfl, hm⟩
    have k2 : Kp [] (W.drewN p1) w' := by obtain ⟨_, _, _, _, _, _, h⟩ := hm; exact h
    obtain ⟨y1, y2, y3⟩ := HP.out.res M k2 (by simp)
    have y4 := ((M.kp0 hK1).kp0 k2).blk
    exact ⟨b', rfl, hm, by rw [y2.cell]; rfl, by rw [y3.cell]; rfl, by rw [y4.cell, machCells_get _ _ (by omega)], y4.frozen _⟩
  clear hcall
  unfold bp at hcall2
  go_wp2_with fail
  go_region_with (go_at_call 75; refine (hcall2 _).mono ?_; rintro e w2 ⟨b', rfl, hm, x0, x3, xm, xf⟩)
  all_goals
    have k2 : Kp [] (W.drewN p1) w2 := by obtain ⟨_, _, _, _, _, _, h⟩ := hm.out; exact h
    have ms := MStep.dnew (M.kp0 hK1) (regOf a) hra hm.out
    have B2 := ((HP.out.res M k2 (by simp)).1).other (p := ⟨mb, regOf a, none⟩) (by have := M.blk.lt; show S + 1 + 1 ≠ mb; omega) (bp b')
    unfold bp at B2 ms
    have r0 := B2.cell 0; have r1 := B2.cell 1; have r2 := B2.cell 2; have r3 := B2.cell 3; have r4 := B2.cell 4
    have z0 := B2.frozen 0; have z1 := B2.frozen 1; have z2 := B2.frozen 2; have z3 := B2.frozen 3; have z4 := B2.frozen 4
    simp [res0] at r0 r1 r2 r3 r4
    go_wp2_with fail
    refine bodyPost_ret (v := resV .nilIface false 0 (.slice none 0 0) ByteArray.empty) (by simp [results, Tryz.results29, go_sem, resV, r0, r1, r2, r3, r4] <;> rfl) rfl ?_
    exact .inl ⟨HN.out, _, _, _, _, _, _, rfl, HP.out.step M ms (set5 _ _ _ _ _ _ _)⟩

end Go.Proofs.Qxb6500745aGreatDoor
