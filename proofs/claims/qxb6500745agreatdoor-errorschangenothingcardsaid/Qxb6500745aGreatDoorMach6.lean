import Derived.Test.Qxb6500745aGreatDoorMach5
namespace Go.Proofs.Qxb6500745aGreatDoor
open Go.RowKit

theorem BadOp.range {k v u : Int} {zs : List Int} {A B : DomV} {n : Nat} (h : BadOp k v u zs A B n) : 0 ≤ k ∧ k ≤ 45 := by
  unfold BadOp at h; omega

theorem PreS.resM {w W w2 : World} {mb : Nat} {k a b c v u : Int} {xs : Value} {S : Nat} {pt : Nat → Nat} {D : Nat → DomV} {Z : Nat → List Int} {fp : Nat → List Nat} (P : PreS w k a b c v u xs S W) (M : Mach w mb pt D Z fp) (m : MStep W mb fp w2) : Blk w2 (S + 1) 39 res0 := by
  obtain ⟨_, _, _, _, L, _, _, h3, h4⟩ := m
  exact P.res M (p := 0) h3 h4

set_option maxRecDepth 100000 in
set_option maxHeartbeats 4000000 in
theorem step_any {ea : Nat → Addr} {w : World} {mb : Nat} {pt : Nat → Nat} {D : Nat → DomV} {Z : Nat → List Int} {fp : Nat → List Nat} (G : Glob ea w) (M : Mach w mb pt D Z fp) (k a b c v u : Int) (xs : Value) {B : Nat} {zs : List Int} (hx : XsAt B w xs zs) (hB : B ≤ w.heap.size) (hz : zs.length ≤ 65536) :
    Calls Tryz.prog 10 #[bp mb, .agg (opCells k a b c v u xs)] w (PStep w mb fp (BadOp k v u zs (D (regOf a)) (D (regOf b)) (Z (regOf a)).length)) := by
  obtain ⟨ax, cx, rfl⟩ := hx.shape
  have P := PreS.mk' w k a b c v u (.slice ax zs.length cx)
  have HBD : Hid (BadOp k v u zs (D (regOf a)) (D (regOf b)) (Z (regOf a)).length → 0 ≤ k ∧ k ≤ 45) := BadOp.range
  unfold bp opCells
  have hid := isDom_any k ((w.alloc (.cells (opCells k a b c v u (.slice ax zs.length cx)) 29)).alloc (.cells res0 39))
  have his := isSet_any k ((w.alloc (.cells (opCells k a b c v u (.slice ax zs.length cx)) 29)).alloc (.cells res0 39))
  have hsd := fun h0 h1 => stepDom_all (G.kp P.kp (by simp)) (M.kp0 P.kp) k a b c v u _ (hx.kp P.kp hB (by simp)) (Nat.le_trans hB P.kp.size) hz h0 h1
  have hss := fun h0 h1 => stepSet_all (G.kp P.kp (by simp)) (M.kp0 P.kp) k a b c v u _ (hx.kp P.kp hB (by simp)) (Nat.le_trans hB P.kp.size) hz h0 h1
  obtain ⟨bad, hbad⟩ : ∃ bad, bad = BadOp k v u zs (D (regOf a)) (D (regOf b)) (Z (regOf a)).length := ⟨_, rfl⟩
  rw [← hbad] at hsd hss HBD ⊢
  clear hbad
  unfold opCells res0 at hid his hsd hss P
  unfold bp at hsd hss
  by_cases hd : 0 ≤ k ∧ k ≤ 25
  · have hdd : decide (0 ≤ k ∧ k ≤ 25) = true := by simpa using hd
    rw [hdd] at hid
    have hsd' := hsd hd.1 hd.2
    clear hdd his hss hsd
    go_enter Tryz.func10, Tryz.ntmps10
    go_wp2_with fail
    generalize hS : w.heap.size = S at *
    generalize (w.alloc (Obj.cells
            #[Value.int IntKind.i64 k, Value.int IntKind.i64 a, Value.int IntKind.i64 b, Value.int IntKind.i64 c,
              Value.int IntKind.i64 v, Value.int IntKind.i64 u, Value.slice ax zs.length cx]
            29)).alloc
      (Obj.cells
        #[Value.nilIface, Value.bool false, Value.int IntKind.i64 0, Value.slice none 0 0, Value.string { data := #[] }]
        39) = W at *
    have HP : Hid (PreS w k a b c v u (.slice ax zs.length cx) S W) := P
    have c0 := P.b1.cell 0
    have c1 := P.b1.cell 1
    have c2 := P.b1.cell 2
    have c3 := P.b1.cell 3
    have c4 := P.b1.cell 4
    have c5 := P.b1.cell 5
    have c6 := P.b1.cell 6
    simp [opCells] at c0 c1 c2 c3 c4 c5 c6
    clear P
    refine hid.mono ?_
    rintro e w2 ⟨rfl, h2⟩
    rw [h2]; clear h2 w2 hid
    go_wp2_with fail
    refine hsd'.mono ?_
    rintro e w2 h
    clear hsd'
    rcases h with ⟨hn, r, i, al, nl, cl, t, rfl, hm⟩ | ⟨hb, p, rfl, k2⟩
    · have HN : Hid (¬ bad) := hn
      clear hn
      have B2 := HP.out.resM M hm
      unfold resV
      have r0 := B2.cell 0; have r1 := B2.cell 1; have r2 := B2.cell 2; have r3 := B2.cell 3; have r4 := B2.cell 4
      have z0 := B2.frozen 0; have z1 := B2.frozen 1; have z2 := B2.frozen 2; have z3 := B2.frozen 3; have z4 := B2.frozen 4
      simp [res0] at r0 r1 r2 r3 r4
      go_wp2_with fail
      refine bodyPost_ret (v := resV .nilIface r i (.slice al nl cl) t) (by simp [results, Tryz.results10, go_sem, resV, r0, r1, r2, r3, r4] <;> rfl) rfl ?_
      exact .inl ⟨HN.out, _, _, _, _, _, _, rfl, HP.out.step M (p := 0) hm (set5 _ _ _ _ _ _ _)⟩
    · have HB : Hid bad := hb
      clear hb
      have B2 := HP.out.res M (p := 0) k2 (by simp)
      unfold resV
      have r0 := B2.cell 0; have r1 := B2.cell 1; have r2 := B2.cell 2; have r3 := B2.cell 3; have r4 := B2.cell 4
      have z0 := B2.frozen 0; have z1 := B2.frozen 1; have z2 := B2.frozen 2; have z3 := B2.frozen 3; have z4 := B2.frozen 4
      simp [res0] at r0 r1 r2 r3 r4
      go_wp2_with fail
      refine bodyPost_ret (v := resV (.iface 110 (.pointer (some p))) false 0 (.slice none 0 0) ByteArray.empty) (by simp [results, Tryz.results10, go_sem, resV, r0, r1, r2, r3, r4] <;> rfl) rfl ?_
      exact .inr ⟨HB.out, _, rfl, HP.out.quiet (p := 0) ((k2.nil (M := [S + 1])).step (set5 _ _ _ _ _ _ _))⟩
  · have hdd : decide (0 ≤ k ∧ k ≤ 25) = false := by simpa using hd
    rw [hdd] at hid
    clear hdd hsd
    by_cases hs2 : 26 ≤ k ∧ k ≤ 45
    · have hss2 : decide (26 ≤ k ∧ k ≤ 45) = true := by simpa using hs2
      rw [hss2] at his
      have hss' := hss hs2.1 hs2.2
      clear hss2 hss
      go_enter Tryz.func10, Tryz.ntmps10
      go_wp2_with fail
      generalize hS : w.heap.size = S at *
      generalize (w.alloc (Obj.cells
              #[Value.int IntKind.i64 k, Value.int IntKind.i64 a, Value.int IntKind.i64 b, Value.int IntKind.i64 c,
                Value.int IntKind.i64 v, Value.int IntKind.i64 u, Value.slice ax zs.length cx]
              29)).alloc
        (Obj.cells
          #[Value.nilIface, Value.bool false, Value.int IntKind.i64 0, Value.slice none 0 0, Value.string { data := #[] }]
          39) = W at *
      have HP : Hid (PreS w k a b c v u (.slice ax zs.length cx) S W) := P
      have c0 := P.b1.cell 0
      have c1 := P.b1.cell 1
      have c2 := P.b1.cell 2
      have c3 := P.b1.cell 3
      have c4 := P.b1.cell 4
      have c5 := P.b1.cell 5
      have c6 := P.b1.cell 6
      simp [opCells] at c0 c1 c2 c3 c4 c5 c6
      clear P
      refine hid.mono ?_
      rintro e w2 ⟨rfl, h2⟩
      rw [h2]; clear h2 w2 hid
      go_wp2_with fail
      refine his.mono ?_
      rintro e w2 ⟨rfl, h2⟩
      rw [h2]; clear h2 w2 his
      go_wp2_with fail
      refine hss'.mono ?_
      rintro e w2 h
      clear hss'
      rcases h with ⟨hn, r, i, al, nl, cl, t, rfl, hm⟩ | ⟨hb, p, rfl, k2⟩
      · have HN : Hid (¬ bad) := hn
        clear hn
        have B2 := HP.out.resM M hm
        unfold resV
        have r0 := B2.cell 0; have r1 := B2.cell 1; have r2 := B2.cell 2; have r3 := B2.cell 3; have r4 := B2.cell 4
        have z0 := B2.frozen 0; have z1 := B2.frozen 1; have z2 := B2.frozen 2; have z3 := B2.frozen 3; have z4 := B2.frozen 4
        simp [res0] at r0 r1 r2 r3 r4
        go_wp2_with fail
        refine bodyPost_ret (v := resV .nilIface r i (.slice al nl cl) t) (by simp [results, Tryz.results10, go_sem, resV, r0, r1, r2, r3, r4] <;> rfl) rfl ?_
        exact .inl ⟨HN.out, _, _, _, _, _, _, rfl, HP.out.step M (p := 0) hm (set5 _ _ _ _ _ _ _)⟩
      · have HB : Hid bad := hb
        clear hb
        have B2 := HP.out.res M (p := 0) k2 (by simp)
        unfold resV
        have r0 := B2.cell 0; have r1 := B2.cell 1; have r2 := B2.cell 2; have r3 := B2.cell 3; have r4 := B2.cell 4
        have z0 := B2.frozen 0; have z1 := B2.frozen 1; have z2 := B2.frozen 2; have z3 := B2.frozen 3; have z4 := B2.frozen 4
        simp [res0] at r0 r1 r2 r3 r4
        go_wp2_with fail
        refine bodyPost_ret (v := resV (.iface 110 (.pointer (some p))) false 0 (.slice none 0 0) ByteArray.empty) (by simp [results, Tryz.results10, go_sem, resV, r0, r1, r2, r3, r4] <;> rfl) rfl ?_
        exact .inr ⟨HB.out, _, rfl, HP.out.quiet (p := 0) ((k2.nil (M := [S + 1])).step (set5 _ _ _ _ _ _ _))⟩
    · have hss2 : decide (26 ≤ k ∧ k ≤ 45) = false := by simpa using hs2
      rw [hss2] at his
      have HN : Hid (¬ bad) := fun h => by have := HBD.out h; omega
      clear hss2 hss HBD
      go_enter Tryz.func10, Tryz.ntmps10
      go_wp2_with fail
      generalize hS : w.heap.size = S at *
      generalize (w.alloc (Obj.cells
              #[Value.int IntKind.i64 k, Value.int IntKind.i64 a, Value.int IntKind.i64 b, Value.int IntKind.i64 c,
                Value.int IntKind.i64 v, Value.int IntKind.i64 u, Value.slice ax zs.length cx]
              29)).alloc
        (Obj.cells
          #[Value.nilIface, Value.bool false, Value.int IntKind.i64 0, Value.slice none 0 0, Value.string { data := #[] }]
          39) = W at *
      have HP : Hid (PreS w k a b c v u (.slice ax zs.length cx) S W) := P
      have c0 := P.b1.cell 0
      have c1 := P.b1.cell 1
      have c2 := P.b1.cell 2
      have c3 := P.b1.cell 3
      have c4 := P.b1.cell 4
      have c5 := P.b1.cell 5
      have c6 := P.b1.cell 6
      simp [opCells] at c0 c1 c2 c3 c4 c5 c6
      clear P
      refine hid.mono ?_
      rintro e w2 ⟨rfl, h2⟩
      rw [h2]; clear h2 w2 hid
      go_wp2_with fail
      refine his.mono ?_
      rintro e w2 ⟨rfl, h2⟩
      rw [h2]; clear h2 w2 his
      · have k2 : Kp [] (W.drewN 0) W := Kp.refl _ _
        have B2 := HP.out.res M (p := 0) k2 (by simp)
        have r0 := B2.cell 0; have r1 := B2.cell 1; have r2 := B2.cell 2; have r3 := B2.cell 3; have r4 := B2.cell 4
        have z0 := B2.frozen 0; have z1 := B2.frozen 1; have z2 := B2.frozen 2; have z3 := B2.frozen 3; have z4 := B2.frozen 4
        simp [res0] at r0 r1 r2 r3 r4
        go_wp2_with fail
        refine bodyPost_ret (v := resV .nilIface false 0 (.slice none 0 0) ByteArray.empty) (by simp [results, Tryz.results10, go_sem, resV, r0, r1, r2, r3, r4] <;> rfl) rfl ?_
        exact .inl ⟨HN.out, _, _, _, _, _, _, rfl, HP.out.step M (p := 0) (MStep.same (M.kp0 HP.out.kp) k2) (set5 _ _ _ _ _ _ _)⟩

end Go.Proofs.Qxb6500745aGreatDoor
