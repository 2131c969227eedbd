import Derived.Test.Qxb6500745aGreatDoorOut0
import Derived.Deep.Cut
import Derived.Laws.EntriesVeiled
namespace Go.Proofs.Qxb6500745aGreatDoor
open Go.RowKit

def PBad (w : World) (bad : Prop) (e : Ending) (w' : World) : Prop := ∃ r : Bool, e = .returned (.bool r) ∧ (r = true ↔ bad) ∧ Kp [] w w'

theorem pred25 {w : World} {p : Nat} {V : Int} (hp : w.cell? ⟨p, 4, none⟩ = some (.int .i64 V)) (hl : p < w.heap.size) : PredAt Tryz.prog 25 #[.pointer (some ⟨p, 0, none⟩)] (Value.int .i64) (fun x => decide (¬ (0 ≤ x ∧ x < V))) w := fun W x hb => by
  refine (offV_any (V := V) (by rw [hb.cell (p := ⟨p, 4, none⟩) hl]; exact hp) x).mono ?_
  rintro e w' ⟨rfl, rfl⟩
  exact ⟨rfl, 0, rfl⟩

theorem pred26 {w : World} {p : Nat} (hp : w.cell? ⟨p, 0, none⟩ = some (.func (.func 23) #[] #[])) (hl : p < w.heap.size) : PredAt Tryz.prog 26 #[.pointer (some ⟨p, 0, none⟩)] (Value.int .i64) (fun x => !decide (0 ≤ x ∧ x ≤ 1048575)) w := fun W x hb => by
  refine (notID_any (by rw [hb.cell (p := ⟨p, 0, none⟩) hl]; exact hp) x).mono ?_
  rintro e w' ⟨rfl, rfl⟩
  exact ⟨rfl, 0, rfl⟩

structure OW (w : World) (mb : Nat) (pt : Nat → Nat) (D : Nat → DomV) (Z : Nat → List Int) (fp : Nat → List Nat) (k a b c v u : Int) (xs : Value) (S : Nat) (W : World) : Prop where
  kp : Kp [] w W
  m : Mach W mb pt D Z fp
  b0 : Blk W S 29 #[.int .i64 k, .int .i64 a, .int .i64 b, .int .i64 c, .int .i64 v, .int .i64 u, xs]
  b1 : Blk W (S + 1) 43 #[.pointer (some ⟨pt (regOf a), 0, none⟩)]
  b2 : Blk W (S + 1 + 1) 64 #[.func (.func 23) #[] #[]]

set_option maxRecDepth 100000 in
set_option maxHeartbeats 4000000 in
theorem out_any {w : World} {mb : Nat} {pt : Nat → Nat} {D : Nat → DomV} {Z : Nat → List Int} {fp : Nat → List Nat} (M : Mach w mb pt D Z fp) (k a b c v u : Int) (xs : Value) {B : Nat} {zs : List Int} (hx : XsAt B w xs zs) (hB : B ≤ w.heap.size) (hz : zs.length ≤ 65536) :
    Calls Tryz.prog 8 #[bp mb, .agg (opCells k a b c v u xs)] w (PBad w (BadOp k v u zs (D (regOf a)) (D (regOf b)) (Z (regOf a)).length)) := by
  have B0 : Blk (w.alloc (.cells (opCells k a b c v u xs) 29)) w.heap.size 29 (opCells k a b c v u xs) := Blk.new w 29 _
  have K0 : Kp [] w (w.alloc (.cells (opCells k a b c v u xs) 29)) := (Kp.refl _ _).alloc _
  have hra := regOf_lt a
  have hrb := regOf_lt b
  have HX : Hid (XsAt B w xs zs ∧ B ≤ w.heap.size ∧ zs.length ≤ 65536) := ⟨hx, hB, hz⟩
  obtain ⟨ax, cx, rfl⟩ := hx.shape
  generalize hbad : BadOp k v u zs (D (regOf a)) (D (regOf b)) (Z (regOf a)).length = bad
  have HBAD : Hid (BadOp k v u zs (D (regOf a)) (D (regOf b)) (Z (regOf a)).length = bad) := hbad
  clear hx hB hz hbad
  generalize hzl : zs.length = lz at *
  have HZL : Hid (zs.length = lz) := hzl
  clear hzl
  unfold bp opCells
  go_enter Tryz.func8, Tryz.ntmps8
  go_wp2_with fail
  unfold opCells at B0 K0
  have MW := M.kp0 K0
  have hsz : (w.alloc (.cells #[Value.int IntKind.i64 k, Value.int IntKind.i64 a, Value.int IntKind.i64 b, Value.int IntKind.i64 c, Value.int IntKind.i64 v, Value.int IntKind.i64 u, Value.slice ax lz cx] 29)).heap.size = w.heap.size + 1 := by simp
  generalize hS : w.heap.size = S at *
  generalize w.alloc (.cells #[Value.int IntKind.i64 k, Value.int IntKind.i64 a, Value.int IntKind.i64 b, Value.int IntKind.i64 c, Value.int IntKind.i64 v, Value.int IntKind.i64 u, Value.slice ax lz cx] 29) = W at *
  have c0 := B0.cell 0
  have c1 := B0.cell 1
  have c2 := B0.cell 2
  have c4 := B0.cell 4
  simp at c0 c1 c2 c4
  have ca : W.cell? ⟨mb, regOf a, none⟩ = some (.pointer (some ⟨pt (regOf a), 0, none⟩)) := by rw [MW.blk.cell, machCells_get _ _ (by omega)]; rfl
  have hreg := fun w => reg_any a w
  have hraI : ((regOf a : Nat) : Int) < 4 := by omega
  have hrbI : ((regOf b : Nat) : Int) < 4 := by omega
  have hmbS : mb < S + 1 := by have := M.blk.lt; omega
  have hmbn : mb ≠ S + 1 := by omega
  go_upto_region 1 with fail
  go_cut [5] from 9 (fun s5 wx => s5 = .pointer (some ⟨S + 1, 0, none⟩) ∧ ∃ q, wx = (W.alloc (.cells #[.pointer (some ⟨pt (regOf a), 0, none⟩)] 43)).drewN q)
  case first =>
    go_region_with (go_at_call 20; refine (hreg _).mono ?_; rintro e w2 ⟨rfl, h2⟩; rw [h2]; clear h2 w2)
    all_goals
      go_wp2_with fail
      go_meet
      case rel => exact ⟨rfl, _, rfl⟩
  case rest =>
    obtain ⟨rfl, q, hq⟩ := hcut
    have K1 : Kp [] w wc := by rw [hq]; exact (K0.alloc _).drewN q
    have B1 : Blk wc S 29 #[Value.int IntKind.i64 k, Value.int IntKind.i64 a, Value.int IntKind.i64 b, Value.int IntKind.i64 c, Value.int IntKind.i64 v, Value.int IntKind.i64 u, Value.slice ax lz cx] := by rw [hq]; exact (B0.alloc _).drewN q
    have B2 : Blk wc (S + 1) 43 #[.pointer (some ⟨pt (regOf a), 0, none⟩)] := by
      rw [hq, ← hsz]; exact (Blk.new W 43 _).drewN q
    have hs2 : wc.heap.size = S + 1 + 1 := by rw [hq]; simp [hsz]
    clear hq
    have M1 := M.kp0 K1
    have d2 := B1.cell 2
    simp at d2
    have cb : wc.cell? ⟨mb, regOf b, none⟩ = some (.pointer (some ⟨pt (regOf b), 0, none⟩)) := by rw [M1.blk.cell, machCells_get _ _ (by omega)]; rfl
    have hreg2 : ∀ q x, Calls Tryz.prog 20 #[.int .i64 x, .int .i64 4] (wc.drewN q) fun e w' => e = .returned (.int .i64 (regOf x : Nat)) ∧ ∃ q', w' = (wc.drewN q).drewN q' := fun q x => (reg_any x _).mono (by rintro e w' ⟨rfl, h⟩; exact ⟨rfl, 0, h⟩)
    have HM : Hid (Mach wc mb pt D Z fp ∧ Kp [] w wc ∧ wc.heap.size = S + 1 + 1) := ⟨M1, K1, hs2⟩
    have HB1 : Hid (Blk wc S 29 #[Value.int IntKind.i64 k, Value.int IntKind.i64 a, Value.int IntKind.i64 b, Value.int IntKind.i64 c, Value.int IntKind.i64 v, Value.int IntKind.i64 u, Value.slice ax lz cx]) := B1
    have HB2 : Hid (Blk wc (S + 1) 43 #[.pointer (some ⟨pt (regOf a), 0, none⟩)]) := B2
    clear M1 B1 B2 MW B0 K0 K1 c0 c1 c2 c4 ca hsz hreg
    go_wp2_with fail
    go_quiet ((go_at_call 20; refine Calls.quiet_of (hreg2 _ _)))
    revert nq; intro p1
    clear hreg2 d2 cb
    have B3 : Blk ((wc.drewN p1).alloc (.cells #[.nilFunc] 64)) (S + 1 + 1) 64 #[.nilFunc] := by rw [← hs2]; exact Blk.new (wc.drewN p1) 64 _
    have q1 := B3.cell 0
    have q2 := B3.frozen 0
    simp at q1
    go_upto_region 5 with fail
    clear q1 q2 B3
    have ow : OW w mb pt D Z fp k a b c v u (.slice ax lz cx) S ((wc.drewN p1).alloc (Obj.cells #[Value.func (Fn.func 23) #[] #[]] 64)) := by
      have k2 : Kp [] wc ((wc.drewN p1).alloc (Obj.cells #[Value.func (Fn.func 23) #[] #[]] 64)) := ((Kp.refl _ _).drewN p1).alloc _
      refine ⟨HM.out.2.1.step k2, HM.out.1.kp0 k2, HB1.out.kp k2 (by simp), HB2.out.kp k2 (by simp), ?_⟩
      rw [← hs2]; exact Blk.new (wc.drewN p1) 64 _
    clear HM HB1 HB2
    generalize (wc.drewN p1).alloc (Obj.cells #[Value.func (Fn.func 23) #[] #[]] 64) = W2 at *
    have HO : Hid (OW w mb pt D Z fp k a b c v u (.slice ax lz cx) S W2) := ow
    have c0 := ow.b0.cell 0
    have c1 := ow.b0.cell 1
    have c4 := ow.b0.cell 4
    have c5 := ow.b0.cell 5
    have c6 := ow.b0.cell 6
    have e0 := ow.b1.cell 0
    have g0 := ow.b2.cell 0
    simp at c0 c1 c4 c5 c6 e0 g0
    have hA := (ow.m.dom (regOf a) hra)
    have hBd := (ow.m.dom (regOf b) hrb)
    have HXW : Hid (XsAt B W2 (.slice ax lz cx) zs ∧ lz ≤ 65536) := ⟨by have := HX.out; exact this.1.kp ow.kp (by omega) (by simp), HX.out.2.2⟩
    have hin := fun x => inDom_any hA.1 hA.2 e0 x
    have hwA := d_width hA.1 hA.2
    have hwB := d_width hBd.1 hBd.2
    have hbl := ow.b0.lt
    have hbl2 := ow.b2.lt
    clear hA hBd ow HX hs2
    have hk : (k = 0 ∨ k = 1) ∨ k = 2 ∨ (k = 3 ∨ k = 4 ∨ k = 5 ∨ k = 9 ∨ k = 10 ∨ k = 16) ∨ k = 15 ∨ (k = 18 ∨ k = 19 ∨ k = 20 ∨ k = 21 ∨ k = 22 ∨ k = 23) ∨ k = 26 ∨ (k = 27 ∨ k = 28 ∨ k = 29) ∨ k = 31 ∨ (k ≠ 0 ∧ k ≠ 1 ∧ k ≠ 2 ∧ k ≠ 3 ∧ k ≠ 4 ∧ k ≠ 5 ∧ k ≠ 9 ∧ k ≠ 10 ∧ k ≠ 16 ∧ k ≠ 15 ∧ k ≠ 18 ∧ k ≠ 19 ∧ k ≠ 20 ∧ k ≠ 21 ∧ k ≠ 22 ∧ k ≠ 23 ∧ k ≠ 26 ∧ k ≠ 27 ∧ k ≠ 28 ∧ k ≠ 29 ∧ k ≠ 31) := by omega
    rcases hk with h | h | h | h | h | h | h | h | h
    · clear hin hwA hwB e0 g0
      rcases h with rfl | rfl
      all_goals
        by_cases h0 : v < 0
        · go_wp2_with fail
          go_ret
          refine ⟨_, rfl, ?_, HO.out.kp⟩
          rw [← HBAD.out]; simp [BadOp, badW] <;> omega
        · by_cases h1 : v > 4096
          · go_wp2_with fail
            go_ret
            refine ⟨_, rfl, ?_, HO.out.kp⟩
            rw [← HBAD.out]; simp [BadOp, badW] <;> omega
          · go_wp2_with fail
            go_ret
            refine ⟨_, rfl, ?_, HO.out.kp⟩
            rw [← HBAD.out]; simp [BadOp, badW] <;> omega
    · clear hin hwA hwB e0 g0
      subst h
      have hco := contains_xs HXW.out.1 (by rw [HZL.out]; exact HXW.out.2) _ 25 _ (enters_of Tryz.func25 (by kernel_rfl) rfl) (pred25 c4 hbl)
      by_cases h0 : v < 0
      · clear hco
        go_wp2_with fail
        go_ret
        refine ⟨_, rfl, ?_, HO.out.kp⟩
        rw [← HBAD.out]; simp [BadOp, badW] <;> omega
      · by_cases h1 : v > 4096
        · clear hco
          go_wp2_with fail
          go_ret
          refine ⟨_, rfl, ?_, HO.out.kp⟩
          rw [← HBAD.out]; simp [BadOp, badW] <;> omega
        · have HV : Hid (¬ v < 0 ∧ ¬ v > 4096) := ⟨h0, h1⟩
          go_wp2_with fail
          refine hco.mono ?_
          rintro e w3 ⟨rfl, q3, h3⟩
          rw [h3]; clear h3 w3 hco
          generalize hany : zs.any _ = r
          have HA : Hid (r = true ↔ ∃ x ∈ zs, ¬ (0 ≤ x ∧ x < v)) := by
            show r = true ↔ ∃ x ∈ zs, ¬ (0 ≤ x ∧ x < v)
            rw [← hany]; simp only [List.any_eq_true, decide_eq_true_eq]
          clear hany
          go_wp2_with fail
          go_ret
          refine ⟨r, rfl, ?_, HO.out.kp.drewN q3⟩
          rw [← HBAD.out, HA.out]
          have := HV.out
          simp [BadOp, badW]; omega
    · clear hwA hwB g0
      have hin := hin v
      rcases h with rfl | rfl | rfl | rfl | rfl | rfl
      all_goals
        go_wp2_with (go_at_call 21; refine hin.mono ?_; rintro e w3 ⟨rfl, h3⟩; rw [h3]; clear h3 w3)
        go_ret
        refine ⟨_, rfl, ?_, HO.out.kp⟩
        rw [← HBAD.out]; simp [BadOp, outR] <;> omega
    · clear hwA hwB g0
      subst h
      have h1 := hin v
      have h2 := hin u
      clear hin
      by_cases hv : 0 ≤ v ∧ v < (D (regOf a)).width
      · have hd : decide (0 ≤ v ∧ v < ((D (regOf a)).width : Int)) = true := by simpa using hv
        rw [hd] at h1
        have HV : Hid (0 ≤ v ∧ v < ((D (regOf a)).width : Int)) := hv
        clear hd hv
        go_wp2_with fail
        refine h1.mono ?_
        rintro e w3 ⟨rfl, h3⟩
        rw [h3]; clear h3 w3 h1
        go_wp2_with fail
        refine h2.mono ?_
        rintro e w3 ⟨rfl, h3⟩
        rw [h3]; clear h3 w3 h2
        go_wp2_with fail
        go_ret
        refine ⟨_, rfl, ?_, HO.out.kp⟩
        have := HV.out
        rw [← HBAD.out]; simp [BadOp, outR, this] <;> omega
      · have hd : decide (0 ≤ v ∧ v < ((D (regOf a)).width : Int)) = false := by simpa using hv
        rw [hd] at h1
        have HV : Hid (¬ (0 ≤ v ∧ v < ((D (regOf a)).width : Int))) := hv
        clear hd hv h2
        go_wp2_with fail
        refine h1.mono ?_
        rintro e w3 ⟨rfl, h3⟩
        rw [h3]; clear h3 w3 h1
        go_wp2_with fail
        go_ret
        refine ⟨_, rfl, ?_, HO.out.kp⟩
        have := HV.out
        rw [← HBAD.out]; simp [BadOp, outR, this] <;> omega
    · clear hin g0
      have HW : Hid (True) := trivial
      rcases h with rfl | rfl | rfl | rfl | rfl | rfl
      all_goals
        go_wp2_with fail
        refine hwA.mono ?_
        rintro e w3 ⟨rfl, h3⟩
        rw [h3]; clear h3 w3 hwA
        go_wp2_with fail
        refine hwB.mono ?_
        rintro e w3 ⟨rfl, h3⟩
        rw [h3]; clear h3 w3 hwB
        go_wp2_with fail
        go_ret
        refine ⟨_, rfl, ?_, HO.out.kp⟩
        rw [← HBAD.out]; simp [BadOp] <;> omega
    · clear hin hwA hwB e0
      subst h
      have hco := contains_xs HXW.out.1 (by rw [HZL.out]; exact HXW.out.2) _ 26 _ (enters_of Tryz.func26 (by kernel_rfl) rfl) (pred26 g0 hbl2)
      go_wp2_with fail
      refine hco.mono ?_
      rintro e w3 ⟨rfl, q3, h3⟩
      rw [h3]; clear h3 w3 hco
      generalize hany : zs.any _ = r
      have HA : Hid (r = true ↔ ∃ x ∈ zs, badID x) := by
        show r = true ↔ ∃ x ∈ zs, badID x
        rw [← hany]; simp only [List.any_eq_true, badID, Bool.not_eq_true', decide_eq_false_iff_not]
      clear hany
      go_wp2_with fail
      go_ret
      refine ⟨r, rfl, ?_, HO.out.kp.drewN q3⟩
      rw [← HBAD.out, HA.out]
      simp [BadOp]
    · clear hin hwA hwB e0
      have hid := isID_any v W2
      rcases h with rfl | rfl | rfl
      all_goals
        go_wp2_with (go_at_call 23; refine hid.mono ?_; rintro e w3 ⟨rfl, h3⟩; rw [h3]; clear h3 w3)
        go_ret
        refine ⟨_, rfl, ?_, HO.out.kp⟩
        rw [← HBAD.out]; simp [BadOp, badID] <;> omega
    · clear hin hwA hwB e0 g0
      subst h
      have hln := fun q => (s_len ((HO.out.m.set (regOf a) hra).1.kp (Kp.dN W2 q) (by simp))).mono (R' := fun e w' => e = .returned (.int .i64 ((Z (regOf a)).length : Nat)) ∧ ∃ q', w' = (W2.drewN q).drewN q') (by rintro e w' ⟨rfl, h⟩; exact ⟨rfl, 0, h⟩)
      have hreg2 : ∀ q x, Calls Tryz.prog 20 #[.int .i64 x, .int .i64 4] (W2.drewN q) fun e w' => e = .returned (.int .i64 (regOf x : Nat)) ∧ ∃ q', w' = (W2.drewN q).drewN q' := fun q x => (reg_any x _).mono (by rintro e w' ⟨rfl, h⟩; exact ⟨rfl, 0, h⟩)
      have cs : W2.cell? ⟨mb, 4 + regOf a, none⟩ = some (.pointer (some ⟨pt (regOf a + 4), 0, none⟩)) := by rw [HO.out.m.blk.cell, machCells_get _ _ (by omega), Nat.add_comm 4]; rfl
      by_cases h0 : v < 0
      · go_wp2_with fail
        go_quiet (fail)
        go_wp2_with fail
        go_ret
        refine ⟨_, rfl, ?_, HO.out.kp.drewN _⟩
        rw [← HBAD.out]; simp [BadOp] <;> omega
      · go_wp2_with fail
        go_quiet (first | (go_at_call 20; refine Calls.quiet_of (hreg2 _ _)) | (go_at_call 15; refine Calls.quiet_of (hln _)))
        go_wp2_with fail
        go_ret
        refine ⟨_, rfl, ?_, HO.out.kp.drewN _⟩
        rw [← HBAD.out]; simp [BadOp] <;> omega
    · clear hin hwA hwB e0 g0
      obtain ⟨h1, h2, h3, h4, h5, h6, h7, h8, h9, h10, h11, h12, h13, h14, h15, h16, h17, h18, h19, h20, h21⟩ := h
      have HK : Hid (k ≠ 0 ∧ k ≠ 1 ∧ k ≠ 2 ∧ k ≠ 3 ∧ k ≠ 4 ∧ k ≠ 5 ∧ k ≠ 9 ∧ k ≠ 10 ∧ k ≠ 16 ∧ k ≠ 15 ∧ k ≠ 18 ∧ k ≠ 19 ∧ k ≠ 20 ∧ k ≠ 21 ∧ k ≠ 22 ∧ k ≠ 23 ∧ k ≠ 26 ∧ k ≠ 27 ∧ k ≠ 28 ∧ k ≠ 29 ∧ k ≠ 31) := ⟨h1, h2, h3, h4, h5, h6, h7, h8, h9, h10, h11, h12, h13, h14, h15, h16, h17, h18, h19, h20, h21⟩
      go_wp2_with fail
      go_ret
      refine ⟨_, rfl, ?_, HO.out.kp⟩
      have := HK.out
      rw [← HBAD.out]; simp [BadOp] <;> omega

end Go.Proofs.Qxb6500745aGreatDoor
