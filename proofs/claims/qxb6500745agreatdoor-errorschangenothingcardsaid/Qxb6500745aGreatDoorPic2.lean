import Derived.Test.Qxb6500745aGreatDoorPic
import Derived.Test.Qxb6500745aGreatDoorSet9
import Derived.Test.Qxb6500745aGreatDoorMap1
import Derived.ChangeKeysEq
namespace Go.Proofs.Qxb6500745aGreatDoor
open Go.RowKit

theorem eql_err (a : Addr) (w : World) : (binOp .eql 37 (.iface 110 (.pointer (some a))) (.iface 110 (.pointer (some a)))).run Tryz.prog w = .ok (.bool true) w := by
  obtain ⟨i, hi, hc⟩ := Option.map_eq_some_iff.1 (show (Tryz.prog.info? 110).map (·.comparable) = some true by kernel_rfl)
  obtain ⟨j, hj, _⟩ := Option.map_eq_some_iff.1 (show (Tryz.prog.info? 112).map (·.size) = some 1 by kernel_rfl)
  exact run_eql_iface_ptr_same w a Tryz.underlying37 Tryz.underlying110 hi hc hj

theorem eq3 (n : Nat) (a : Int) (w : World) : (Op.equalIn (n + 1) 3 (.int .i64 a) (.int .i64 a)).run Tryz.prog w = .ok true w := by
  simp [Op.equalIn, run_underlying Tryz.underlying3]

theorem neq31 (a b c d : Int) (w : World) : (binOp .neq 31 (.agg #[.int .i64 a, .int .i64 b, .int .i64 c, .int .i64 d]) (.agg #[.int .i64 a, .int .i64 b, .int .i64 c, .int .i64 d])).run Tryz.prog w = .ok (.bool false) w := by
  obtain ⟨i, hi, _⟩ := info_parts minfo3
  have hc : Tryz.prog.cellsOf 3 = 1 := by kernel_rfl
  have hp : ∀ (xs : Array Value) (j : Nat) (v : Value) (w : World), xs[j]? = some v → (part 3 xs j).run Tryz.prog w = .ok v w := fun xs j v w h => by
    simp [part, go_sem, h]
  have h0 := fun w => hp #[.int .i64 a, .int .i64 b, .int .i64 c, .int .i64 d] 0 _ w rfl
  have h1 := fun w => hp #[.int .i64 a, .int .i64 b, .int .i64 c, .int .i64 d] 1 _ w rfl
  have h2 := fun w => hp #[.int .i64 a, .int .i64 b, .int .i64 c, .int .i64 d] 2 _ w rfl
  have h3 := fun w => hp #[.int .i64 a, .int .i64 b, .int .i64 c, .int .i64 d] 3 _ w rfl
  have he := fun x w => eq3 9998 x w
  simp only [binOp]
  simp [Op.equal, Op.maxDepth, Go.run_equalIn_array w 9999 _ _ Tryz.underlying31 hi, hc, List.range, List.range.loop, Op.eqItems, h0, h1, h2, h3, he]

theorem equal_nil (w : World) : Calls Tryz.prog 16 #[.slice none 0 0, .slice none 0 0] w fun e w' => e = .returned (.bool true) ∧ ∃ q, w' = w.drewN q := by
  have := equal_row (w := w) (zs := []) (us := []) (f1 := []) (f2 := []) (.inl ⟨rfl, rfl, rfl⟩) (.inl ⟨rfl, rfl, rfl⟩) rfl rfl (by omega) (by omega)
  exact this

set_option maxRecDepth 100000 in
set_option maxHeartbeats 2000000 in
theorem same_core (a : Addr) (w : World) :
    Calls Tryz.prog 12 #[resV (.iface 110 (.pointer (some a))) false 0 (.slice none 0 0) ByteArray.empty, resV (.iface 110 (.pointer (some a))) false 0 (.slice none 0 0) ByteArray.empty] w fun e w' => e = .returned (.bool true) ∧ Kp [] w w' := by
  have h16 := fun w => equal_nil w
  have he := fun w => eql_err a w
  unfold resV
  go_enter Tryz.func12, Tryz.ntmps12
  go_wp2_with fail
  refine (h16 _).mono ?_
  rintro e w2 ⟨rfl, q, h2⟩
  rw [h2]; clear h2 w2
  go_wp2_with fail
  go_ret
  exact ⟨rfl, (((Kp.refl _ _).alloc _).alloc _).drewN q⟩

theorem picV_at0 (D : Nat → DomV) (s : Nat → Value) (j : Nat) (h : j < 4) : (picV D s 4 8)[4 + j]? = some (s j) := by
  match j, h with
  | 0, _ | 1, _ | 2, _ | 3, _ => rfl

theorem picV_at4 (D : Nat → DomV) (s : Nat → Value) (j : Nat) (h : j < 4) : (picV D s 4 8)[8 + j]? = some (s (4 + j)) := by
  match j, h with
  | 0, _ | 1, _ | 2, _ | 3, _ => rfl

theorem picV_at (D : Nat → DomV) (s : Nat → Value) (j : Nat) (h : j < 8) : (picV D s 4 8)[4 + j]? = some (s j) := by
  match j, h with
  | 0, _ | 1, _ | 2, _ | 3, _ | 4, _ | 5, _ | 6, _ | 7, _ => rfl

set_option maxRecDepth 100000 in
set_option maxHeartbeats 4000000 in
theorem samePic_any {w : World} {D : Nat → DomV} {Z : Nat → List Int} {s t : Nat → Value} (hs : ∀ j, j < 8 → ∃ f, IRow w (s j) (rowOf D Z j) f) (ht : ∀ j, j < 8 → ∃ f, IRow w (t j) (rowOf D Z j) f) (hl : ∀ j, j < 8 → (rowOf D Z j).length ≤ 2097152) :
    Calls Tryz.prog 11 #[.agg (picV D s 4 8), .agg (picV D t 4 8)] w fun e w' => e = .returned (.bool true) ∧ Kp [] w w' := by
  have hne := fun w => neq31 ((D 0).width : Nat) ((D 1).width : Nat) ((D 2).width : Nat) ((D 3).width : Nat) w
  obtain ⟨S, hS⟩ : ∃ S, S = w.heap.size := ⟨_, rfl⟩
  obtain ⟨W, hW⟩ : ∃ W, W = (w.alloc (.cells (picV D s 4 8) 34)).alloc (.cells (picV D t 4 8) 34) := ⟨_, rfl⟩
  have b0 : Blk W S 34 (picV D s 4 8) := by rw [hW, hS]; exact (Blk.new w 34 _).alloc _
  have b1 : Blk W (S + 1) 34 (picV D t 4 8) := by
    have := Blk.new (w.alloc (.cells (picV D s 4 8) 34)) 34 (picV D t 4 8)
    rw [hW, hS]; simpa using this
  have kW : Kp [] w W := by rw [hW]; exact ((Kp.refl _ _).alloc _).alloc _
  have H : Hid ((∀ j, j < 8 → ∃ f, IRow w (s j) (rowOf D Z j) f) ∧ (∀ j, j < 8 → ∃ f, IRow w (t j) (rowOf D Z j) f) ∧ (∀ j, j < 8 → (rowOf D Z j).length ≤ 2097152)) := ⟨hs, ht, hl⟩
  have HB : Hid (Blk W S 34 (picV D s 4 8) ∧ Blk W (S + 1) 34 (picV D t 4 8) ∧ Kp [] w W) := ⟨b0, b1, kW⟩
  clear hs ht hl b0 b1 kW
  simp only [picV, wdV, slV, Nat.reduceLT, ↓reduceIte] at hW ⊢
  go_enter Tryz.func11, Tryz.ntmps11
  go_wp2_with fail
  rw [← hW, ← hS]
  clear hW hS hne
  go_loopw [12] (fun s wr => ∃ i : Nat, s = .int .i64 i ∧ i ≤ 4 ∧ Kp [] W wr) (fun s _ => 4 - (intOf s).toNat)
  case atStart => exact ⟨0, rfl, Nat.zero_le _, Kp.refl _ _⟩
  case round =>
    obtain ⟨i, rfl, hi, kr⟩ := hrel
    have HK : Hid (Kp [] W wr) := kr
    by_cases hi4 : i < 4
    · have c0 := (HB.out.1.kp kr (by simp)).cell (4 + i)
      have c1 := (HB.out.2.1.kp kr (by simp)).cell (4 + i)
      rw [picV_at0 D s i (by omega)] at c0
      rw [picV_at0 D t i (by omega)] at c1
      obtain ⟨f1, r1⟩ := H.out.1 i (by omega)
      obtain ⟨f2, r2⟩ := H.out.2.1 i (by omega)
      have hl := H.out.2.2 i (by omega)
      obtain ⟨a1, e1, h1⟩ := r1.shape
      obtain ⟨a2, e2, h2⟩ := r2.shape
      rw [h1] at c0 r1
      rw [h2] at c1 r2
      have heq := fun q => equal_row (w := wr.drewN q) (r1.kp ((HB.out.2.2.step kr).drewN q) (by simp)) (r2.kp ((HB.out.2.2.step kr).drewN q) (by simp)) rfl rfl hl hl
      simp only [beq_self_eq_true] at heq
      clear r1 r2 h1 h2 hl kr
      go_wp2_with fail
      go_quiet ((go_at_call 16; refine Calls.quiet_of (heq _)))
      go_wp2_with fail
      go_roundw
      case rel => exact ⟨i + 1, by go_num, by omega, HK.out.drewN _⟩
      case measure => simp [intOf]; omega
    · go_wp2_with fail
      go_loopw [26] (fun s wr => ∃ i : Nat, s = .int .i64 i ∧ i ≤ 4 ∧ Kp [] W wr) (fun s _ => 4 - (intOf s).toNat)
      case atStart => exact ⟨0, rfl, Nat.zero_le _, HK.out⟩
      case round =>
        clear HK
        obtain ⟨i, rfl, hi, kr⟩ := hrel
        have HK : Hid (Kp [] W wr) := kr
        by_cases hi4 : i < 4
        · have c0 := (HB.out.1.kp kr (by simp)).cell (8 + i)
          have c1 := (HB.out.2.1.kp kr (by simp)).cell (8 + i)
          rw [picV_at4 D s i (by omega)] at c0
          rw [picV_at4 D t i (by omega)] at c1
          obtain ⟨f1, r1⟩ := H.out.1 (4 + i) (by omega)
          obtain ⟨f2, r2⟩ := H.out.2.1 (4 + i) (by omega)
          have hl := H.out.2.2 (4 + i) (by omega)
          obtain ⟨a1, e1, h1⟩ := r1.shape
          obtain ⟨a2, e2, h2⟩ := r2.shape
          rw [h1] at c0 r1
          rw [h2] at c1 r2
          have heq := fun q => equal_row (w := wr.drewN q) (r1.kp ((HB.out.2.2.step kr).drewN q) (by simp)) (r2.kp ((HB.out.2.2.step kr).drewN q) (by simp)) rfl rfl hl hl
          simp only [beq_self_eq_true] at heq
          clear r1 r2 h1 h2 hl kr
          go_wp2_with fail
          go_quiet ((go_at_call 16; refine Calls.quiet_of (heq _)))
          go_wp2_with fail
          go_roundw
          case rel => exact ⟨i + 1, by go_num, by omega, HK.out.drewN _⟩
          case measure => simp [intOf]; omega
        · go_wp2_with fail
          go_ret
          exact ⟨rfl, HB.out.2.2.step HK.out⟩

end Go.Proofs.Qxb6500745aGreatDoor
