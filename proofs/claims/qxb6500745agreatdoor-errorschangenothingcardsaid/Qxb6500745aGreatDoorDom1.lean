import Derived.Test.Qxb6500745aGreatDoorDom0
import Derived.Test.Qxb6500745aGreatDoorSwar
namespace Go.Proofs.Qxb6500745aGreatDoor
open Go.RowKit

theorem wrap_u64 (x : Nat) (h : x < W64) : IntKind.u64.wrap (x : Int) = (x : Int) := by
  unfold W64 at h
  simp [IntKind.wrap, IntKind.signed, IntKind.bits]; omega

set_option maxHeartbeats 400000 in
theorem ones_core (x a1 a2 s1 b1 b2 s2 c s3 s4 s5 s6 r : Nat) (w : World)
    (h1 : bits BinOp.and IntKind.u64 ((x : Int) / 2) 6148914691236517205 = (a1 : Int)) (h2 : bits BinOp.and IntKind.u64 (x : Int) 6148914691236517205 = (a2 : Int))
    (h3 : IntKind.u64.wrap ((a1 : Int) + a2) = (s1 : Int)) (h4 : bits BinOp.and IntKind.u64 ((s1 : Int) / 4) 3689348814741910323 = (b1 : Int)) (h5 : bits BinOp.and IntKind.u64 (s1 : Int) 3689348814741910323 = (b2 : Int))
    (h6 : IntKind.u64.wrap ((b1 : Int) + b2) = (s2 : Int)) (h7 : IntKind.u64.wrap ((s2 : Int) / 16 + s2) = (c : Int)) (h8 : bits BinOp.and IntKind.u64 (c : Int) 1085102592571150095 = (s3 : Int))
    (h9 : IntKind.u64.wrap ((s3 : Int) + s3 / 256) = (s4 : Int)) (h10 : IntKind.u64.wrap ((s4 : Int) + s4 / 65536) = (s5 : Int)) (h11 : IntKind.u64.wrap ((s5 : Int) + s5 / 4294967296) = (s6 : Int))
    (h12 : wrap64 (s6 : Int) = (s6 : Int)) (h13 : bits BinOp.and IntKind.i64 (s6 : Int) 127 = (r : Int)) :
    Calls Tryz.prog 118 #[.int .u64 x] w fun e w' => e = .returned (.int .i64 (r : Int)) ∧ w' = w := by
  go_enter Tryz.func118, Tryz.ntmps118
  go_wp2
  go_ret
  exact ⟨rfl, rfl⟩

theorem and127 (x : Nat) (h : x < 9223372036854775808) : bits BinOp.and IntKind.i64 (x : Int) 127 = ((x % 128 : Nat) : Int) := by
  have h1 : (BitVec.ofInt 64 (x : Int)).toNat = x := by
    rw [BitVec.ofInt_natCast, BitVec.toNat_ofNat]; exact Nat.mod_eq_of_lt (by omega)
  show IntKind.i64.wrap ((BitVec.ofInt 64 (x : Int) &&& BitVec.ofInt 64 127).toNat : Int) = _
  have h2 : (BitVec.ofInt 64 127).toNat = 127 := by decide
  rw [BitVec.toNat_and, h1, h2, show (127 : Nat) = 2 ^ 7 - 1 from rfl, Nat.and_two_pow_sub_one_eq_mod, IntKind.wrap_i64]
  have : x % 2 ^ 7 < 128 := Nat.mod_lt _ (by omega)
  omega

theorem ones_any (x : Nat) (w : World) (hx : x < W64) :
    Calls Tryz.prog 118 #[.int .u64 x] w fun e w' => e = .returned (.int .i64 (pc 64 x : Nat)) ∧ w' = w := by
  obtain ⟨h, g1, g2, g2', g4, g5, g6⟩ := swar x hx
  have hW : W64 = 18446744073709551616 := rfl
  have g3 : y3 x < W64 := Nat.lt_of_le_of_lt Nat.and_le_right (by rw [hW]; omega)
  rw [← h]
  refine ones_core x _ _ (y1 x) _ _ (y2 x) (y2 x / 16 + y2 x) (y3 x) (y4 x) (y5 x) (y6 x) _ w
    (by rw [show ((x : Int) / 2) = ((x / 2 : Nat) : Int) by omega]; exact bits_and_u64_nat (x / 2) 6148914691236517205 (by omega) (by omega)) (bits_and_u64_nat x 6148914691236517205 (by omega) (by omega)) ?_
    (by rw [show ((y1 x : Int) / 4) = ((y1 x / 4 : Nat) : Int) by omega]; exact bits_and_u64_nat (y1 x / 4) 3689348814741910323 (by omega) (by omega)) (bits_and_u64_nat (y1 x) 3689348814741910323 (by omega) (by omega)) ?_ ?_
    (bits_and_u64_nat _ 1085102592571150095 (by omega) (by omega)) ?_ ?_ ?_ ?_ (and127 _ g6)
  · exact wrap_u64 _ g1
  · exact wrap_u64 _ g2
  · rw [show ((y2 x : Int) / 16 + y2 x) = ((y2 x / 16 + y2 x : Nat) : Int) by omega]; exact wrap_u64 _ g2'
  · rw [show ((y3 x : Int) + (y3 x : Int) / 256) = ((y3 x + y3 x / 256 : Nat) : Int) by omega]; exact wrap_u64 _ g4
  · rw [show ((y4 x : Int) + (y4 x : Int) / 65536) = ((y4 x + y4 x / 65536 : Nat) : Int) by omega]; exact wrap_u64 _ g5
  · rw [show ((y5 x : Int) + (y5 x : Int) / 4294967296) = ((y5 x + y5 x / 4294967296 : Nat) : Int) by omega]
    exact wrap_u64 _ (show y6 x < W64 by omega)
  · unfold wrap64; omega

theorem pcs_take_succ (ws : List Nat) (k : Nat) (h : k < ws.length) : pcs (ws.take (k + 1)) = pcs (ws.take k) + pc 64 ws[k] := by
  rw [List.take_succ_eq_append_getElem h]; simp only [pcs, List.map_append, List.sum_append, List.map_cons, List.map_nil, List.sum_cons, List.sum_nil]; omega

def WCells (w : World) (a : Option Addr) (ws : List Nat) : Prop :=
  (a = none ∧ ws = []) ∨ ∃ g, a = some ⟨g, 0, none⟩ ∧ Blk w g 117 (ws.map uW).toArray

theorem WCells.get {w : World} {a : Option Addr} {ws : List Nat} (h : WCells w a ws) (k : Nat) (hk : k < ws.length) :
    ∃ g, a = some ⟨g, 0, none⟩ ∧ w.cell? ⟨g, k, none⟩ = some (.int .u64 (ws[k] : Nat)) ∧ w.frozen? ⟨g, k, none⟩ = false := by
  rcases h with ⟨_, rfl⟩ | ⟨g, rfl, hb⟩
  · simp at hk
  · exact ⟨g, rfl, by rw [hb.cell]; simp [hk, uW], hb.frozen k⟩

set_option maxHeartbeats 400000 in
theorem recount_core (b : Nat) (cnt : Int) (a : Option Addr) (n c : Nat) (ws : List Nat) (w : World) (hl : Hid (ws.length = n))
    (hc1 : w.cell? ⟨b, 1, none⟩ = some (.int .i64 cnt)) (hc2 : w.cell? ⟨b, 2, none⟩ = some (.slice a n c)) (hf1 : w.frozen? ⟨b, 1, none⟩ = false)
    (hW : Hid (∀ x ∈ ws, x < W64)) (hn : n ≤ 64) (hcell : WCells w a ws) :
    Calls Tryz.prog 102 #[.pointer (some ⟨b, 0, none⟩)] w fun e w' => e = .returned (.bool (((pcs ws : Nat) : Int) != cnt)) ∧ w' = w.setCell ⟨b, 1, none⟩ (.int .i64 (pcs ws : Nat)) := by
  go_enter Tryz.func102, Tryz.ntmps102
  go_wp2
  go_loop [3, 12] (fun s i => ∃ k : Nat, k ≤ n ∧ i = .int .i64 k ∧ s = .int .i64 (pcs (ws.take k) : Nat)) (fun _ i => n - (intOf i).toNat)
  case atStart => exact ⟨0, Nat.zero_le _, rfl, by simp [pcs]⟩
  case round =>
    obtain ⟨k, hk, rfl, rfl⟩ := hrel
    have hle := pcs_le (ws.take k)
    have hlt2 : (ws.take k).length ≤ k := List.length_take_le _ _
    by_cases hlt : k < n
    · obtain ⟨g, rfl, hcg, _⟩ := hcell.get k (by rw [hl.out]; exact hlt)
      have hsn := pcs_take_succ ws k (by rw [hl.out]; exact hlt)
      have HS : Hid (pcs (ws.take (k + 1)) = pcs (ws.take k) + pc 64 (ws[k]'(by rw [hl.out]; exact hlt))) := hsn
      have hx := hW.out (ws[k]'(by rw [hl.out]; exact hlt)) (List.getElem_mem _)
      have hp := pc_le 64 (ws[k]'(by rw [hl.out]; exact hlt))
      generalize ws[k]'(by rw [hl.out]; exact hlt) = x at *
      clear hsn
      generalize pcs (ws.take k) = s at *
      go_wp2_with (go_at_call 118; refine (ones_any _ _ hx).mono ?_; rintro e w' ⟨rfl, rfl⟩)
      go_round
      case rel => exact ⟨k + 1, by omega, by go_num, by rw [HS.out]; go_num⟩
      case measure => simp [intOf]; omega
    · have : ws.take k = ws := List.take_of_length_le (by rw [hl.out]; omega)
      rw [this] at *
      go_wp2
      go_ret
      exact ⟨rfl, rfl⟩
end Go.Proofs.Qxb6500745aGreatDoor
