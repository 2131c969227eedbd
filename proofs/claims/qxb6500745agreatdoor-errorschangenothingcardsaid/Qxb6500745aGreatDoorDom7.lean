import Derived.Test.Qxb6500745aGreatDoorDom6
namespace Go.Proofs.Qxb6500745aGreatDoor
open Go.RowKit

set_option maxHeartbeats 400000 in
theorem next_out (b : Nat) (width v : Int) (ev : Value) (w : World) (hc0 : w.cell? ⟨b, 0, none⟩ = some (.int .i64 width)) (hev : w.cell? ⟨2, 0, none⟩ = some ev) (hie : isErr ev)
  (ho : decide (0 ≤ v ∧ v < width) = false) :
    Calls Tryz.prog 68 #[.pointer (some ⟨b, 0, none⟩), .int .i64 v] w fun e w' => e = .returned (.tuple #[.int .i64 0, .bool false, ev]) ∧ w' = w.drew := by
  obtain ⟨a, rfl⟩ := hie
  have hi := inRange_any b width v w hc0
  rw [ho] at hi
  clear ho
  go_enter Tryz.func68, Tryz.ntmps68
  go_wp2_with (go_at_call 99; refine hi.mono ?_; rintro e w' ⟨rfl, rfl⟩)
  go_region
  go_wp2
  go_ret3
  exact ⟨rfl, rfl⟩

set_option maxHeartbeats 400000 in
theorem prev_out (b : Nat) (width v : Int) (ev : Value) (w : World) (hc0 : w.cell? ⟨b, 0, none⟩ = some (.int .i64 width)) (hev : w.cell? ⟨2, 0, none⟩ = some ev) (hie : isErr ev)
  (ho : decide (0 ≤ v ∧ v < width) = false) :
    Calls Tryz.prog 69 #[.pointer (some ⟨b, 0, none⟩), .int .i64 v] w fun e w' => e = .returned (.tuple #[.int .i64 0, .bool false, ev]) ∧ w' = w.drew := by
  obtain ⟨a, rfl⟩ := hie
  have hi := inRange_any b width v w hc0
  rw [ho] at hi
  clear ho
  go_enter Tryz.func69, Tryz.ntmps69
  go_wp2_with (go_at_call 99; refine hi.mono ?_; rintro e w' ⟨rfl, rfl⟩)
  go_region
  go_wp2
  go_ret3
  exact ⟨rfl, rfl⟩

def PPrev (w : World) (e : Ending) (w' : World) : Prop := ∃ (r : Int) (ok : Bool), e = .returned (.tuple #[.int .i64 r, .bool ok, .nilIface]) ∧ w' = w
theorem PPrev.mk {w : World} {r : Int} {ok : Bool} : PPrev w (.returned (.tuple #[.int .i64 r, .bool ok, .nilIface])) w := ⟨r, ok, rfl, rfl⟩

theorem shr_ones (s : Nat) : ∃ m : Nat, (18446744073709551615 : Int) / 2 ^ s = (m : Int) := ⟨18446744073709551615 / 2 ^ s, by
  rw [show (18446744073709551615 : Int) = ((18446744073709551615 : Nat) : Int) from rfl]
  rw [Int.natCast_ediv]; simp⟩

set_option maxHeartbeats 400000 in
theorem prev_core (b n : Nat) (a : Option Addr) (width v : Int) (ws f : List Nat) (w : World) (hc0 : w.cell? ⟨b, 0, none⟩ = some (.int .i64 width)) (hc : w.cell? ⟨b, 2, none⟩ = some (.slice a n n)) (hg : WordsAt w (.slice a n n) ws f) (hl : Hid (ws.length = n)) (hn : n ≤ 64)
    (hW : Hid (∀ x ∈ ws, x < W64)) (h0 : 0 ≤ v) (h1 : v < width) (hv : v / 64 < n) :
    Calls Tryz.prog 69 #[.pointer (some ⟨b, 0, none⟩), .int .i64 v] w (PPrev w) := by
  have hi := inRange_any b width v w hc0
  rw [show decide (0 ≤ v ∧ v < width) = true by simp; omega] at hi
  obtain ⟨m, hm⟩ := shr_ones (63 - v % 64).toNat
  have hk0 : (v / 64).toNat < ws.length := by rw [hl.out]; omega
  obtain ⟨g, rfl, hf, hb, e1, _⟩ := hg.get (v / 64).toNat hk0
  obtain ⟨y, hyW, hand⟩ := bits_small .and ws[(v / 64).toNat] m
  have HY : Hid (y < W64) := hyW
  clear hyW
  generalize hx0 : ws[(v / 64).toNat] = x0 at *
  clear hx0
  go_enter Tryz.func69, Tryz.ntmps69
  go_wp2_with (go_at_call 99; refine hi.mono ?_; rintro e w2 ⟨rfl, h2⟩; rw [h2]; clear h2 w2)
  go_loop [7, 8] (fun i u => ∃ k z : Nat, k < n ∧ i = .int .i64 k ∧ u = .int .u64 z ∧ z < W64) (fun i _ => (intOf i).toNat)
  case atStart => exact ⟨(v / 64).toNat, y, by omega, by rw [Int.toNat_of_nonneg (by omega)], rfl, HY.out⟩
  case round =>
    obtain ⟨k, z, hk, rfl, rfl, hz⟩ := hrel
    by_cases h0z : z = 0
    · subst h0z
      clear hz
      by_cases hlast : k = 0
      · subst hlast
        go_wp2
        go_ret3
        exact PPrev.mk
      · obtain ⟨j, rfl⟩ : ∃ j, k = j + 1 := ⟨k - 1, by omega⟩
        have hk1 : j < ws.length := by rw [hl.out]; omega
        obtain ⟨g', hg', _, _, e2, _⟩ := hg.get j hk1
        simp at hg'
        subst hg'
        have hx2 := hW.out ws[j] (List.getElem_mem _)
        have hne : (j : Int) < n := by omega
        generalize ws[j] = x2 at *
        have HX2 : Hid (x2 < W64) := hx2
        clear hx2 hlast hand hm hk1
        go_wp2
        go_round
        case rel => exact ⟨j, x2, by omega, by go_num, rfl, HX2.out⟩
        case measure => simp [intOf]
    · have ht := lz_any z w hz
      have hq : ((z : Int) == 0) = false := by simpa using h0z
      clear hz h0z
      generalize 64 - Lib.bitLen z = c at *
      go_wp2_with (go_at_call 101; refine ht.mono ?_; rintro e w' ⟨rfl, rfl⟩)
      go_ret3
      exact PPrev.mk

set_option maxHeartbeats 400000 in
theorem single_core (b n : Nat) (a : Option Addr) (cnt : Int) (ws f : List Nat) (w : World) (hc1 : w.cell? ⟨b, 1, none⟩ = some (.int .i64 cnt)) (hc : w.cell? ⟨b, 2, none⟩ = some (.slice a n n)) (hg : WordsAt w (.slice a n n) ws f) (hl : Hid (ws.length = n)) (hn : n ≤ 64)
    (hW : Hid (∀ x ∈ ws, x < W64)) (hT : TabAt 5 Lib.deBruijn64tab w) :
    Calls Tryz.prog 70 #[.pointer (some ⟨b, 0, none⟩)] w (PVal w) := by
  have hm := min_core b n a ws f w hc hg hl hn hW hT
  clear hT hg
  by_cases h1 : (cnt != 1) = true
  · go_enter Tryz.func70, Tryz.ntmps70
    go_wp2_with fail
    go_ret2
    exact PVal.mk
  · have h1' : (cnt != 1) = false := by simpa using h1
    clear h1
    go_enter Tryz.func70, Tryz.ntmps70
    go_wp2_with (go_at_call 65; refine hm.mono ?_; rintro e w2 ⟨v, ok, rfl, _, _, h2⟩; rw [h2]; clear h2 w2)
    go_ret2
    exact PVal.mk

set_option maxHeartbeats 400000 in
theorem len_core (b : Nat) (cnt : Int) (w : World) (hc1 : w.cell? ⟨b, 1, none⟩ = some (.int .i64 cnt)) :
    Calls Tryz.prog 64 #[.pointer (some ⟨b, 0, none⟩)] w fun e w' => e = .returned (.int .i64 cnt) ∧ w' = w := by
  go_enter Tryz.func64, Tryz.ntmps64
  go_wp2
  go_ret
  exact ⟨rfl, rfl⟩

set_option maxHeartbeats 400000 in
theorem width_core (b : Nat) (n : Int) (w : World) (hc1 : w.cell? ⟨b, 0, none⟩ = some (.int .i64 n)) :
    Calls Tryz.prog 22 #[.pointer (some ⟨b, 0, none⟩)] w fun e w' => e = .returned (.int .i64 n) ∧ w' = w := by
  go_enter Tryz.func22, Tryz.ntmps22
  go_wp2
  go_ret
  exact ⟨rfl, rfl⟩
end Go.Proofs.Qxb6500745aGreatDoor
