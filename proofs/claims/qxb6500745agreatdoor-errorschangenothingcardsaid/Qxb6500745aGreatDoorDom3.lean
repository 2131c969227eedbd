import Derived.Test.Qxb6500745aGreatDoorDom2
namespace Go.Proofs.Qxb6500745aGreatDoor
open Go.RowKit

def PRd2 (w : World) (e : Ending) (w' : World) : Prop := ∃ r : Bool, e = .returned (.tuple #[.bool r, .nilIface]) ∧ ∃ q, w' = w.drewN q
theorem PRd2.mk {w : World} {r : Bool} {q : Nat} : PRd2 w (.returned (.tuple #[.bool r, .nilIface])) (w.drewN q) := ⟨r, rfl, q, rfl⟩

def PRd1 (w : World) (e : Ending) (w' : World) : Prop := ∃ r : Bool, e = .returned (.bool r) ∧ ∃ q, w' = w.drewN q
theorem PRd1.mk {w : World} {r : Bool} {q : Nat} : PRd1 w (.returned (.bool r)) (w.drewN q) := ⟨r, rfl, q, rfl⟩

set_option maxHeartbeats 400000 in
theorem union_mis (b1 b2 : Nat) (n m : Int) (a : Addr) (w : World) (h1 : w.cell? ⟨b1, 0, none⟩ = some (.int .i64 n)) (h2 : w.cell? ⟨b2, 0, none⟩ = some (.int .i64 m)) (hne : (n == m) = false)
    (hev : w.cell? ⟨3, 0, none⟩ = some (.iface 110 (.pointer (some a)))) :
    Calls Tryz.prog 77 #[.pointer (some ⟨b1, 0, none⟩), .pointer (some ⟨b2, 0, none⟩)] w fun e w' => e = .returned (.tuple #[.bool false, .iface 110 (.pointer (some a))]) ∧ ∃ q, w' = w.drewN q := by
  have hs := sameU_any b1 b2 n m w h1 h2
  rw [hne] at hs
  clear hne
  go_enter Tryz.func77, Tryz.ntmps77
  go_wp2_with (go_at_call 103; refine hs.mono ?_; rintro e w' ⟨rfl, q, rfl⟩)
  go_quiet (fail)
  go_wp2
  go_ret2
  exact ⟨rfl, q + _, by rw [World.drewN_drewN]⟩

set_option maxHeartbeats 400000 in
theorem inter_mis (b1 b2 : Nat) (n m : Int) (a : Addr) (w : World) (h1 : w.cell? ⟨b1, 0, none⟩ = some (.int .i64 n)) (h2 : w.cell? ⟨b2, 0, none⟩ = some (.int .i64 m)) (hne : (n == m) = false)
    (hev : w.cell? ⟨3, 0, none⟩ = some (.iface 110 (.pointer (some a)))) :
    Calls Tryz.prog 78 #[.pointer (some ⟨b1, 0, none⟩), .pointer (some ⟨b2, 0, none⟩)] w fun e w' => e = .returned (.tuple #[.bool false, .iface 110 (.pointer (some a))]) ∧ ∃ q, w' = w.drewN q := by
  have hs := sameU_any b1 b2 n m w h1 h2
  rw [hne] at hs
  clear hne
  go_enter Tryz.func78, Tryz.ntmps78
  go_wp2_with (go_at_call 103; refine hs.mono ?_; rintro e w' ⟨rfl, q, rfl⟩)
  go_quiet (fail)
  go_wp2
  go_ret2
  exact ⟨rfl, q + _, by rw [World.drewN_drewN]⟩

set_option maxHeartbeats 400000 in
theorem diff_mis (b1 b2 : Nat) (n m : Int) (a : Addr) (w : World) (h1 : w.cell? ⟨b1, 0, none⟩ = some (.int .i64 n)) (h2 : w.cell? ⟨b2, 0, none⟩ = some (.int .i64 m)) (hne : (n == m) = false)
    (hev : w.cell? ⟨3, 0, none⟩ = some (.iface 110 (.pointer (some a)))) :
    Calls Tryz.prog 79 #[.pointer (some ⟨b1, 0, none⟩), .pointer (some ⟨b2, 0, none⟩)] w fun e w' => e = .returned (.tuple #[.bool false, .iface 110 (.pointer (some a))]) ∧ ∃ q, w' = w.drewN q := by
  have hs := sameU_any b1 b2 n m w h1 h2
  rw [hne] at hs
  clear hne
  go_enter Tryz.func79, Tryz.ntmps79
  go_wp2_with (go_at_call 103; refine hs.mono ?_; rintro e w' ⟨rfl, q, rfl⟩)
  go_quiet (fail)
  go_wp2
  go_ret2
  exact ⟨rfl, q + _, by rw [World.drewN_drewN]⟩

set_option maxHeartbeats 400000 in
theorem subset_mis (b1 b2 : Nat) (n m : Int) (a : Addr) (w : World) (h1 : w.cell? ⟨b1, 0, none⟩ = some (.int .i64 n)) (h2 : w.cell? ⟨b2, 0, none⟩ = some (.int .i64 m)) (hne : (n == m) = false)
    (hev : w.cell? ⟨3, 0, none⟩ = some (.iface 110 (.pointer (some a)))) :
    Calls Tryz.prog 80 #[.pointer (some ⟨b1, 0, none⟩), .pointer (some ⟨b2, 0, none⟩)] w fun e w' => e = .returned (.tuple #[.bool false, .iface 110 (.pointer (some a))]) ∧ ∃ q, w' = w.drewN q := by
  have hs := sameU_any b1 b2 n m w h1 h2
  rw [hne] at hs
  clear hne
  go_enter Tryz.func80, Tryz.ntmps80
  go_wp2_with (go_at_call 103; refine hs.mono ?_; rintro e w' ⟨rfl, q, rfl⟩)
  go_quiet (fail)
  go_wp2
  go_ret2
  exact ⟨rfl, q + _, by rw [World.drewN_drewN]⟩

set_option maxHeartbeats 400000 in
theorem disjoint_mis (b1 b2 : Nat) (n m : Int) (a : Addr) (w : World) (h1 : w.cell? ⟨b1, 0, none⟩ = some (.int .i64 n)) (h2 : w.cell? ⟨b2, 0, none⟩ = some (.int .i64 m)) (hne : (n == m) = false)
    (hev : w.cell? ⟨3, 0, none⟩ = some (.iface 110 (.pointer (some a)))) :
    Calls Tryz.prog 81 #[.pointer (some ⟨b1, 0, none⟩), .pointer (some ⟨b2, 0, none⟩)] w fun e w' => e = .returned (.tuple #[.bool false, .iface 110 (.pointer (some a))]) ∧ ∃ q, w' = w.drewN q := by
  have hs := sameU_any b1 b2 n m w h1 h2
  rw [hne] at hs
  clear hne
  go_enter Tryz.func81, Tryz.ntmps81
  go_wp2_with (go_at_call 103; refine hs.mono ?_; rintro e w' ⟨rfl, q, rfl⟩)
  go_quiet (fail)
  go_wp2
  go_ret2
  exact ⟨rfl, q + _, by rw [World.drewN_drewN]⟩

set_option maxHeartbeats 400000 in
theorem copyFrom_mis (b1 b2 : Nat) (n m : Int) (a : Addr) (w : World) (h1 : w.cell? ⟨b1, 0, none⟩ = some (.int .i64 n)) (h2 : w.cell? ⟨b2, 0, none⟩ = some (.int .i64 m)) (hne : (n == m) = false)
    (hev : w.cell? ⟨3, 0, none⟩ = some (.iface 110 (.pointer (some a)))) :
    Calls Tryz.prog 76 #[.pointer (some ⟨b1, 0, none⟩), .pointer (some ⟨b2, 0, none⟩)] w fun e w' => e = .returned (.iface 110 (.pointer (some a))) ∧ ∃ q, w' = w.drewN q := by
  have hs := sameU_any b1 b2 n m w h1 h2
  rw [hne] at hs
  clear hne
  go_enter Tryz.func76, Tryz.ntmps76
  go_wp2_with (go_at_call 103; refine hs.mono ?_; rintro e w' ⟨rfl, q, rfl⟩)
  go_ret
  exact ⟨rfl, q, rfl⟩

set_option maxHeartbeats 400000 in
theorem subset_core (b1 b2 n : Nat) (a1 a2 : Option Addr) (width cnt cnt2 : Int) (ws us f1 f2 : List Nat) (w : World)
    (hb1 : Blk w b1 60 #[.int .i64 width, .int .i64 cnt, .slice a1 n n]) (hb2 : Blk w b2 60 #[.int .i64 width, .int .i64 cnt2, .slice a2 n n])
    (hg1 : WordsAt w (.slice a1 n n) ws f1) (hg2 : WordsAt w (.slice a2 n n) us f2) (hl1 : Hid (ws.length = n)) (hl2 : Hid (us.length = n)) (hn : n ≤ 64) :
    Calls Tryz.prog 80 #[.pointer (some ⟨b1, 0, none⟩), .pointer (some ⟨b2, 0, none⟩)] w (PRd2 w) := by
  have c10 := hb1.cell 0; have c12 := hb1.cell 2
  have c20 := hb2.cell 0; have c22 := hb2.cell 2
  simp at c10 c12 c20 c22
  go_enter Tryz.func80, Tryz.ntmps80
  go_wp2_with (go_at_call 103; refine (sameU_any _ _ _ _ _ c10 c20).mono ?_; rintro e w' ⟨rfl, q, rfl⟩)
  go_loop [18] (fun i => ∃ k : Nat, k ≤ n ∧ i = .int .i64 k) (fun i => n - (intOf i).toNat)
  case atStart => exact ⟨0, Nat.zero_le _, rfl⟩
  case round =>
    obtain ⟨k, hk, rfl⟩ := hrel
    by_cases hlt : k < n
    · have hk1 : k < ws.length := by rw [hl1.out]; exact hlt
      have hk2 : k < us.length := by rw [hl2.out]; exact hlt
      obtain ⟨g1, rfl, _, _, e1, _⟩ := hg1.get k hk1
      obtain ⟨g2, rfl, _, _, e2, _⟩ := hg2.get k hk2
      obtain ⟨z, hz, hor⟩ := bits_small .andNot ws[k] us[k]
      clear hb1 hb2 hg1 hg2
      generalize ws[k] = x at *
      generalize us[k] = y at *
      go_wp2
      · go_ret2
        exact PRd2.mk
      · go_round
        case rel => exact ⟨k + 1, by omega, by go_num⟩
        case measure => simp [intOf]; omega
    · go_wp2
      go_ret2
      exact PRd2.mk

set_option maxHeartbeats 400000 in
theorem disjoint_core (b1 b2 n : Nat) (a1 a2 : Option Addr) (width cnt cnt2 : Int) (ws us f1 f2 : List Nat) (w : World)
    (hb1 : Blk w b1 60 #[.int .i64 width, .int .i64 cnt, .slice a1 n n]) (hb2 : Blk w b2 60 #[.int .i64 width, .int .i64 cnt2, .slice a2 n n])
    (hg1 : WordsAt w (.slice a1 n n) ws f1) (hg2 : WordsAt w (.slice a2 n n) us f2) (hl1 : Hid (ws.length = n)) (hl2 : Hid (us.length = n)) (hn : n ≤ 64) :
    Calls Tryz.prog 81 #[.pointer (some ⟨b1, 0, none⟩), .pointer (some ⟨b2, 0, none⟩)] w (PRd2 w) := by
  have c10 := hb1.cell 0; have c12 := hb1.cell 2
  have c20 := hb2.cell 0; have c22 := hb2.cell 2
  simp at c10 c12 c20 c22
  go_enter Tryz.func81, Tryz.ntmps81
  go_wp2_with (go_at_call 103; refine (sameU_any _ _ _ _ _ c10 c20).mono ?_; rintro e w' ⟨rfl, q, rfl⟩)
  go_loop [18] (fun i => ∃ k : Nat, k ≤ n ∧ i = .int .i64 k) (fun i => n - (intOf i).toNat)
  case atStart => exact ⟨0, Nat.zero_le _, rfl⟩
  case round =>
    obtain ⟨k, hk, rfl⟩ := hrel
    by_cases hlt : k < n
    · have hk1 : k < ws.length := by rw [hl1.out]; exact hlt
      have hk2 : k < us.length := by rw [hl2.out]; exact hlt
      obtain ⟨g1, rfl, _, _, e1, _⟩ := hg1.get k hk1
      obtain ⟨g2, rfl, _, _, e2, _⟩ := hg2.get k hk2
      obtain ⟨z, hz, hor⟩ := bits_small .and ws[k] us[k]
      clear hb1 hb2 hg1 hg2
      generalize ws[k] = x at *
      generalize us[k] = y at *
      go_wp2
      · go_ret2
        exact PRd2.mk
      · go_round
        case rel => exact ⟨k + 1, by omega, by go_num⟩
        case measure => simp [intOf]; omega
    · go_wp2
      go_ret2
      exact PRd2.mk

set_option maxHeartbeats 400000 in
theorem equal_core (b1 b2 n m : Nat) (a1 a2 : Option Addr) (width width2 cnt cnt2 : Int) (ws us f1 f2 : List Nat) (w : World)
    (hb1 : Blk w b1 60 #[.int .i64 width, .int .i64 cnt, .slice a1 n n]) (hb2 : Blk w b2 60 #[.int .i64 width2, .int .i64 cnt2, .slice a2 m m])
    (hg1 : WordsAt w (.slice a1 n n) ws f1) (hg2 : WordsAt w (.slice a2 m m) us f2) (hl1 : Hid (ws.length = n)) (hl2 : Hid (us.length = m)) (hn : n ≤ 64) (hm : m ≤ 64) (hnm : width = width2 → n = m) :
    Calls Tryz.prog 82 #[.pointer (some ⟨b1, 0, none⟩), .pointer (some ⟨b2, 0, none⟩)] w (PRd1 w) := by
  have c10 := hb1.cell 0; have c11 := hb1.cell 1; have c12 := hb1.cell 2
  have c20 := hb2.cell 0; have c21 := hb2.cell 1; have c22 := hb2.cell 2
  simp at c10 c11 c12 c20 c21 c22
  by_cases hw : (width == width2) = true
  · have hs : ∀ n, Calls Tryz.prog 103 #[.pointer (some ⟨b1, 0, none⟩), .pointer (some ⟨b2, 0, none⟩)] (w.drewN n) fun e w' => e = .returned (.bool true) ∧ ∃ q, w' = (w.drewN n).drewN q := fun n => by
      have := sameU_any b1 b2 width width2 (w.drewN n) c10 c20
      rw [hw] at this; exact this
    have hnm' : n = m := hnm (by simpa using hw)
    subst hnm'
    clear hw hnm
    by_cases hc : (cnt != cnt2) = true
    · go_enter Tryz.func82, Tryz.ntmps82
      go_wp2_with fail
      go_quiet ((go_at_call 103; refine Calls.quiet_of (hs _)))
      go_wp2
      go_ret
      exact PRd1.mk
    · have hc' : (cnt != cnt2) = false := by simpa using hc
      clear hc
      go_enter Tryz.func82, Tryz.ntmps82
      go_wp2_with fail
      go_quiet ((go_at_call 103; refine Calls.quiet_of (hs _)))
      go_wp2
      go_loop [27] (fun i => ∃ k : Nat, k ≤ n ∧ i = .int .i64 k) (fun i => n - (intOf i).toNat)
      case atStart => exact ⟨0, Nat.zero_le _, rfl⟩
      case round =>
        obtain ⟨k, hk, rfl⟩ := hrel
        by_cases hlt : k < n
        · have hk1 : k < ws.length := by rw [hl1.out]; exact hlt
          have hk2 : k < us.length := by rw [hl2.out]; exact hlt
          obtain ⟨g1, rfl, _, _, e1, _⟩ := hg1.get k hk1
          obtain ⟨g2, rfl, _, _, e2, _⟩ := hg2.get k hk2
          clear hb1 hb2 hg1 hg2
          generalize ws[k] = x at *
          generalize us[k] = y at *
          go_wp2
          · go_ret
            exact PRd1.mk
          · go_round
            case rel => exact ⟨k + 1, by omega, by go_num⟩
            case measure => simp [intOf]; omega
        · go_wp2
          go_ret
          exact PRd1.mk
  · have hw' : (width == width2) = false := by simpa using hw
    have hs : ∀ n, Calls Tryz.prog 103 #[.pointer (some ⟨b1, 0, none⟩), .pointer (some ⟨b2, 0, none⟩)] (w.drewN n) fun e w' => e = .returned (.bool false) ∧ ∃ q, w' = (w.drewN n).drewN q := fun n => by
      have := sameU_any b1 b2 width width2 (w.drewN n) c10 c20
      rw [hw'] at this; exact this
    clear hw hw' hnm
    go_enter Tryz.func82, Tryz.ntmps82
    go_wp2_with fail
    go_quiet ((go_at_call 103; refine Calls.quiet_of (hs _)))
    go_wp2
    go_ret
    exact PRd1.mk

end Go.Proofs.Qxb6500745aGreatDoor
