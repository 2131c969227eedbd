import Derived.Test.Qxb6500745aGreatDoorDom5
import Derived.Test.Qxb6500745aGreatDoorShelf
namespace Go.Proofs.Qxb6500745aGreatDoor
open Go.RowKit

theorem tz_any (x : Nat) (w : World) (hx : x < W64) (hT : TabAt 5 Lib.deBruijn64tab w) :
    Calls Tryz.prog 100 #[.int .u64 x] w fun e w' => e = .returned (.int .i64 (Lib.ctz 64 x : Nat)) ∧ w' = w :=
  Any7.bits_TrailingZeros64 Tryz.lays7i29 x hx w (fun _ => hT)

theorem ctz_le (x : Nat) (hx : x < W64) : Lib.ctz 64 x ≤ 64 := by
  by_cases h : x = 0
  · subst h; decide
  · have := (Lib.lowest_bit 64 x h (by rw [← W64_eq]; exact hx)).2; omega

theorem bitLenAux_le : ∀ f x, Lib.bitLenAux f x ≤ f
  | 0, _ => Nat.le_refl _
  | f + 1, x => by
    unfold Lib.bitLenAux
    have := bitLenAux_le f (x / 2)
    split <;> omega

theorem lz_any (x : Nat) (w : World) (hx : x < W64) :
    Calls Tryz.prog 101 #[.int .u64 x] w fun e w' => e = .returned (.int .i64 ((64 - Lib.bitLen x : Nat) : Int)) ∧ w' = w := by
  have hW : W64 = 18446744073709551616 := rfl
  have h := Tryz.bits_LeadingZeros64 (x : Int) w (by omega) (by omega)
  have hb : Lib.bitLen x ≤ 64 := bitLenAux_le 64 x
  rw [Int.toNat_natCast] at h
  rw [show ((64 - Lib.bitLen x : Nat) : Int) = 64 - (Lib.bitLen x : Int) by omega]
  exact h

def PMin (w : World) (e : Ending) (w' : World) : Prop := ∃ (v : Int) (ok : Bool), e = .returned (.tuple #[.int .i64 v, .bool ok]) ∧ 0 ≤ v ∧ v ≤ 4096 ∧ w' = w
theorem PMin.mk {w : World} {v : Int} {ok : Bool} (h0 : 0 ≤ v) (h1 : v ≤ 4096) : PMin w (.returned (.tuple #[.int .i64 v, .bool ok])) w := ⟨v, ok, rfl, h0, h1, rfl⟩

set_option maxHeartbeats 400000 in
theorem min_core (b n : Nat) (a : Option Addr) (ws f : List Nat) (w : World) (hc : w.cell? ⟨b, 2, none⟩ = some (.slice a n n)) (hg : WordsAt w (.slice a n n) ws f) (hl : Hid (ws.length = n)) (hn : n ≤ 64)
    (hW : Hid (∀ x ∈ ws, x < W64)) (hT : TabAt 5 Lib.deBruijn64tab w) :
    Calls Tryz.prog 65 #[.pointer (some ⟨b, 0, none⟩)] w (PMin w) := by
  have HT : Hid (TabAt 5 Lib.deBruijn64tab w) := hT
  clear hT
  go_enter Tryz.func65, Tryz.ntmps65
  go_wp2
  go_loop [11] (fun i => ∃ k : Nat, k ≤ n ∧ i = .int .i64 k) (fun i => n - (intOf i).toNat)
  case atStart => exact ⟨0, Nat.zero_le _, rfl⟩
  case round =>
    obtain ⟨k, hk, rfl⟩ := hrel
    by_cases hlt : k < n
    · have hk1 : k < ws.length := by rw [hl.out]; exact hlt
      obtain ⟨g, rfl, _, _, e1, _⟩ := hg.get k hk1
      have hx := hW.out ws[k] (List.getElem_mem _)
      have hz := ctz_le ws[k] hx
      have ht := tz_any ws[k] w hx HT.out
      have HX : Hid (ws[k] < W64) := hx
      clear hg hx
      generalize ws[k] = x at *
      generalize Lib.ctz 64 x = z at *
      go_wp2_with (go_at_call 100; refine ht.mono ?_; rintro e w' ⟨rfl, rfl⟩)
      · go_ret2
        exact PMin.mk (by omega) (by omega)
      · go_round
        case rel => exact ⟨k + 1, by omega, by go_num⟩
        case measure => simp [intOf]; omega
    · go_wp2
      go_ret2
      exact PMin.mk (by omega) (by omega)

def PVal (w : World) (e : Ending) (w' : World) : Prop := ∃ (v : Int) (ok : Bool), e = .returned (.tuple #[.int .i64 v, .bool ok]) ∧ w' = w
theorem PVal.mk {w : World} {v : Int} {ok : Bool} : PVal w (.returned (.tuple #[.int .i64 v, .bool ok])) w := ⟨v, ok, rfl, rfl⟩

set_option maxHeartbeats 400000 in
theorem max_core (b n : Nat) (a : Option Addr) (ws f : List Nat) (w : World) (hc : w.cell? ⟨b, 2, none⟩ = some (.slice a n n)) (hg : WordsAt w (.slice a n n) ws f) (hl : Hid (ws.length = n)) (hn : n ≤ 64)
    (hW : Hid (∀ x ∈ ws, x < W64)) :
    Calls Tryz.prog 67 #[.pointer (some ⟨b, 0, none⟩)] w (PVal w) := by
  go_enter Tryz.func67, Tryz.ntmps67
  go_wp2
  go_loop [4] (fun i => ∃ k : Nat, k ≤ n ∧ i = .int .i64 ((k : Int) - 1)) (fun i => (intOf i + 1).toNat)
  case atStart => exact ⟨n, Nat.le_refl _, rfl⟩
  case round =>
    obtain ⟨k, hk, rfl⟩ := hrel
    by_cases hlt : 0 < k
    · obtain ⟨j, rfl⟩ : ∃ j, k = j + 1 := ⟨k - 1, by omega⟩
      rw [show ((j + 1 : Nat) : Int) - 1 = (j : Int) by omega]
      have hk1 : j < ws.length := by rw [hl.out]; omega
      obtain ⟨g, rfl, _, _, e1, _⟩ := hg.get j hk1
      have hx := hW.out ws[j] (List.getElem_mem _)
      have ht := lz_any ws[j] w hx
      clear hg hx
      generalize ws[j] = x at *
      generalize 64 - Lib.bitLen x = z at *
      go_wp2_with (go_at_call 101; refine ht.mono ?_; rintro e w' ⟨rfl, rfl⟩)
      · go_ret2
        exact PVal.mk
      · go_round
        case rel => exact ⟨j, by omega, by go_num⟩
        case measure => simp [intOf]
    · have : k = 0 := by omega
      subst this
      go_wp2
      go_ret2
      exact PVal.mk

theorem and_high (x s : Nat) (hs : s < 64) : (x &&& (W64 - 2 ^ s)) % 2 ^ s = 0 := by
  have h1 : W64 - 2 ^ s = 2 ^ s * (2 ^ (64 - s) - 1) := by
    rw [W64_eq, Nat.mul_sub, ← Nat.pow_add, show s + (64 - s) = 64 by omega, Nat.mul_one]
  rw [Nat.and_mod_two_pow, h1]; simp

theorem ctz_ge (y s : Nat) (h0 : y ≠ 0) (hy : y < W64) (h : y % 2 ^ s = 0) : s ≤ Lib.ctz 64 y := by
  have hy' : y < 2 ^ 64 := by rw [← W64_eq]; exact hy
  have hc : Lib.ctz 64 y = Lib.ctzFrom 64 y := by unfold Lib.ctz; rw [if_neg h0]
  obtain ⟨m, hm, _⟩ := Lib.ctzFrom_spec 64 y (by omega) hy'
  rw [hc]
  generalize Lib.ctzFrom 64 y = c at *
  by_cases hcs : s ≤ c
  · exact hcs
  · exfalso
    have hd : 2 ^ (c + 1) ∣ y := Nat.dvd_trans (Nat.pow_dvd_pow 2 (by omega)) (Nat.dvd_of_mod_eq_zero h)
    obtain ⟨t, ht⟩ := hd
    rw [hm, Nat.pow_succ, Nat.mul_assoc] at ht
    have := Nat.eq_of_mul_eq_mul_left (Nat.two_pow_pos c) ht
    omega

theorem shl_ones (v : Int) (h0 : 0 ≤ v) : ∃ m : Nat, m < W64 ∧ m = W64 - 2 ^ (v.toNat % 64) ∧ IntKind.u64.wrap (18446744073709551615 * 2 ^ (v % 64).toNat) = (m : Int) := by
  have e : (v % 64).toNat = v.toNat % 64 := by omega
  rw [e]
  have hk : v.toNat % 64 < 64 := Nat.mod_lt _ (by omega)
  generalize v.toNat % 64 = k at hk
  have h2 : (2 : Nat) ^ k < 2 ^ 64 := Nat.pow_lt_pow_right (by omega) hk
  have h4 := Nat.two_pow_pos k
  have h3 : ((2 ^ k : Nat) : Int) = (2 : Int) ^ k := by simp
  rw [← h3]
  have hW : W64 = 18446744073709551616 := rfl
  refine ⟨W64 - 2 ^ k, by omega, rfl, ?_⟩
  generalize 2 ^ k = m at *
  simp [IntKind.wrap, IntKind.signed, IntKind.bits]
  omega

def PNext (w : World) (v : Int) (e : Ending) (w' : World) : Prop := ∃ (r : Int) (ok : Bool), e = .returned (.tuple #[.int .i64 r, .bool ok, .nilIface]) ∧ 0 ≤ r ∧ r ≤ 4160 ∧ (ok = true → v ≤ r) ∧ w' = w
theorem PNext.mk {w : World} {v r : Int} {ok : Bool} (h0 : 0 ≤ r) (h1 : r ≤ 4160) (h : ok = true → v ≤ r) : PNext w v (.returned (.tuple #[.int .i64 r, .bool ok, .nilIface])) w := ⟨r, ok, rfl, h0, h1, h, rfl⟩

set_option maxHeartbeats 400000 in
theorem next_core (b n : Nat) (a : Option Addr) (width v : Int) (ws f : List Nat) (w : World) (hc0 : w.cell? ⟨b, 0, none⟩ = some (.int .i64 width)) (hc : w.cell? ⟨b, 2, none⟩ = some (.slice a n n)) (hg : WordsAt w (.slice a n n) ws f) (hl : Hid (ws.length = n)) (hn : n ≤ 64)
    (hW : Hid (∀ x ∈ ws, x < W64)) (hT : TabAt 5 Lib.deBruijn64tab w) (h0 : 0 ≤ v) (h1 : v < width) (hv : v / 64 < n) :
    Calls Tryz.prog 68 #[.pointer (some ⟨b, 0, none⟩), .int .i64 v] w (PNext w v) := by
  have hi := inRange_any b width v w hc0
  rw [show decide (0 ≤ v ∧ v < width) = true by simp; omega] at hi
  obtain ⟨m, hmW, hm1, hm⟩ := shl_ones v h0
  have HT : Hid (TabAt 5 Lib.deBruijn64tab w) := hT
  clear hT
  have hk0 : (v / 64).toNat < ws.length := by rw [hl.out]; omega
  obtain ⟨g, rfl, hf, hb, e1, _⟩ := hg.get (v / 64).toNat hk0
  have hx := hW.out ws[(v / 64).toNat] (List.getElem_mem _)
  obtain ⟨y, hy⟩ : ∃ y, y = ws[(v / 64).toNat] &&& m := ⟨_, rfl⟩
  have hyW : y < W64 := by rw [hy]; exact and_lt_W64 _ _ hx
  have hand : bits BinOp.and IntKind.u64 ((ws[(v / 64).toNat] : Nat) : Int) (m : Int) = (y : Int) := by rw [hy]; exact bits_and_u64_nat _ _ hx hmW
  have hge : y ≠ 0 → v ≤ (v / 64) * 64 + (Lib.ctz 64 y : Nat) := fun h => by
    have := ctz_ge y (v.toNat % 64) h hyW (by rw [hy, hm1]; exact and_high _ _ (Nat.mod_lt _ (by omega)))
    omega
  have HG : Hid (y ≠ 0 → v ≤ (v / 64) * 64 + (Lib.ctz 64 y : Nat)) := hge
  have HY : Hid (y < W64) := hyW
  clear hy hyW hge hmW hm1 hx
  generalize hx0 : ws[(v / 64).toNat] = x0 at *
  clear hx0
  go_enter Tryz.func68, Tryz.ntmps68
  go_wp2_with (go_at_call 99; refine hi.mono ?_; rintro e w2 ⟨rfl, h2⟩; rw [h2]; clear h2 w2)
  go_loop [7, 8] (fun i u => ∃ k z : Nat, k < n ∧ i = .int .i64 k ∧ u = .int .u64 z ∧ z < W64 ∧ v / 64 ≤ k ∧ (z ≠ 0 → v ≤ (k : Int) * 64 + (Lib.ctz 64 z : Nat))) (fun i _ => n - (intOf i).toNat)
  case atStart => exact ⟨(v / 64).toNat, y, by omega, by rw [Int.toNat_of_nonneg (by omega)], rfl, HY.out, by omega, fun h => by have := HG.out h; omega⟩
  case round =>
    obtain ⟨k, z, hk, rfl, rfl, hz, hvk, hzz⟩ := hrel
    have HZ : Hid (z ≠ 0 → v ≤ (k : Int) * 64 + (Lib.ctz 64 z : Nat)) := hzz
    clear hzz
    by_cases h0z : z = 0
    · subst h0z
      clear HZ hz
      by_cases hlast : k + 1 = n
      · have HL : Hid (k + 1 = n) := hlast
        have hq : (((k : Int) + 1) == (n : Int)) = true := by simp; omega
        clear hlast
        go_wp2
        go_ret3
        exact PNext.mk (by omega) (by omega) (by simp)
      · have hk1 : k + 1 < ws.length := by rw [hl.out]; omega
        obtain ⟨g', hg', _, _, e2, _⟩ := hg.get (k + 1) hk1
        simp at hg'
        subst hg'
        have hx2 := hW.out ws[k + 1] (List.getElem_mem _)
        have hq : (((k : Int) + 1) == (n : Int)) = false := by simp; omega
        have hne : (k : Int) + 1 < n := by omega
        generalize ws[k + 1] = x2 at *
        have HX2 : Hid (x2 < W64) := hx2
        clear hx2 hlast hand hm hk1
        go_wp2
        go_round
        case rel => exact ⟨k + 1, x2, by omega, by go_num, rfl, HX2.out, by omega, fun _ => by omega⟩
        case measure => simp [intOf]; omega
    · have ht := tz_any z w hz HT.out
      have hle := ctz_le z hz
      have hq : ((z : Int) == 0) = false := by simpa using h0z
      have hfin := HZ.out h0z
      clear hz HZ h0z
      generalize Lib.ctz 64 z = c at *
      go_wp2_with (go_at_call 100; refine ht.mono ?_; rintro e w' ⟨rfl, rfl⟩)
      go_ret3
      exact PNext.mk (by omega) (by omega) (fun _ => hfin)
end Go.Proofs.Qxb6500745aGreatDoor
