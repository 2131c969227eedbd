import Derived.Test.Qxb6500745aGreatDoorPc
import Derived.Lib.TrailingZeros
namespace Go.Proofs.Qxb6500745aGreatDoor

theorem low_form (x : Nat) (h0 : x ≠ 0) (hx : x < W64) : ∃ m, x = 2 ^ Lib.ctz 64 x * (2 * m + 1) ∧ Lib.ctz 64 x < 64 := by
  have hc : Lib.ctz 64 x = Lib.ctzFrom 64 x := by unfold Lib.ctz; rw [if_neg h0]
  rw [hc]
  exact Lib.ctzFrom_spec 64 x (by omega) (by rw [← W64_eq]; exact hx)

def drop1 (x : Nat) : Nat := x &&& (x - 1)

theorem pc_drop1 (x : Nat) (h0 : x ≠ 0) (hx : x < W64) : pc 64 (drop1 x) + 1 = pc 64 x := by
  obtain ⟨m, hm, hc⟩ := low_form x h0 hx
  generalize Lib.ctz 64 x = c at *
  have hp := Nat.two_pow_pos c
  have e1 : x - 1 = (2 ^ c - 1) + 2 ^ (c + 1) * m := by rw [hm, Nat.pow_succ, Nat.mul_add, Nat.mul_one, ← Nat.mul_assoc]; omega
  have e2 : x = 2 ^ c + 2 ^ (c + 1) * m := by rw [hm, Nat.pow_succ, Nat.mul_add, Nat.mul_one, ← Nat.mul_assoc]; omega
  have hp1 : 2 ^ (c + 1) = 2 * 2 ^ c := by rw [Nat.pow_succ]; omega
  have d1 : (x - 1) / 2 ^ (c + 1) = m := by
    rw [e1, Nat.add_mul_div_left _ _ (Nat.two_pow_pos _), Nat.div_eq_of_lt (by omega)]; simp
  have d2 : x / 2 ^ (c + 1) = m := by
    rw [e2, Nat.add_mul_div_left _ _ (Nat.two_pow_pos _), Nat.div_eq_of_lt (by omega)]; simp
  have m1 : (x - 1) % 2 ^ (c + 1) = 2 ^ c - 1 := by rw [e1, Nat.add_mul_mod_self_left]; exact Nat.mod_eq_of_lt (by omega)
  have m2 : x % 2 ^ (c + 1) = 2 ^ c := by rw [e2, Nat.add_mul_mod_self_left]; exact Nat.mod_eq_of_lt (by omega)
  have lowx : ∀ i, i < c + 1 → x.testBit i = (2 ^ c).testBit i := fun i hi => by
    have := Nat.testBit_mod_two_pow x (c + 1) i; rw [m2] at this; rw [this]; simp [hi]
  have lowy : ∀ i, i < c + 1 → (x - 1).testBit i = (2 ^ c - 1).testBit i := fun i hi => by
    have := Nat.testBit_mod_two_pow (x - 1) (c + 1) i; rw [m1] at this; rw [this]; simp [hi]
  refine (pc_flip 64 (drop1 x) x c hc (fun i _ hne => ?_) ?_ ?_).symm
  · unfold drop1
    rw [Nat.testBit_and]
    by_cases hi : i < c
    · rw [lowx i (by omega), Nat.testBit_two_pow]; simp [Ne.symm hne]
    · have : (x - 1).testBit i = x.testBit i := by
        obtain ⟨j, rfl⟩ : ∃ j, i = j + (c + 1) := ⟨i - (c + 1), by omega⟩
        have a1 := Nat.testBit_div_two_pow (n := c + 1) (x - 1) j
        have a2 := Nat.testBit_div_two_pow (n := c + 1) x j
        rw [d1] at a1; rw [d2] at a2; rw [← a1, ← a2]
      rw [this]; simp
  · unfold drop1
    rw [Nat.testBit_and, lowy c (by omega), Nat.testBit_two_pow_sub_one]; simp
  · rw [lowx c (by omega), Nat.testBit_two_pow]; simp

theorem drop1_lt (x : Nat) (hx : x < W64) : drop1 x < W64 := and_lt_W64 _ _ hx

def wvals (i : Nat) : Nat → Nat → List Int
  | 0, _ => []
  | f + 1, x => ((i * 64 + Lib.ctz 64 x : Nat) : Int) :: wvals i f (drop1 x)

def wv (i x : Nat) : List Int := wvals i (pc 64 x) x

theorem wv_zero (i : Nat) : wv i 0 = [] := by unfold wv; rw [pc_zero]; rfl

theorem wv_step (i x : Nat) (h0 : x ≠ 0) (hx : x < W64) : wv i x = ((i * 64 + Lib.ctz 64 x : Nat) : Int) :: wv i (drop1 x) := by
  unfold wv; rw [← pc_drop1 x h0 hx]; rfl

def valsFrom : Nat → List Nat → List Int
  | _, [] => []
  | i, x :: ws => wv i x ++ valsFrom (i + 1) ws

def vals (ws : List Nat) : List Int := valsFrom 0 ws

theorem wvals_len (i : Nat) : ∀ f x, (wvals i f x).length = f
  | 0, _ => rfl
  | f + 1, x => by simp [wvals, wvals_len i f]

theorem valsFrom_len : ∀ (ws : List Nat) (i : Nat), (valsFrom i ws).length = pcs ws
  | [], _ => rfl
  | x :: ws, i => by simp [valsFrom, valsFrom_len ws, wv, wvals_len, pcs]

theorem vals_len (ws : List Nat) : (vals ws).length = pcs ws := valsFrom_len ws 0
end Go.Proofs.Qxb6500745aGreatDoor
