namespace Go.Proofs.Qxb6500745aGreatDoor

def W64 : Nat := 18446744073709551616

def pc : Nat → Nat → Nat
  | 0, _ => 0
  | n + 1, x => pc n x + (x.testBit n).toNat

theorem pc_le : ∀ (n x : Nat), pc n x ≤ n
  | 0, _ => Nat.le_refl _
  | n + 1, x => by
    have h := pc_le n x
    have h2 : (x.testBit n).toNat ≤ 1 := Bool.toNat_le _
    simp only [pc]; omega

theorem pc_congr : ∀ (n x y : Nat), (∀ i, i < n → x.testBit i = y.testBit i) → pc n x = pc n y
  | 0, _, _, _ => rfl
  | n + 1, x, y, h => by simp only [pc]; rw [pc_congr n x y (fun i hi => h i (by omega)), h n (by omega)]

theorem pc_flip : ∀ (n x y k : Nat), k < n → (∀ i, i < n → i ≠ k → x.testBit i = y.testBit i) → x.testBit k = false → y.testBit k = true → pc n y = pc n x + 1
  | 0, _, _, _, hk, _, _, _ => by omega
  | n + 1, x, y, k, hk, h, hx, hy => by
    simp only [pc]
    by_cases e : k = n
    · subst e
      rw [pc_congr k x y (fun i hi => h i (by omega) (by omega)), hx, hy]; simp
    · rw [pc_flip n x y k (by omega) (fun i hi hne => h i (by omega) hne) hx hy, h n (by omega) (by omega)]; omega

theorem pc_zero : ∀ n, pc n 0 = 0
  | 0 => rfl
  | n + 1 => by simp [pc, pc_zero n]

theorem pc_ones : ∀ (n r : Nat), n ≤ r → pc n (2 ^ r - 1) = n
  | 0, _, _ => rfl
  | n + 1, r, h => by
    simp only [pc]; rw [pc_ones n r (by omega), Nat.testBit_two_pow_sub_one]; simp; omega

theorem pc_ones' (r : Nat) : ∀ n, r ≤ n → pc n (2 ^ r - 1) = r
  | 0, h => by have : r = 0 := by omega
               subst this; rfl
  | n + 1, h => by
    by_cases e : r = n + 1
    · subst e; exact pc_ones _ _ (Nat.le_refl _)
    · simp only [pc]; rw [pc_ones' r n (by omega), Nat.testBit_two_pow_sub_one]; simp; omega

theorem pc_pos : ∀ (n x k : Nat), k < n → x.testBit k = true → 1 ≤ pc n x
  | 0, _, _, hk, _ => by omega
  | n + 1, x, k, hk, h => by
    simp only [pc]
    by_cases e : k = n
    · subst e; rw [h]; simp
    · have := pc_pos n x k (by omega) h; omega

def pcs (ws : List Nat) : Nat := (ws.map (pc 64)).sum

theorem pcs_le : ∀ ws : List Nat, pcs ws ≤ 64 * ws.length
  | [] => Nat.le_refl _
  | x :: ws => by
    have h1 := pc_le 64 x
    have h2 := pcs_le ws
    simp only [pcs, List.map_cons, List.sum_cons, List.length_cons] at *; omega

theorem pcs_set : ∀ (ws : List Nat) (i : Nat) (y : Nat) (h : i < ws.length), pcs (ws.set i y) + pc 64 ws[i] = pcs ws + pc 64 y
  | x :: ws, 0, y, _ => by simp [pcs]; omega
  | x :: ws, i + 1, y, h => by
    have := pcs_set ws i y (by simpa using h)
    simp [pcs] at *; omega

theorem pcs_zero (n : Nat) : pcs (List.replicate n 0) = 0 := by simp [pcs, pc_zero]

theorem and_bit (x k : Nat) : (x &&& 2 ^ k != 0) = x.testBit k := by
  rw [Nat.testBit_eq_decide_div_mod_eq]
  have h : x &&& 2 ^ k = (x.testBit k).toNat * 2 ^ k := by
    apply Nat.eq_of_testBit_eq
    intro i
    rw [Nat.testBit_and, Nat.testBit_two_pow]
    by_cases e : k = i
    · subst e
      cases hb : x.testBit k <;> simp
    · cases hb : x.testBit k <;> simp [e]
  rw [h, Nat.testBit_eq_decide_div_mod_eq]
  by_cases hd : x / 2 ^ k % 2 = 1
  · simp [hd]
  · simp [hd]

theorem pow_lt_W64 (k : Nat) (h : k < 64) : 2 ^ k < W64 := by
  have : (2 : Nat) ^ k < 2 ^ 64 := Nat.pow_lt_pow_right (by omega) h
  simpa [W64] using this

theorem W64_eq : W64 = 2 ^ 64 := by decide

theorem or_lt_W64 (x y : Nat) (hx : x < W64) (hy : y < W64) : x ||| y < W64 := by
  rw [W64_eq] at *; exact Nat.or_lt_two_pow hx hy

theorem and_lt_W64 (x y : Nat) (hx : x < W64) : x &&& y < W64 := Nat.lt_of_le_of_lt Nat.and_le_left hx

theorem pc_or_bit (x k : Nat) (hk : k < 64) (hx : x.testBit k = false) : pc 64 (x ||| 2 ^ k) = pc 64 x + 1 := by
  refine pc_flip 64 x _ k hk (fun i _ hne => ?_) hx ?_
  · rw [Nat.testBit_or, Nat.testBit_two_pow]; simp [Ne.symm hne]
  · rw [Nat.testBit_or, Nat.testBit_two_pow]; simp

def clr (x k : Nat) : Nat := x &&& (W64 - 1 - 2 ^ k)

theorem testBit_clr (x k i : Nat) (hk : k < 64) (hi : i < 64) : (clr x k).testBit i = (x.testBit i && decide (i ≠ k)) := by
  unfold clr
  rw [Nat.testBit_and]
  congr 1
  have h : W64 - 1 - 2 ^ k = 2 ^ 64 - (2 ^ k + 1) := by rw [W64_eq]; omega
  rw [h, Nat.testBit_two_pow_sub_succ (Nat.pow_lt_pow_right (by omega) hk), Nat.testBit_two_pow]
  simp [hi]
  by_cases e : k = i <;> simp [e, eq_comm]

theorem pc_clr (x k : Nat) (hk : k < 64) (hx : x.testBit k = true) : pc 64 (clr x k) + 1 = pc 64 x := by
  refine (pc_flip 64 (clr x k) x k hk (fun i hi hne => ?_) ?_ hx).symm
  · rw [testBit_clr x k i hk hi]; simp [hne]
  · rw [testBit_clr x k k hk hk]; simp

theorem clr_lt (x k : Nat) (hx : x < W64) : clr x k < W64 := and_lt_W64 _ _ hx

end Go.Proofs.Qxb6500745aGreatDoor
