import Derived.Test.Qxb6500745aGreatDoorPc
namespace Go.Proofs.Qxb6500745aGreatDoor

def val (B : Nat) : List Nat → Nat
  | [] => 0
  | d :: ds => d + B * val B ds

def msk (B : Nat) : Nat → Nat
  | 0 => 0
  | n + 1 => (B - 1) + B * B * msk B n

def pairs : List Nat → List Nat
  | a :: b :: ds => (a + b) :: pairs ds
  | _ => []

theorem and_split (u v m : Nat) : u &&& v = (u % 2 ^ m &&& v % 2 ^ m) + 2 ^ m * (u / 2 ^ m &&& v / 2 ^ m) := by
  have h := Nat.div_add_mod (u &&& v) (2 ^ m)
  rw [Nat.and_div_two_pow, Nat.and_mod_two_pow] at h
  omega

theorem mask_low (k d e M : Nat) (hd : d < 2 ^ k) : (d + 2 ^ k * e) &&& (2 ^ k - 1 + 2 ^ k * 2 ^ k * M) = d + 2 ^ k * 2 ^ k * (e / 2 ^ k &&& M) := by
  have hp : 0 < 2 ^ k := Nat.two_pow_pos k
  have e1 : (d + 2 ^ k * e) % 2 ^ k = d := by rw [Nat.add_mul_mod_self_left]; exact Nat.mod_eq_of_lt hd
  have e2 : (d + 2 ^ k * e) / 2 ^ k = e := by rw [Nat.add_mul_div_left _ _ hp, Nat.div_eq_of_lt hd]; simp
  have e3 : (2 ^ k - 1 + 2 ^ k * 2 ^ k * M) % 2 ^ k = 2 ^ k - 1 := by
    rw [Nat.mul_assoc, Nat.add_mul_mod_self_left]; exact Nat.mod_eq_of_lt (by omega)
  have e4 : (2 ^ k - 1 + 2 ^ k * 2 ^ k * M) / 2 ^ k = 2 ^ k * M := by
    rw [Nat.mul_assoc, Nat.add_mul_div_left _ _ hp, Nat.div_eq_of_lt (by omega)]; simp
  rw [and_split _ _ k, e1, e2, e3, e4, Nat.and_two_pow_sub_one_eq_mod, Nat.mod_eq_of_lt hd, and_split e (2 ^ k * M) k]
  simp [Nat.mul_mod_right, Nat.mul_div_right _ hp, Nat.mul_assoc]

theorem val_div (B d : Nat) (ds : List Nat) (hd : d < B) : val B (d :: ds) / B = val B ds := by
  rw [val, Nat.add_mul_div_left _ _ (by omega), Nat.div_eq_of_lt hd]; simp

theorem swar_step (k : Nat) : ∀ (n : Nat) (ds : List Nat), ds.length = 2 * n → (∀ d ∈ ds, d < 2 ^ k) →
    (val (2 ^ k) ds / 2 ^ k &&& msk (2 ^ k) n) + (val (2 ^ k) ds &&& msk (2 ^ k) n) = val (2 ^ k * 2 ^ k) (pairs ds)
  | 0, [], _, _ => by simp [val, msk, pairs]
  | n + 1, d0 :: d1 :: ds, hl, hd => by
    have h0 : d0 < 2 ^ k := hd d0 (by simp)
    have h1 : d1 < 2 ^ k := hd d1 (by simp)
    have ih := swar_step k n ds (by simp at hl; omega) (fun d h => hd d (by simp [h]))
    rw [val_div _ _ _ h0]
    simp only [msk, pairs]
    rw [show val (2 ^ k) (d1 :: ds) = d1 + 2 ^ k * val (2 ^ k) ds from rfl, mask_low k d1 _ _ h1]
    rw [show val (2 ^ k) (d0 :: d1 :: ds) = d0 + 2 ^ k * val (2 ^ k) (d1 :: ds) from rfl, mask_low k d0 _ _ h0, val_div _ _ _ h1]
    rw [show val (2 ^ k * 2 ^ k) ((d0 + d1) :: pairs ds) = d0 + d1 + 2 ^ k * 2 ^ k * val (2 ^ k * 2 ^ k) (pairs ds) from rfl, ← ih, Nat.mul_add]
    omega

theorem swar_last (k : Nat) : ∀ (n : Nat) (ds : List Nat), ds.length = 2 * n → (∀ d ∈ ds, 2 * d < 2 ^ k) →
    (val (2 ^ k) ds / 2 ^ k + val (2 ^ k) ds) &&& msk (2 ^ k) n = val (2 ^ k * 2 ^ k) (pairs ds)
  | 0, [], _, _ => by simp [val, msk, pairs]
  | n + 1, d0 :: d1 :: ds, hl, hd => by
    have h0 : 2 * d0 < 2 ^ k := hd d0 (by simp)
    have h1 : 2 * d1 < 2 ^ k := hd d1 (by simp)
    have ih := swar_last k n ds (by simp at hl; omega) (fun d h => hd d (by simp [h]))
    have hp : 0 < 2 ^ k := Nat.two_pow_pos k
    rw [val_div _ _ _ (by omega)]
    simp only [msk, pairs]
    have hm : val (2 ^ k) ds % 2 ^ k + d1 < 2 ^ k := by
      cases ds with
      | nil => simp [val]; omega
      | cons e es =>
        have he : 2 * e < 2 ^ k := hd e (by simp)
        rw [val, Nat.add_mul_mod_self_left, Nat.mod_eq_of_lt (by omega)]; omega
    have e1 : val (2 ^ k) (d1 :: ds) + val (2 ^ k) (d0 :: d1 :: ds) = (d0 + d1) + 2 ^ k * (val (2 ^ k) ds + d1 + 2 ^ k * val (2 ^ k) ds) := by
      simp only [val, Nat.mul_add]; omega
    rw [e1, mask_low k (d0 + d1) _ _ (by omega), Nat.add_mul_div_left _ _ hp]
    have e2 : (val (2 ^ k) ds + d1) / 2 ^ k = val (2 ^ k) ds / 2 ^ k := by
      generalize val (2 ^ k) ds = v at *
      have h3 := Nat.div_add_mod v (2 ^ k)
      rw [show v + d1 = (v % 2 ^ k + d1) + 2 ^ k * (v / 2 ^ k) by omega, Nat.add_mul_div_left _ _ hp, Nat.div_eq_of_lt hm]; simp
    rw [e2, ih]
    rfl

def bitsL : Nat → Nat → List Nat
  | 0, _ => []
  | n + 1, x => x % 2 :: bitsL n (x / 2)

theorem bitsL_val : ∀ (n x : Nat), x < 2 ^ n → val 2 (bitsL n x) = x
  | 0, x, h => by simp at h; simp [bitsL, val, h]
  | n + 1, x, h => by
    rw [bitsL, val, bitsL_val n (x / 2) (by rw [Nat.pow_succ] at h; omega)]; omega

theorem bitsL_len : ∀ (n x : Nat), (bitsL n x).length = n
  | 0, _ => rfl
  | n + 1, x => by simp [bitsL, bitsL_len n]

theorem bitsL_lt : ∀ (n x d : Nat), d ∈ bitsL n x → d < 2
  | 0, _, _, h => by simp [bitsL] at h
  | n + 1, x, d, h => by
    simp only [bitsL, List.mem_cons] at h
    rcases h with rfl | h
    · omega
    · exact bitsL_lt n _ d h

theorem pc_low : ∀ (n x : Nat), pc (n + 1) x = x % 2 + pc n (x / 2)
  | 0, x => by
    simp only [pc, Nat.testBit_eq_decide_div_mod_eq]
    by_cases h : x % 2 = 1 <;> simp [h]; omega
  | n + 1, x => by
    have ih := pc_low n x
    have e : x.testBit (n + 1) = (x / 2).testBit n := by rw [Nat.testBit_succ]
    rw [pc, ih, e]
    simp only [pc]; omega

theorem bitsL_sum : ∀ (n x : Nat), (bitsL n x).sum = pc n x
  | 0, _ => rfl
  | n + 1, x => by rw [bitsL, List.sum_cons, bitsL_sum n, pc_low]

theorem pairs_len : ∀ (n : Nat) (ds : List Nat), ds.length = 2 * n → (pairs ds).length = n
  | 0, [], _ => rfl
  | n + 1, a :: b :: ds, h => by simp [pairs, pairs_len n ds (by simp at h; omega)]

theorem pairs_sum : ∀ (n : Nat) (ds : List Nat), ds.length = 2 * n → (pairs ds).sum = ds.sum
  | 0, [], _ => rfl
  | n + 1, a :: b :: ds, h => by simp [pairs, pairs_sum n ds (by simp at h; omega)]; omega

theorem pairs_le (m : Nat) : ∀ (n : Nat) (ds : List Nat), ds.length = 2 * n → (∀ d ∈ ds, d ≤ m) → ∀ d ∈ pairs ds, d ≤ 2 * m
  | 0, [], _, _, d, h => by simp [pairs] at h
  | n + 1, a :: b :: ds, hl, hd, d, h => by
    simp only [pairs, List.mem_cons] at h
    rcases h with rfl | h
    · have := hd a (by simp); have := hd b (by simp); omega
    · exact pairs_le m n ds (by simp at hl; omega) (fun d h => hd d (by simp [h])) d h

theorem list8 (l : List Nat) (h : l.length = 8) : ∃ a b c d e f g i, l = [a, b, c, d, e, f, g, i] := by
  match l, h with
  | [a, b, c, d, e, f, g, i], _ => exact ⟨a, b, c, d, e, f, g, i, rfl⟩

def y1 (x : Nat) : Nat := (x / 2 &&& 6148914691236517205) + (x &&& 6148914691236517205)
def y2 (x : Nat) : Nat := (y1 x / 4 &&& 3689348814741910323) + (y1 x &&& 3689348814741910323)
def y3 (x : Nat) : Nat := (y2 x / 16 + y2 x) &&& 1085102592571150095
def y4 (x : Nat) : Nat := y3 x + y3 x / 256
def y5 (x : Nat) : Nat := y4 x + y4 x / 65536
def y6 (x : Nat) : Nat := y5 x + y5 x / 4294967296

theorem dv (B r q : Nat) (h : r < B) : (r + B * q) / B = q := by rw [Nat.add_mul_div_left _ _ (by omega), Nat.div_eq_of_lt h]; simp

theorem fold1 (a b c d e f g i : Nat) (ha : a ≤ 8) (z : Nat) (hz : z = a + 256 * (b + 256 * (c + 256 * (d + 256 * (e + 256 * (f + 256 * (g + 256 * i))))))) :
    z + z / 256 = ((a + b) + 256 * (b + c)) + 65536 * ((c + d) + 256 * ((d + e) + 256 * ((e + f) + 256 * ((f + g) + 256 * ((g + i) + 256 * i))))) := by
  have q1 : z / 256 = b + 256 * (c + 256 * (d + 256 * (e + 256 * (f + 256 * (g + 256 * i))))) := by rw [hz]; exact dv _ _ _ (by omega)
  rw [q1, hz]; clear q1 hz; omega

theorem fold2 (a b c d e f g i : Nat) (ha : a ≤ 8) (hb : b ≤ 8) (hc : c ≤ 8) (z : Nat) (hz : z = ((a + b) + 256 * (b + c)) + 65536 * ((c + d) + 256 * ((d + e) + 256 * ((e + f) + 256 * ((f + g) + 256 * ((g + i) + 256 * i)))))) :
    z + z / 65536 = ((a + b + c + d) + 256 * ((b + c + d + e) + 256 * ((c + d + e + f) + 256 * (d + e + f + g)))) + 4294967296 * ((e + f + g + i) + 256 * ((f + g + i) + 256 * ((g + i) + 256 * i))) := by
  have q1 : z / 65536 = (c + d) + 256 * ((d + e) + 256 * ((e + f) + 256 * ((f + g) + 256 * ((g + i) + 256 * i)))) := by rw [hz]; exact dv _ _ _ (by omega)
  rw [q1, hz]; clear q1 hz; omega

theorem fold3 (a b c d e f g i : Nat) (ha : a ≤ 8) (hb : b ≤ 8) (hc : c ≤ 8) (hd : d ≤ 8) (he : e ≤ 8) (hf : f ≤ 8) (hg : g ≤ 8) (hi : i ≤ 8) (z : Nat)
    (hz : z = ((a + b + c + d) + 256 * ((b + c + d + e) + 256 * ((c + d + e + f) + 256 * (d + e + f + g)))) + 4294967296 * ((e + f + g + i) + 256 * ((f + g + i) + 256 * ((g + i) + 256 * i)))) :
    ∃ T, T ≤ 72057594037927935 ∧ z + z / 4294967296 = (a + b + c + d + e + f + g + i) + 128 * T := by
  have q1 : z / 4294967296 = (e + f + g + i) + 256 * ((f + g + i) + 256 * ((g + i) + 256 * i)) := by rw [hz]; exact dv _ _ _ (by omega)
  refine ⟨2 * ((b + c + d + e + f + g + i) + 256 * ((c + d + e + f + g + i) + 256 * ((d + e + f + g + i) + 256 * ((e + f + g + i) + 256 * ((f + g + i) + 256 * ((g + i) + 256 * i)))))), ?_, ?_⟩
  · clear q1 hz; omega
  · rw [q1, hz]; clear q1 hz; omega

theorem fin8 (a b c d e f g i T : Nat) (ha : a ≤ 8) (hb : b ≤ 8) (hc : c ≤ 8) (hd : d ≤ 8) (he : e ≤ 8) (hf : f ≤ 8) (hg : g ≤ 8) (hi : i ≤ 8) :
    ((a + b + c + d + e + f + g + i) + 128 * T) % 128 = a + b + c + d + e + f + g + i := by
  rw [Nat.add_mul_mod_self_left, Nat.mod_eq_of_lt (by omega)]

set_option maxHeartbeats 100000 in
theorem swar (x : Nat) (hx : x < W64) : y6 x % 128 = pc 64 x ∧ y1 x < W64 ∧ y2 x < W64 ∧ y2 x / 16 + y2 x < W64 ∧ y4 x < W64 ∧ y5 x < W64 ∧ y6 x < 9223372036854775808 := by
  have hW : W64 = 18446744073709551616 := rfl
  have l0 := bitsL_len 64 x
  have v0 := bitsL_val 64 x (by rw [← W64_eq]; exact hx)
  have s1 := swar_step 1 32 (bitsL 64 x) (by omega) (fun d h => by have := bitsL_lt 64 x d h; simpa using this)
  have l1 := pairs_len 32 (bitsL 64 x) (by omega)
  have b1 := pairs_le 1 32 (bitsL 64 x) (by omega) (fun d h => by have := bitsL_lt 64 x d h; omega)
  have p1 := pairs_sum 32 (bitsL 64 x) (by omega)
  have s2 := swar_step 2 16 (pairs (bitsL 64 x)) (by omega) (fun d h => by have := b1 d h; simp; omega)
  have l2 := pairs_len 16 (pairs (bitsL 64 x)) (by omega)
  have b2 := pairs_le 2 16 (pairs (bitsL 64 x)) (by omega) (fun d h => by have := b1 d h; omega)
  have p2 := pairs_sum 16 (pairs (bitsL 64 x)) (by omega)
  have s3 := swar_last 4 8 (pairs (pairs (bitsL 64 x))) (by omega) (fun d h => by have := b2 d h; simp; omega)
  have l3 := pairs_len 8 (pairs (pairs (bitsL 64 x))) (by omega)
  have b3 := pairs_le 4 8 (pairs (pairs (bitsL 64 x))) (by omega) (fun d h => by have := b2 d h; omega)
  have p3 := pairs_sum 8 (pairs (pairs (bitsL 64 x))) (by omega)
  have m1 : msk (2 ^ 1) 32 = 6148914691236517205 := by decide
  have m2 : msk (2 ^ 2) 16 = 3689348814741910323 := by decide
  have m3 : msk (2 ^ 4) 8 = 1085102592571150095 := by decide
  rw [m1, show (2 : Nat) ^ 1 = 2 from rfl, v0] at s1
  have e1 : y1 x = val 4 (pairs (bitsL 64 x)) := s1
  rw [m2, show (2 : Nat) ^ 2 = 4 from rfl, ← e1] at s2
  have e2 : y2 x = val 16 (pairs (pairs (bitsL 64 x))) := s2
  rw [m3, show (2 : Nat) ^ 4 = 16 from rfl, ← e2] at s3
  have e3 : y3 x = val 256 (pairs (pairs (pairs (bitsL 64 x)))) := s3
  rw [← bitsL_sum, ← p1, ← p2, ← p3]
  have a1 : y1 x ≤ 6148914691236517205 + 6148914691236517205 := Nat.add_le_add Nat.and_le_right Nat.and_le_right
  have a2 : y2 x ≤ 3689348814741910323 + 3689348814741910323 := Nat.add_le_add Nat.and_le_right Nat.and_le_right
  obtain ⟨a, b, c, d, e, f, g, i, hl⟩ := list8 _ l3
  rw [hl] at e3 b3 ⊢
  have ba := b3 a (by simp); have bb := b3 b (by simp); have bc := b3 c (by simp); have bd := b3 d (by simp)
  have be := b3 e (by simp); have bf := b3 f (by simp); have bg := b3 g (by simp); have bi := b3 i (by simp)
  simp only [val] at e3
  clear b3 hl p1 p2 p3 l1 l2 l3 b1 b2 s1 s2 s3 v0 l0 m1 m2 m3 e1 e2
  have f4 : y4 x = y3 x + y3 x / 256 := by unfold y4; rfl
  have f5 : y5 x = y4 x + y4 x / 65536 := by unfold y5; rfl
  have f6 : y6 x = y5 x + y5 x / 4294967296 := by unfold y6; rfl
  have f1 := fold1 a b c d e f g i ba (y3 x) (by rw [e3]; simp)
  rw [← f4] at f1
  have f2 := fold2 a b c d e f g i ba bb bc (y4 x) f1
  rw [← f5] at f2
  obtain ⟨T, hT, f3⟩ := fold3 a b c d e f g i ba bb bc bd be bf bg bi (y5 x) f2
  rw [← f6] at f3
  clear f4 f5 f6 e3
  have q4 : y2 x / 16 ≤ y2 x := Nat.div_le_self _ _
  have g6 : y6 x % 128 = [a, b, c, d, e, f, g, i].sum := by
    rw [f3, fin8 a b c d e f g i T ba bb bc bd be bf bg bi]
    simp only [List.sum_cons, List.sum_nil]; omega
  have g4 : y4 x < W64 := by rw [f1, hW]; clear f1 f2 f3 a1 a2 q4 g6; omega
  have g5 : y5 x < W64 := by rw [f2, hW]; clear f1 f2 f3 a1 a2 q4 g6 g4; omega
  have g7 : y6 x < 9223372036854775808 := by rw [f3]; clear f1 f2 f3 a1 a2 q4 g6 g4 g5; omega
  clear f1 f2 f3
  exact ⟨g6, by omega, by omega, by omega, g4, g5, g7⟩

end Go.Proofs.Qxb6500745aGreatDoor
