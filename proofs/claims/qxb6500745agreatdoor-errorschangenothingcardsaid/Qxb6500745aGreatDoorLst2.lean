import Derived.Test.Qxb6500745aGreatDoorLst
namespace Go.Proofs.Qxb6500745aGreatDoor

def cc (as bs : List Int) : Nat := as.countP (fun x => bs.contains x)

theorem asc_not_mem {b : Int} {bs : List Int} (h : (b :: bs).Pairwise (· < ·)) {a : Int} (hab : a < b) : a ∉ b :: bs := by
  intro hm
  have h' := List.pairwise_cons.1 h
  simp only [List.mem_cons] at hm
  rcases hm with rfl | hm
  · omega
  · have := h'.1 a hm; omega

theorem cc_lt {a b : Int} {as bs : List Int} (hb : (b :: bs).Pairwise (· < ·)) (hab : a < b) : cc (a :: as) (b :: bs) = cc as (b :: bs) := by
  unfold cc
  rw [List.countP_cons_of_neg]
  have := asc_not_mem hb hab
  simpa using this

theorem countP_congr {l : List Int} {p q : Int → Bool} (h : ∀ x ∈ l, p x = q x) : l.countP p = l.countP q := by
  induction l with
  | nil => rfl
  | cons a l ih =>
    rw [List.countP_cons, List.countP_cons, ih (fun x hx => h x (by simp [hx])), h a (by simp)]

theorem cc_gt {a b : Int} {as bs : List Int} (ha : (a :: as).Pairwise (· < ·)) (hab : b < a) : cc (a :: as) (b :: bs) = cc (a :: as) bs := by
  unfold cc
  refine countP_congr fun x hx => ?_
  have hn : x ≠ b := fun e => asc_not_mem ha hab (e ▸ hx)
  simp [hn]

theorem cc_eq {a : Int} {as bs : List Int} (ha : (a :: as).Pairwise (· < ·)) : cc (a :: as) (a :: bs) = 1 + cc as bs := by
  unfold cc
  have h' := List.pairwise_cons.1 ha
  rw [List.countP_cons_of_pos (by simp), Nat.add_comm]
  congr 1
  refine countP_congr fun x hx => ?_
  have hn : x ≠ a := fun e => by have := h'.1 x hx; omega
  simp [hn]

theorem cc_nil_left (bs : List Int) : cc [] bs = 0 := rfl
theorem cc_nil_right (as : List Int) : cc as [] = 0 := by simp [cc]
theorem cc_le (as bs : List Int) : cc as bs ≤ as.length := List.countP_le_length

theorem cc_comm : ∀ (n : Nat) (as bs : List Int), as.length + bs.length ≤ n → as.Pairwise (· < ·) → bs.Pairwise (· < ·) → cc as bs = cc bs as
  | _, [], bs, _, _, _ => by rw [cc_nil_left, cc_nil_right]
  | _, a :: as, [], _, _, _ => by rw [cc_nil_left, cc_nil_right]
  | 0, a :: as, b :: bs, h, _, _ => by simp at h
  | n + 1, a :: as, b :: bs, h, ha, hb => by
    have ha' := List.pairwise_cons.1 ha
    have hb' := List.pairwise_cons.1 hb
    simp only [List.length_cons] at h
    rcases Int.lt_trichotomy a b with hab | rfl | hab
    · rw [cc_lt hb hab, cc_gt hb hab]; exact cc_comm n as (b :: bs) (by simp; omega) ha'.2 hb
    · rw [cc_eq ha, cc_eq hb, cc_comm n as bs (by omega) ha'.2 hb'.2]
    · rw [cc_gt ha hab, cc_lt ha hab]; exact cc_comm n (a :: as) bs (by simp; omega) ha hb'.2

theorem cc_sym {as bs : List Int} (ha : as.Pairwise (· < ·)) (hb : bs.Pairwise (· < ·)) : cc as bs = cc bs as := cc_comm _ as bs (Nat.le_refl _) ha hb

theorem cc_all {as bs : List Int} : cc as bs = as.length ↔ ∀ x ∈ as, x ∈ bs := by
  unfold cc; rw [List.countP_eq_length]; simp

theorem cc_none {as bs : List Int} : cc as bs = 0 ↔ ∀ x ∈ as, x ∉ bs := by
  unfold cc; rw [List.countP_eq_zero]; simp

def ins (x : Int) : List Int → List Int
  | [] => [x]
  | y :: l => if x < y then x :: y :: l else if x = y then y :: l else y :: ins x l

theorem mem_ins (x y : Int) : ∀ l : List Int, y ∈ ins x l ↔ y = x ∨ y ∈ l
  | [] => by simp [ins]
  | z :: l => by
    unfold ins
    split
    · simp
    · split
      · rename_i h; subst h; simp
      · simp only [List.mem_cons, mem_ins x y l]
        constructor
        · rintro (h | h | h)
          · exact .inr (.inl h)
          · exact .inl h
          · exact .inr (.inr h)
        · rintro (h | h | h)
          · exact .inr (.inl h)
          · exact .inl h
          · exact .inr (.inr h)

theorem ins_asc (x : Int) : ∀ l : List Int, l.Pairwise (· < ·) → (ins x l).Pairwise (· < ·)
  | [], _ => by simp [ins]
  | z :: l, h => by
    have h' := List.pairwise_cons.1 h
    unfold ins
    split
    · rename_i hx
      refine List.pairwise_cons.2 ⟨fun y hy => ?_, h⟩
      simp only [List.mem_cons] at hy
      rcases hy with rfl | hy
      · exact hx
      · have := h'.1 y hy; omega
    · split
      · exact h
      · refine List.pairwise_cons.2 ⟨fun y hy => ?_, ins_asc x l h'.2⟩
        rcases (mem_ins x y l).1 hy with rfl | hy
        · omega
        · exact h'.1 y hy

theorem ins_len (x : Int) : ∀ l : List Int, l.Pairwise (· < ·) → (ins x l).length + (if x ∈ l then 1 else 0) = l.length + 1
  | [], _ => by simp [ins]
  | z :: l, h => by
    have h' := List.pairwise_cons.1 h
    unfold ins
    split
    · rename_i hx
      rw [if_neg (asc_not_mem h hx)]; simp
    · split
      · rename_i hx; subst hx; simp
      · rename_i h1 h2
        have := ins_len x l h'.2
        have e : (x ∈ z :: l) = (x ∈ l) := by simp [h2]
        rw [List.length_cons, List.length_cons]
        by_cases hm : x ∈ l
        · rw [if_pos hm] at this; rw [if_pos (by simp [hm])]; omega
        · rw [if_neg hm] at this; rw [if_neg (by simp [hm, h2])]; omega

def un (zs us : List Int) : List Int := us.foldr ins zs

theorem un_mem (zs : List Int) (x : Int) : ∀ us : List Int, x ∈ un zs us ↔ x ∈ zs ∨ x ∈ us
  | [] => by simp [un]
  | u :: us => by
    have := un_mem zs x us
    simp only [un, List.foldr_cons] at *
    rw [mem_ins, this]
    simp only [List.mem_cons]
    constructor
    · rintro (h | h | h)
      · exact .inr (.inl h)
      · exact .inl h
      · exact .inr (.inr h)
    · rintro (h | h | h)
      · exact .inr (.inl h)
      · exact .inl h
      · exact .inr (.inr h)

theorem un_asc {zs : List Int} (hz : zs.Pairwise (· < ·)) : ∀ us : List Int, (un zs us).Pairwise (· < ·)
  | [] => hz
  | u :: us => ins_asc u _ (un_asc hz us)

theorem un_len {zs : List Int} (hz : zs.Pairwise (· < ·)) : ∀ us : List Int, us.Pairwise (· < ·) → (un zs us).length + cc us zs = zs.length + us.length
  | [], _ => by simp [un, cc]
  | u :: us, hu => by
    have hu' := List.pairwise_cons.1 hu
    have ih := un_len hz us hu'.2
    have h1 := ins_len u (un zs us) (un_asc hz us)
    have e : (u ∈ un zs us) ↔ u ∈ zs := by
      rw [un_mem]
      constructor
      · rintro (h | h)
        · exact h
        · have := hu'.1 u h; omega
      · exact .inl
    show (ins u (un zs us)).length + cc (u :: us) zs = _
    unfold cc at *
    rw [List.countP_cons, List.length_cons]
    by_cases hm : u ∈ zs
    · rw [if_pos (e.2 hm)] at h1; rw [if_pos (by simpa using hm)]; omega
    · rw [if_neg (fun h => hm (e.1 h))] at h1; rw [if_neg (by simpa using hm)]; omega

theorem un_ge {zs : List Int} (hz : zs.Pairwise (· < ·)) (us : List Int) (hu : us.Pairwise (· < ·)) : zs.length ≤ (un zs us).length := by
  have := un_len hz us hu; have := cc_le us zs; omega

theorem un_ok {zs us : List Int} (hz : SetOk zs) (hu : SetOk us) : SetOk (un zs us) :=
  ⟨un_asc hz.1 us, fun x hx => ((un_mem zs x us).1 hx).elim (hz.2 x) (hu.2 x)⟩

theorem snoc_asc {l : List Int} {x : Int} (h : l.Pairwise (· < ·)) (hx : ∀ y ∈ l, y < x) : (l ++ [x]).Pairwise (· < ·) := by
  rw [List.pairwise_append]
  exact ⟨h, by simp, fun a ha b hb => by simp only [List.mem_singleton] at hb; subst hb; exact hx a ha⟩

theorem snoc_lt {l : List Int} {x : Int} (h : (l ++ [x]).Pairwise (· < ·)) : l.Pairwise (· < ·) ∧ ∀ y ∈ l, y < x := by
  rw [List.pairwise_append] at h
  exact ⟨h.1, fun y hy => h.2.2 y hy x (by simp)⟩

theorem un_snoc_right {P Q : List Int} {b : Int} (hP : P.Pairwise (· < ·)) (hQ : (Q ++ [b]).Pairwise (· < ·)) (hb : ∀ y ∈ P, y < b) : un P (Q ++ [b]) = un P Q ++ [b] := by
  obtain ⟨hQ1, hQ2⟩ := snoc_lt hQ
  refine asc_unique _ _ (un_asc hP _) (snoc_asc (un_asc hP _) (fun y hy => ((un_mem P y Q).1 hy).elim (hb y) (hQ2 y))) (fun x => ?_)
  rw [un_mem, List.mem_append, List.mem_append, un_mem]
  constructor
  · rintro (h | h | h)
    · exact .inl (.inl h)
    · exact .inl (.inr h)
    · exact .inr h
  · rintro ((h | h) | h)
    · exact .inl h
    · exact .inr (.inl h)
    · exact .inr (.inr h)

theorem un_snoc_left {P Q : List Int} {a : Int} (hP : (P ++ [a]).Pairwise (· < ·)) (hQ : ∀ y ∈ Q, y < a) : un (P ++ [a]) Q = un P Q ++ [a] := by
  obtain ⟨hP1, hP2⟩ := snoc_lt hP
  refine asc_unique _ _ (un_asc hP _) (snoc_asc (un_asc hP1 _) (fun y hy => ((un_mem P y Q).1 hy).elim (hP2 y) (hQ y))) (fun x => ?_)
  rw [un_mem, List.mem_append, List.mem_append, un_mem]
  constructor
  · rintro ((h | h) | h)
    · exact .inl (.inl h)
    · exact .inr h
    · exact .inl (.inr h)
  · rintro ((h | h) | h)
    · exact .inl (.inl h)
    · exact .inr h
    · exact .inl (.inr h)

theorem un_snoc_both {P Q : List Int} {a : Int} (hP : (P ++ [a]).Pairwise (· < ·)) (hQ : (Q ++ [a]).Pairwise (· < ·)) : un (P ++ [a]) (Q ++ [a]) = un P Q ++ [a] := by
  obtain ⟨hP1, hP2⟩ := snoc_lt hP
  obtain ⟨hQ1, hQ2⟩ := snoc_lt hQ
  refine asc_unique _ _ (un_asc hP _) (snoc_asc (un_asc hP1 _) (fun y hy => ((un_mem P y Q).1 hy).elim (hP2 y) (hQ2 y))) (fun x => ?_)
  rw [un_mem, List.mem_append, List.mem_append, List.mem_append, un_mem]
  constructor
  · rintro ((h | h) | (h | h))
    · exact .inl (.inl h)
    · exact .inr h
    · exact .inl (.inr h)
    · exact .inr h
  · rintro ((h | h) | h)
    · exact .inl (.inl h)
    · exact .inr (.inl h)
    · exact .inl (.inr h)

end Go.Proofs.Qxb6500745aGreatDoor
