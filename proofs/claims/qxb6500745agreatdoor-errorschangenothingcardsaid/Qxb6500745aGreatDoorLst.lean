namespace Go.Proofs.Qxb6500745aGreatDoor

def SetOk (zs : List Int) : Prop := zs.Pairwise (· < ·) ∧ ∀ x ∈ zs, 0 ≤ x ∧ x ≤ 1048575

theorem asc_bound : ∀ (zs : List Int) (lo : Int), zs.Pairwise (· < ·) → (∀ x ∈ zs, lo ≤ x ∧ x ≤ 1048575) → lo ≤ 1048576 → (zs.length : Int) ≤ 1048576 - lo
  | [], lo, _, _, h => by simp; omega
  | z :: zs, lo, hp, hb, _ => by
    have hz := hb z (by simp)
    have hp' := List.pairwise_cons.1 hp
    have := asc_bound zs (z + 1) hp'.2 (fun x hx => ⟨by have := hp'.1 x hx; omega, (hb x (by simp [hx])).2⟩) (by omega)
    simp only [List.length_cons]; omega

theorem SetOk.len {zs : List Int} (h : SetOk zs) : zs.length ≤ 1048576 := by
  have := asc_bound zs 0 h.1 h.2 (by omega); omega

theorem SetOk.le {zs : List Int} (h : SetOk zs) : zs.Pairwise (· ≤ ·) :=
  List.pairwise_iff_getElem.2 (fun i j hi hj hij => Int.le_of_lt (List.pairwise_iff_getElem.1 h.1 i j hi hj hij))

theorem SetOk.nil : SetOk [] := ⟨List.Pairwise.nil, by simp⟩

theorem asc_unique : ∀ (as bs : List Int), as.Pairwise (· < ·) → bs.Pairwise (· < ·) → (∀ x, x ∈ as ↔ x ∈ bs) → as = bs
  | [], [], _, _, _ => rfl
  | [], b :: bs, _, _, h => by have := (h b).2 (by simp); simp at this
  | a :: as, [], _, _, h => by have := (h a).1 (by simp); simp at this
  | a :: as, b :: bs, ha, hb, h => by
    have ha' := List.pairwise_cons.1 ha
    have hb' := List.pairwise_cons.1 hb
    have hab : a = b := by
      have h1 := (h a).1 (by simp)
      have h2 := (h b).2 (by simp)
      simp only [List.mem_cons] at h1 h2
      rcases h1 with h1 | h1
      · exact h1
      · rcases h2 with h2 | h2
        · exact h2.symm
        · have := hb'.1 a h1; have := ha'.1 b h2; omega
    subst hab
    rw [asc_unique as bs ha'.2 hb'.2 (fun x => ?_)]
    constructor
    · intro hx
      have h1 := (h x).1 (by simp [hx])
      simp only [List.mem_cons] at h1
      rcases h1 with h1 | h1
      · have := ha'.1 x hx; omega
      · exact h1
    · intro hx
      have h1 := (h x).2 (by simp [hx])
      simp only [List.mem_cons] at h1
      rcases h1 with h1 | h1
      · have := hb'.1 x hx; omega
      · exact h1

theorem asc_take {zs : List Int} (h : zs.Pairwise (· < ·)) (k : Nat) : (zs.take k).Pairwise (· < ·) := h.sublist (List.take_sublist _ _)
theorem asc_drop {zs : List Int} (h : zs.Pairwise (· < ·)) (k : Nat) : (zs.drop k).Pairwise (· < ·) := h.sublist (List.drop_sublist _ _)

theorem asc_get {zs : List Int} (h : zs.Pairwise (· < ·)) (i j : Nat) (hi : i < j) (hj : j < zs.length) : zs[i]'(by omega) < zs[j] := (List.pairwise_iff_getElem.1 h) i j (by omega) hj hi

theorem asc_split {zs : List Int} (h : zs.Pairwise (· < ·)) (k : Nat) : ∀ x ∈ zs.take k, ∀ y ∈ zs.drop k, x < y := by
  have := h
  rw [← List.take_append_drop k zs] at this
  exact (List.pairwise_append.1 this).2.2

theorem insert_ok {zs : List Int} {x : Int} (h : SetOk zs) (hx : 0 ≤ x ∧ x ≤ 1048575) (hn : x ∉ zs) (k : Nat) (hk : k = zs.countP (· < x)) : SetOk (zs.take k ++ [x] ++ zs.drop k) := by
  have hlt : ∀ (l : List Int), l.Pairwise (· < ·) → (∀ y ∈ l.take (l.countP (· < x)), y < x) ∧ (∀ y ∈ l.drop (l.countP (· < x)), x ≤ y) := by
    intro l hl
    induction l with
    | nil => simp
    | cons a l ih =>
      have hl' := List.pairwise_cons.1 hl
      by_cases ha : a < x
      · rw [List.countP_cons_of_pos (by simpa using ha)]
        have ih' := ih hl'.2
        simp only [List.take_succ_cons, List.drop_succ_cons, List.mem_cons]
        exact ⟨fun y hy => hy.elim (fun e => by rw [e]; exact ha) (ih'.1 y), ih'.2⟩
      · have h0 : (a :: l).countP (· < x) = 0 := by
          rw [List.countP_eq_zero]
          intro y hy
          simp only [List.mem_cons] at hy
          rcases hy with rfl | hy
          · simpa using ha
          · have := hl'.1 y hy; simp; omega
        rw [h0]
        simp only [List.take_zero, List.drop_zero, List.mem_cons]
        refine ⟨by simp, fun y hy => ?_⟩
        rcases hy with rfl | hy
        · omega
        · have := hl'.1 y hy; omega
  obtain ⟨h1, h2⟩ := hlt zs h.1
  rw [← hk] at h1 h2
  constructor
  · rw [List.append_assoc, List.pairwise_append]
    refine ⟨asc_take h.1 k, ?_, ?_⟩
    · rw [List.pairwise_append]
      refine ⟨by simp, asc_drop h.1 k, fun a ha b hb => ?_⟩
      simp only [List.mem_singleton] at ha
      subst ha
      have := h2 b hb
      have hne : b ≠ a := fun e => hn (e ▸ List.mem_of_mem_drop hb)
      omega
    · intro a ha b hb
      simp only [List.mem_append, List.mem_singleton] at hb
      rcases hb with rfl | hb
      · exact h1 a ha
      · exact asc_split h.1 k a ha b hb
  · intro y hy
    simp only [List.mem_append, List.mem_singleton] at hy
    rcases hy with (hy | rfl) | hy
    · exact h.2 y (List.mem_of_mem_take hy)
    · exact hx
    · exact h.2 y (List.mem_of_mem_drop hy)

theorem delete_ok {zs : List Int} (h : SetOk zs) (i j : Nat) (hij : i ≤ j) : SetOk (zs.take i ++ zs.drop j) := by
  have hs : (zs.take i ++ zs.drop j).Sublist zs := by
    have h1 : (zs.drop j).Sublist (zs.drop i) := by
      rw [show j = i + (j - i) by omega, ← List.drop_drop]; exact List.drop_sublist _ _
    have := (List.Sublist.refl (zs.take i)).append h1
    rwa [List.take_append_drop] at this
  exact ⟨h.1.sublist hs, fun x hx => h.2 x (hs.subset hx)⟩

theorem filter_ok {zs : List Int} (h : SetOk zs) (p : Int → Bool) : SetOk (zs.filter p) := ⟨h.1.filter p, fun x hx => h.2 x (List.mem_filter.1 hx).1⟩

end Go.Proofs.Qxb6500745aGreatDoor
