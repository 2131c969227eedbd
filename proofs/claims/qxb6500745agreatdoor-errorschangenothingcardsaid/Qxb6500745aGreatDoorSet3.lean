import Derived.Test.Qxb6500745aGreatDoorSet2
import Derived.Lib.RowBridge
namespace Go.Proofs.Qxb6500745aGreatDoor
open Go.RowKit

theorem getBang (zs : List Int) (m : Nat) (h : m < zs.length) : (zs.toArray)[m]! = zs[m] := by simp [h]

theorem compact_inv (zs : List Int) (hs : zs.Pairwise (· ≤ ·)) : ∀ m, m ≤ zs.length → (Lib.compactUpTo zs.toArray m).Pairwise (· < ·) ∧ (∀ x ∈ Lib.compactUpTo zs.toArray m, x ∈ zs) ∧ (Lib.compactUpTo zs.toArray m).length ≤ m ∧
    (0 < m → ∀ (hm : m - 1 < zs.length), (∀ x ∈ Lib.compactUpTo zs.toArray m, x ≤ zs[m - 1]) ∧ Lib.compactUpTo zs.toArray m ≠ [])
  | 0, _ => by simp [Lib.compactUpTo]
  | m + 1, hm => by
    obtain ⟨i1, i2, i3, i4⟩ := compact_inv zs hs m (by omega)
    rw [Lib.compactUpTo_succ, getBang zs m (by omega)]
    cases hk : Lib.keeps zs.toArray m with
    | false =>
      simp only [Bool.false_eq_true, if_false, List.append_nil]
      have h0 : 0 < m := by
        rcases Nat.eq_zero_or_pos m with h | h
        · subst h; have := Lib.keeps_lt_one zs.toArray 0 (by omega); rw [hk] at this; cases this
        · exact h
      refine ⟨i1, i2, by omega, fun _ hm' => ?_⟩
      obtain ⟨j1, j2⟩ := i4 h0 (by omega)
      refine ⟨fun x hx => ?_, j2⟩
      have := j1 x hx
      have hle := (List.pairwise_iff_getElem.1 hs) (m - 1) m (by omega) (by omega) (by omega)
      show x ≤ zs[m + 1 - 1]
      simp only [Nat.add_sub_cancel]; omega
    | true =>
      simp only [if_true]
      refine ⟨?_, ?_, by simp; omega, fun _ hm' => ⟨?_, by simp⟩⟩
      · rw [List.pairwise_append]
        refine ⟨i1, by simp, fun a ha b hb => ?_⟩
        simp only [List.mem_singleton] at hb
        subst hb
        rcases Nat.eq_zero_or_pos m with h | h
        · subst h; simp [Lib.compactUpTo] at ha
        · obtain ⟨j1, _⟩ := i4 h (by omega)
          have h1 := j1 a ha
          have hle := (List.pairwise_iff_getElem.1 hs) (m - 1) m (by omega) (by omega) (by omega)
          have hne : zs[m] ≠ zs[m - 1] := fun e => by
            have := Lib.keeps_neg (d := zs.toArray) h (by rw [getBang zs m (by omega), getBang zs (m - 1) (by omega)]; exact e)
            rw [hk] at this; cases this
          omega
      · intro x hx
        rcases List.mem_append.1 hx with h | h
        · exact i2 x h
        · simp only [List.mem_singleton] at h; subst h; exact List.getElem_mem _
      · intro x hx
        show x ≤ zs[m + 1 - 1]
        simp only [Nat.add_sub_cancel]
        rcases List.mem_append.1 hx with h | h
        · rcases Nat.eq_zero_or_pos m with h0 | h0
          · subst h0; simp [Lib.compactUpTo] at h
          · obtain ⟨j1, _⟩ := i4 h0 (by omega)
            have := j1 x h
            have hle := (List.pairwise_iff_getElem.1 hs) (m - 1) m (by omega) (by omega) (by omega)
            omega
        · simp only [List.mem_singleton] at h; omega

theorem compact_ok (zs : List Int) (hs : zs.Pairwise (· ≤ ·)) (hb : ∀ x ∈ zs, 0 ≤ x ∧ x ≤ 1048575) (hne : zs ≠ []) : SetOk (Lib.compact zs) ∧ (Lib.compact zs).length ≤ zs.length ∧ Lib.compact zs ≠ [] := by
  obtain ⟨i1, i2, i3, i4⟩ := compact_inv zs hs zs.length (Nat.le_refl _)
  have h0 : 0 < zs.length := by cases zs with
    | nil => exact absurd rfl hne
    | cons z zs => simp
  exact ⟨⟨i1, fun x hx => hb x (i2 x hx)⟩, i3, (i4 h0 (by omega)).2⟩

theorem sort_le (zs : List Int) : (zs.mergeSort fun x y => decide (x ≤ y)).Pairwise (· ≤ ·) := by
  have := List.pairwise_mergeSort (le := fun x y : Int => decide (x ≤ y)) (fun a b c h1 h2 => by simp at *; omega) (fun a b => by simp; omega) zs
  exact List.pairwise_iff_getElem.2 (fun i j hi hj hij => by simpa using List.pairwise_iff_getElem.1 this i j hi hj hij)

theorem holds_row {w : World} {g : Nat} {cur : Array Value} {zs : List Int} (h3 : Blk w g 3 cur) (h7 : cur.toList.take zs.length = zs.map (Value.int .i64)) : Sort.Holds (Value.int .i64) w g 0 zs.toArray := fun j hj => by
  have hj' : j < zs.length := by simpa using hj
  exact ⟨by rw [Nat.zero_add, IRow.cellAt h3 h7 j hj', getBang zs j hj'], h3.frozen _⟩

theorem sort_row {w : World} {v : Value} {zs : List Int} {f : List Nat} (h : IRow w v zs f) (hne : v ≠ .slice none 0 0) (hl : zs.length ≤ 2097152) :
    Calls Tryz.prog 109 #[v] w fun e w' => e = .returned (.tuple #[]) ∧ IRow w' v (zs.mergeSort fun x y => decide (x ≤ y)) f ∧ Kp f w w' := by
  rcases h with ⟨h, _⟩ | ⟨g, cap, cur, rfl, rfl, h3, h4, h5, h6, h7⟩
  · exact absurd h hne
  · refine (Tryz.slices_Sort_int g 0 cap zs w (holds_row h3 h7) h3.lt (by omega)).mono ?_
    rintro e w' ⟨rfl, q, os, rfl⟩
    rw [Lib.putRow_eq_setCells (Value.int .i64) w g 0 zs.toArray (zs.mergeSort fun x y => decide (x ≤ y)) q (holds_row h3 h7) (by simp)]
    have hlen : zs.length = (zs.mergeSort fun x y => decide (x ≤ y)).length := by simp
    generalize (zs.mergeSort fun x y => decide (x ≤ y)) = ys at *
    have hb := Blk.puts (iV ys) (w.drewN q) 0 cur (h3.drewN q)
    have kg : Kp [] ((w.drewN q).setCells g 0 (iV ys)) (Sort.grow ((w.drewN q).setCells g 0 (iV ys)) os) := ⟨rfl, rfl, rfl, by simp [Sort.grow], fun i hi _ => by
      show (((w.drewN q).setCells g 0 (iV ys)).heap ++ os)[i]? = _
      rw [Array.getElem?_append_left hi]⟩
    refine ⟨rfl, IRow.kp (IRow.mk ys _ hlen hb (by omega) h5 (by rw [putAll_size]; exact h6) (fun k hk => ?_)) kg (by simp), (Kp.setCells (fun _ => by simp) _ _ _ (Kp.dN w q).nil).trans kg (fun _ h _ => h) (fun _ h => by cases h)⟩
    rw [putAll_at _ _ _ _ (by omega), if_pos (by simp [iV]; omega)]; simp

theorem compact_row {w : World} {v : Value} {zs : List Int} {f : List Nat} (h : IRow w v zs f) (hne : v ≠ .slice none 0 0) (hl : zs.length ≤ 2097152) (hcl : (Lib.compact zs).length ≤ zs.length) :
    Calls Tryz.prog 110 #[v] w (PRowTo w f (Lib.compact zs)) := by
  rcases h with ⟨h, _⟩ | ⟨g, cap, cur, rfl, rfl, h3, h4, h5, h6, h7⟩
  · exact absurd h hne
  · refine (Tryz.slices_Compact_int_cells g 0 zs.length cap zs w (Nat.le_refl _) (by omega) h4 (fun j hj => by rw [Nat.zero_add, IRow.cellAt h3 h7 j hj]; simp [hj]) (fun j _ => h3.frozen _)).mono ?_
    rintro e w' ⟨rfl, q, rfl⟩
    rw [List.take_length]
    have hb := Blk.puts ((Lib.compact zs ++ List.replicate (zs.length - (Lib.compact zs).length) 0).map (Value.int .i64)) (w.drewN q) 0 cur (h3.drewN q)
    refine ⟨_, _, _, [g], rfl, rfl, IRow.mk (Lib.compact zs) _ rfl hb (by omega) h5 (by rw [putAll_size]; exact h6) (fun k hk => ?_), by simp, Kp.setCells (fun _ => by simp) _ _ _ (Kp.dN w q).nil, by simp⟩
    rw [putAll_at _ _ _ _ (by omega), if_pos (by simp only [List.length_map, List.length_append, List.length_replicate]; omega)]
    rw [Nat.sub_zero, List.map_append, List.getElem?_append_left (by simpa using hk)]
    rfl
end Go.Proofs.Qxb6500745aGreatDoor
