import Derived.Test.Qxb6500745aGreatDoorSet0
namespace Go.Proofs.Qxb6500745aGreatDoor
open Go.RowKit

def iV (zs : List Int) : List Value := zs.map (Value.int .i64)

theorem take_eq (arr : Array Value) (L : List Value) (hm : L.length ≤ arr.size) (h : ∀ j, j < L.length → arr[j]? = L[j]?) : arr.toList.take L.length = L := by
  apply List.ext_getElem?
  intro j
  by_cases hj : j < L.length
  · rw [List.getElem?_take_of_lt hj, ← h j hj]; simp
  · rw [List.getElem?_eq_none (by simp; omega), List.getElem?_eq_none (by omega)]

theorem cur_get {cur : Array Value} {zs : List Int} (h7 : cur.toList.take zs.length = zs.map (Value.int .i64)) (j : Nat) (hj : j < zs.length) : cur[j]? = (iV zs)[j]? := by
  have h : (cur.toList.take zs.length)[j]? = (iV zs)[j]? := by rw [h7]; rfl
  rw [List.getElem?_take_of_lt hj] at h
  simpa using h

theorem IRow.mk {w : World} {g cap : Nat} {cur : Array Value} (zs : List Int) (n : Nat) (hn : n = zs.length) (h3 : Blk w g 3 cur) (h4 : zs.length ≤ cap) (h5 : cap ≤ maxLen) (h6 : cur.size = cap) (h : ∀ j, j < zs.length → cur[j]? = (iV zs)[j]?) :
    IRow w (.slice (some ⟨g, 0, none⟩) n cap) zs [g] := by
  refine .inr ⟨g, cap, cur, by rw [hn], rfl, h3, h4, h5, h6, ?_⟩
  have := take_eq cur (iV zs) (by simp [iV]; omega) (by simpa [iV] using h)
  simpa [iV] using this

theorem maxLen_eq : maxLen = 9223372036854775807 := rfl

def PRowTo (w : World) (f : List Nat) (zs' : List Int) (e : Ending) (w' : World) : Prop :=
  ∃ a n c f', e = .returned (.slice a n c) ∧ n = zs'.length ∧ IRow w' (.slice a n c) zs' f' ∧ (∀ y ∈ f', y ∈ f ∨ w.heap.size ≤ y) ∧ Kp f w w' ∧ a ≠ none

theorem delete_row {w : World} {v : Value} {zs : List Int} {f : List Nat} (h : IRow w v zs f) (hv : zs ≠ []) (i j : Nat) (hij : i ≤ j) (hj : j ≤ zs.length) :
    Calls Tryz.prog 114 #[v, .int .i64 (i : Int), .int .i64 (j : Int)] w (PRowTo w f (zs.take i ++ zs.drop j)) := by
  rcases h with ⟨rfl, rfl, rfl⟩ | ⟨g, cap, cur, rfl, rfl, h3, h4, h5, h6, h7⟩
  · exact absurd rfl hv
  · refine (Tryz.slices_Delete_int_cells g 0 zs.length cap i j zs w (Nat.le_refl _) h4 h5 hij hj (fun j hj => by rw [Nat.zero_add, IRow.cellAt h3 h7 j hj]; simp [hj]) (fun j _ => h3.frozen _)).mono ?_
    rintro e w' ⟨rfl, q, rfl⟩
    rw [List.take_length]
    have hb := Blk.puts ((zs.take i ++ zs.drop j ++ List.replicate (j - i) 0).map (Value.int .i64)) (w.drewN q) 0 cur (h3.drewN q)
    have hlen : zs.length - (j - i) = (zs.take i ++ zs.drop j).length := by simp; omega
    refine ⟨_, _, _, [g], rfl, hlen, IRow.mk (zs.take i ++ zs.drop j) _ hlen hb (by rw [← hlen]; omega) h5 (by rw [putAll_size]; exact h6) (fun k hk => ?_), by simp, Kp.setCells (fun _ => by simp) _ _ _ (Kp.dN w q).nil, by simp⟩
    rw [putAll_at _ _ _ _ (by rw [← hlen] at hk; omega), if_pos (by simp only [List.length_map, List.length_append, List.length_replicate] at *; omega)]
    rw [Nat.sub_zero, List.map_append, List.getElem?_append_left (by simpa using hk)]
    rfl

theorem iV_get (zs : List Int) (j : Nat) (v : Value) (h : (iV zs)[j]? = some v) : ∃ hj : j < zs.length, v = .int .i64 zs[j] := by
  simp only [iV, List.getElem?_map, Option.map_eq_some_iff] at h
  obtain ⟨z, h1, rfl⟩ := h
  obtain ⟨hj, rfl⟩ := List.getElem?_eq_some_iff.1 h1
  exact ⟨hj, rfl⟩

theorem iV_one (zs : List Int) : ∀ v ∈ iV zs, v.oneCell' = true := fun v hv => by
  obtain ⟨x, _, rfl⟩ := List.mem_map.1 hv; rfl

theorem ins_get (zs : List Int) (x : Int) (i j : Nat) (hi : i ≤ zs.length) :
    (iV (zs.take i ++ [x] ++ zs.drop i))[j]? = if j < i then (iV zs)[j]? else if j = i then some (.int .i64 x) else (iV zs)[j - 1]? := by
  simp only [iV, List.map_append, List.map_take, List.map_drop, List.map_cons, List.map_nil]
  have hl : ((zs.map (Value.int .i64)).take i).length = i := by simp; omega
  generalize zs.map (Value.int .i64) = L at *
  by_cases h1 : j < i
  · rw [if_pos h1, List.append_assoc, List.getElem?_append_left (by omega), List.getElem?_take_of_lt h1]
  · rw [if_neg h1]
    by_cases h2 : j = i
    · subst h2
      rw [if_pos rfl, List.append_assoc, List.getElem?_append_right (by omega), hl]
      simp
    · rw [if_neg h2, List.getElem?_append_right (by simp [hl]; omega)]
      simp only [List.length_append, hl, List.length_cons, List.length_nil, List.getElem?_drop]
      congr 1; omega

theorem zeroCells_size (n : Nat) : (Builtin.zeroCells (Value.int .i64 0).cells n).size = n := by
  simp [Builtin.zeroCells, Value.cells]

theorem insert_row {w : World} {v : Value} {zs : List Int} {f : List Nat} {vb : Nat} {x : Int} (h : IRow w v zs f) (hvb : Blk w vb 3 #[.int .i64 x]) (hnf : vb ∉ f) (i : Nat) (hi : i ≤ zs.length) (hl : zs.length ≤ 2097152) :
    Calls Tryz.prog 112 #[v, .int .i64 (i : Int), .slice (some ⟨vb, 0, none⟩) 1 1] w (PRowTo w f (zs.take i ++ [x] ++ zs.drop i)) := by
  have hlen : zs.length + 1 = (zs.take i ++ [x] ++ zs.drop i).length := by simp; omega
  have hvs : ∀ j v, [Value.int .i64 x][j]? = some v → w.cell? ⟨vb, 0 + j, none⟩ = some v := fun j v hj => by
    rw [hvb.cell, Nat.zero_add]; simpa using hj
  have h1v : ∀ v ∈ [Value.int .i64 x], v.oneCell' = true := fun v hv => by simp at hv; subst hv; rfl
  rcases h with ⟨rfl, rfl, rfl⟩ | ⟨g, cap, cur, rfl, rfl, h3, h4, h5, h6, h7⟩
  · obtain rfl : i = 0 := by simpa using hi
    refine (Any2.slices_Insert_int_end_grow Tryz.laysNm2i21 none 0 0 vb 0 1 1 [] [.int .i64 x] w (by omega) (by omega) (by omega) (by omega) rfl rfl (fun _ => rfl) (fun _ h => by cases h) hvs h1v).mono ?_
    rintro e w' ⟨rfl, rfl⟩
    have hcap := grownCap_ge w (0 + 1) 0 (Tryz.laysNm2i21_ren.t 3)
    have hcap2 := grownCap_le_maxLen w (0 + 1) 0 (Tryz.laysNm2i21_ren.t 3) (by rw [maxLen_eq]; omega)
    generalize grownCap w (0 + 1) 0 (Tryz.laysNm2i21_ren.t 3) = C at *
    refine ⟨_, _, _, [w.heap.size], rfl, rfl, IRow.mk _ _ rfl (Blk.new w.drew 3 _) (by simpa using hcap) hcap2 (by simp [zeroCells_size]; omega) (fun j hj => ?_), by simp, ((Kp.refl _ _).drew).alloc _, by simp⟩
    simp at hj; subst hj
    rw [Array.getElem?_append_left (by simp)]
    simp [iV]
  · have hcs : ∀ j v, (iV zs)[j]? = some v → w.cell? ⟨g, 0 + j, none⟩ = some v := fun j v hj => by
      obtain ⟨hj', rfl⟩ := iV_get zs j v hj
      rw [Nat.zero_add]; exact IRow.cellAt h3 h7 j hj'
    have hgv : vb ≠ g := by simpa using hnf
    by_cases hin : i < zs.length
    · by_cases hroom : zs.length + 1 ≤ cap
      · refine (Any2.slices_Insert_int_shift Tryz.laysNm2i21 g 0 zs.length cap i vb 0 1 1 (iV zs) [.int .i64 x] w hin (by omega) hroom h5 hgv (by simp [iV]) rfl hcs
          (fun j hj => by rw [h3.cell]; simp; omega) (fun j _ => h3.frozen _) hvs (iV_one zs) h1v 3 3 1 cap hvb.shape (by rw [h3.shape, h6]) (by omega) (hvb.frozen _) (hvb.frozen _)).mono ?_
        rintro e w' ⟨rfl, rfl⟩
        have hb := Blk.puts [Value.int .i64 x] _ (0 + i) _ (Blk.puts ((iV zs).drop i) w.drew (0 + (i + 1)) cur h3.drew)
        refine ⟨_, _, _, [g], rfl, hlen, IRow.mk _ _ hlen hb (by rw [← hlen]; exact hroom) h5 (by rw [putAll_size, putAll_size]; exact h6) (fun k hk => ?_), by simp, Kp.setCells (fun _ => by simp) _ _ _ (Kp.setCells (fun _ => by simp) _ _ _ ((Kp.refl _ _).drew)), by simp⟩
        rw [← hlen] at hk
        rw [ins_get zs x i k hi, putAll_at _ _ _ _ (by rw [putAll_size]; omega), putAll_at _ _ _ _ (by omega)]
        by_cases e1 : k < i
        · rw [if_neg (by omega), if_neg (by omega), if_pos e1]; exact cur_get h7 k (by omega)
        · by_cases e2 : k = i
          · subst e2; simp
          · rw [if_neg (by simp; omega), if_pos (by simp [iV]; omega), if_neg e1, if_neg e2, List.getElem?_drop]; congr 1; omega
      · refine (Any2.slices_Insert_int_grow Tryz.laysNm2i21 g 0 zs.length cap i vb 0 1 1 (iV zs) [.int .i64 x] w hin (by omega) h4 (by omega) (by omega) (by simp [iV]) rfl hcs hvs (iV_one zs) h1v).mono ?_
        rintro e w' ⟨rfl, rfl⟩
        have hcap := grownCap_ge w (zs.length + 1) cap (Tryz.laysNm2i21_ren.t 3)
        have hcap2 := grownCap_le_maxLen w (zs.length + 1) cap (Tryz.laysNm2i21_ren.t 3) (by rw [maxLen_eq]; omega)
        generalize grownCap w (zs.length + 1) cap (Tryz.laysNm2i21_ren.t 3) = C at *
        have hb0 := Blk.new w 3 (((iV zs).take i).toArray ++ Builtin.zeroCells (Value.int .i64 0).cells (zs.length + 1 - i) ++ Builtin.zeroCells (Value.int .i64 0).cells (C - (zs.length + 1)))
        have hsz : (((iV zs).take i).toArray ++ Builtin.zeroCells (Value.int .i64 0).cells (zs.length + 1 - i) ++ Builtin.zeroCells (Value.int .i64 0).cells (C - (zs.length + 1))).size = C := by
          simp only [Array.size_append, zeroCells_size, List.size_toArray, List.length_take, iV, List.length_map]; omega
        have hb := Blk.puts ((iV zs).drop i) _ (i + 1) _ (Blk.puts [Value.int .i64 x] _ i _ hb0.drew).drew
        refine ⟨_, _, _, [w.heap.size], rfl, hlen, IRow.mk _ _ hlen hb (by rw [← hlen]; exact hcap) hcap2 (by rw [putAll_size, putAll_size]; exact hsz) (fun k hk => ?_), by simp, Kp.setCells (fun h => absurd h (Nat.lt_irrefl _)) _ _ _ (Kp.drew (Kp.setCells (fun h => absurd h (Nat.lt_irrefl _)) _ _ _ ((Kp.refl _ _).alloc _).drew)), by simp⟩
        rw [← hlen] at hk
        rw [ins_get zs x i k hi, putAll_at _ _ _ _ (by rw [putAll_size, hsz]; omega), putAll_at _ _ _ _ (by rw [hsz]; omega)]
        by_cases e1 : k < i
        · rw [if_neg (by omega), if_neg (by omega), if_pos e1]
          rw [Array.append_assoc, Array.getElem?_append_left (by simp [iV]; omega)]
          simp [List.getElem?_take_of_lt e1]
        · by_cases e2 : k = i
          · subst e2; rw [if_neg (by omega)]; simp
          · rw [if_pos (by simp [iV]; omega), if_neg e1, if_neg e2, List.getElem?_drop]; congr 1; omega
    · obtain rfl : i = zs.length := by omega
      by_cases hroom : zs.length + 1 ≤ cap
      · refine (Any2.slices_Insert_int_end_room Tryz.laysNm2i21 g 0 zs.length cap vb 0 1 1 [.int .i64 x] w (by omega) hroom h5 rfl (fun j hj => by rw [h3.cell]; simp; omega) (fun j _ => h3.frozen _) hvs h1v).mono ?_
        rintro e w' ⟨rfl, rfl⟩
        have hb := Blk.puts [Value.int .i64 x] w (0 + zs.length) cur h3
        refine ⟨_, _, _, [g], rfl, hlen, IRow.mk _ _ hlen hb (by rw [← hlen]; exact hroom) h5 (by rw [putAll_size]; exact h6) (fun k hk => ?_), by simp, Kp.setCells (fun _ => by simp) _ _ _ (Kp.refl _ _), by simp⟩
        rw [← hlen] at hk
        rw [ins_get zs x _ k hi, putAll_at _ _ _ _ (by omega)]
        by_cases e1 : k < zs.length
        · rw [if_neg (by omega), if_pos e1]; exact cur_get h7 k (by omega)
        · obtain rfl : k = zs.length := by omega
          simp
      · refine (Any2.slices_Insert_int_end_grow Tryz.laysNm2i21 (some ⟨g, 0, none⟩) zs.length cap vb 0 1 1 (iV zs) [.int .i64 x] w (by omega) h4 (by omega) (by omega) (by simp [iV]) rfl (fun h => by cases h) (fun a ha j v hj => by cases ha; rw [Addr.add_lit]; exact hcs j v hj) hvs h1v).mono ?_
        rintro e w' ⟨rfl, rfl⟩
        have hcap := grownCap_ge w (zs.length + 1) cap (Tryz.laysNm2i21_ren.t 3)
        have hcap2 := grownCap_le_maxLen w (zs.length + 1) cap (Tryz.laysNm2i21_ren.t 3) (by rw [maxLen_eq]; omega)
        generalize grownCap w (zs.length + 1) cap (Tryz.laysNm2i21_ren.t 3) = C at *
        refine ⟨_, _, _, [w.heap.size], rfl, hlen, IRow.mk _ _ hlen (Blk.new w.drew 3 _) (by rw [← hlen]; exact hcap) hcap2 (by simp [zeroCells_size, iV]; omega) (fun k hk => ?_), by simp, ((Kp.refl _ _).drew).alloc _, by simp⟩
        rw [← hlen] at hk
        rw [ins_get zs x _ k hi]
        rw [Array.getElem?_append_left (by simp [iV]; omega)]
        by_cases e1 : k < zs.length
        · rw [if_pos e1]; simp [List.getElem?_append_left, iV, e1]
        · obtain rfl : k = zs.length := by omega
          simp [iV]
end Go.Proofs.Qxb6500745aGreatDoor
