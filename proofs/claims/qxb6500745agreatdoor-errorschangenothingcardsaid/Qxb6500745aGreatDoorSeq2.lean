import Derived.Test.Qxb6500745aGreatDoorSeq
namespace Go.Proofs.Qxb6500745aGreatDoor
open Go.RowKit Go.Shelf

attribute [local go_sem] Oper.semAt_some

def IRow (w : World) (v : Value) (zs : List Int) (f : List Nat) : Prop :=
  (v = .slice none 0 0 ∧ zs = [] ∧ f = []) ∨
  ∃ g cap cur, v = .slice (some ⟨g, 0, none⟩) zs.length cap ∧ f = [g] ∧ Blk w g 3 cur ∧ zs.length ≤ cap ∧ cap ≤ maxLen ∧ cur.size = cap ∧ cur.toList.take zs.length = zs.map (Value.int .i64)

theorem IRow.of_owns {w : World} {base : Nat} {v : Value} {zs : List Int} (h : w.ownsRow base 3 1 v zs.length (zs.map (Value.int .i64))) : ∃ f, IRow w v zs f ∧ ∀ x ∈ f, base ≤ x := by
  obtain ⟨_, h⟩ := h
  rcases h with ⟨h1, h2⟩ | ⟨g, cap, cur, h1, h2, h3, h4, h5, h6, h7⟩
  · exact ⟨[], .inl ⟨h1, List.eq_nil_of_length_eq_zero h2, rfl⟩, by simp⟩
  · exact ⟨[g], .inr ⟨g, cap, cur, h1, rfl, h3, h4, h5, by simpa using h6, by simpa using h7⟩, by simpa using h2⟩

theorem IRow.owns {w : World} {base : Nat} {v : Value} {zs : List Int} {f : List Nat} (h : IRow w v zs f) (hb : ∀ x ∈ f, base ≤ x) : w.ownsRow base 3 1 v zs.length (zs.map (Value.int .i64)) := by
  refine ⟨by simp, ?_⟩
  rcases h with ⟨h1, h2, _⟩ | ⟨g, cap, cur, h1, rfl, h3, h4, h5, h6, h7⟩
  · exact .inl ⟨h1, by simp [h2]⟩
  · exact .inr ⟨g, cap, cur, h1, hb g (by simp), h3, h4, h5, by simpa using h6, by simpa using h7⟩

theorem IRow.kp {w w' : World} {v : Value} {zs : List Int} {f L : List Nat} (h : IRow w v zs f) (k : Kp L w w') (hd : ∀ x ∈ f, x ∉ L) : IRow w' v zs f := by
  rcases h with h | ⟨g, cap, cur, h1, rfl, h3, h4⟩
  · exact .inl h
  · exact .inr ⟨g, cap, cur, h1, rfl, h3.kp k (hd g (by simp)), h4⟩

theorem IRow.lt {w : World} {v : Value} {zs : List Int} {f : List Nat} (h : IRow w v zs f) : ∀ x ∈ f, x < w.heap.size := by
  rcases h with ⟨_, _, rfl⟩ | ⟨g, cap, cur, h1, rfl, h3, h4⟩
  · simp
  · intro x hx; simp at hx; subst hx; exact h3.lt

theorem IRow.shape {w : World} {v : Value} {zs : List Int} {f : List Nat} (h : IRow w v zs f) : ∃ a c, v = .slice a zs.length c := by
  rcases h with ⟨rfl, rfl, _⟩ | ⟨g, cap, cur, rfl, _⟩
  · exact ⟨none, 0, rfl⟩
  · exact ⟨_, cap, rfl⟩

theorem IRow.cellAt {w : World} {g : Nat} {cur : Array Value} {zs : List Int} (h3 : Blk w g 3 cur) (h7 : cur.toList.take zs.length = zs.map (Value.int .i64)) (j : Nat) (hj : j < zs.length) : w.cell? ⟨g, j, none⟩ = some (.int .i64 zs[j]) := by
  rw [h3.cell]
  have h : (cur.toList.take zs.length)[j]? = some (.int .i64 zs[j]) := by rw [h7]; simp [hj]
  rw [List.getElem?_take] at h
  simpa [hj] using h

theorem IRow.get {w : World} {a : Option Addr} {n c : Nat} {zs : List Int} {f : List Nat} (h : IRow w (.slice a n c) zs f) (j : Nat) (hj : j < zs.length) :
    ∃ g, a = some ⟨g, 0, none⟩ ∧ f = [g] ∧ w.cell? ⟨g, j, none⟩ = some (.int .i64 zs[j]) ∧ w.frozen? ⟨g, j, none⟩ = false := by
  rcases h with ⟨_, rfl, _⟩ | ⟨g, cap, cur, h1, rfl, h3, h4, h5, h6, h7⟩
  · simp at hj
  · simp at h1
    exact ⟨g, h1.1, rfl, IRow.cellAt h3 h7 j hj, h3.frozen j⟩

def PFresh (w : World) (zs : List Int) (e : Ending) (w' : World) : Prop := ∃ v f, e = .returned v ∧ IRow w' v zs f ∧ (∀ x ∈ f, w.heap.size ≤ x) ∧ Kp [] w w'

theorem make_ints (W : World) (L : Int) (h0 : 0 ≤ L) (h1 : L ≤ 4096) :
    (Instr.makeSlice 27 (.int .i64 0) (.int .i64 L)).run Tryz.prog W = .ok (.slice (some ⟨W.heap.size, 0, none⟩) 0 L.toNat) (W.alloc (.cells (madeCells (Value.int .i64 0).cells (L.toNat * 1)) 3)) := by
  obtain ⟨i, hi, hz, hs, hb⟩ := info_parts info3
  have h := run_make (P := Tryz.prog) W 27 3 i (.int .i64 0) Tryz.underlying27 hi hz .i64 .i64 0 L (Int.le_refl _) h0 (by rw [hb]; omega) (by omega)
  rw [hs] at h
  exact h

set_option maxHeartbeats 400000 in
theorem d_values {ea : Nat → Addr} {w : World} {b : Nat} {D : DomV} {fp : List Nat} (G : Glob ea w) (h : DomAt w b D fp) (ok : DomOk D) :
    Calls Tryz.prog 27 #[.pointer (some ⟨b, 0, none⟩)] w (PFresh w (vals D.words)) := by
  have hlt := h.lt
  obtain ⟨a, f, hb, hg, hf, hn⟩ := h.op ok
  have c1 := hb.cell 1; have c2 := hb.cell 2
  simp at c1 c2
  have hcnt : D.count ≤ 4096 := by have := ok.2.2.2; have := pcs_le D.words; omega
  have hm := fun W => make_ints W (D.count : Int) (by omega) (by omega)
  simp only [Int.toNat_natCast] at hm
  obtain ⟨cz, hcz⟩ : ∃ cz, cz = madeCells (Value.int .i64 0).cells (D.count * 1) := ⟨_, rfl⟩
  have hczs : cz.size = D.count := by rw [hcz]; simp [madeCells]
  rw [← hcz] at hm
  clear hcz
  have k1 : Below w.heap.size w (w.alloc (.cells cz 3)) := (Below.refl _ w).alloc (Nat.le_refl _) _
  have hbl : b < w.heap.size := hlt b (by rw [hf]; simp)
  have hfl : ∀ x ∈ f, x < w.heap.size := fun x hx => hlt x (by rw [hf]; simp [hx])
  have happ := appendTo_core b D.words.length w.heap.size a D.words f (some ⟨w.heap.size, 0, none⟩) D.count (w.alloc (.cells cz 3)) rfl hn ok.2.2.1 hbl hfl (by have := G.size; omega) (by simp)
    ((k1.cell (p := ⟨b, 2, none⟩) hbl).trans c2) (hg.below k1 hfl) (tabAt_below G.tz k1 (by have := G.size; omega)) (World.ownsRow_made w cz D.count (Nat.le_refl _) (by simp [maxLen]; omega) (by simpa using hczs))
  clear hb hg G h c2
  go_enter Tryz.func27, Tryz.ntmps27
  go_wp2_with fail
  refine happ.mono ?_
  rintro e w2 ⟨v, rfl, hr, hB⟩
  obtain ⟨f2, hr2, hf2⟩ := IRow.of_owns hr
  obtain ⟨a2, c2, rfl⟩ := hr2.shape
  go_wp2_with fail
  go_ret
  exact ⟨_, f2, rfl, hr2, hf2, Kp.of_below (k1.trans hB) _⟩
end Go.Proofs.Qxb6500745aGreatDoor
