import Derived.Test.Qxb6500745aGreatDoorDom9
namespace Go.Proofs.Qxb6500745aGreatDoor
open Go.RowKit

theorem d_keepRange {ea : Nat → Addr} {w : World} {b : Nat} {D : DomV} {fp : List Nat} (G : Glob ea w) (h : DomAt w b D fp) (ok : DomOk D) (lo hi : Int) :
    Calls Tryz.prog 73 #[.pointer (some ⟨b, 0, none⟩), .int .i64 lo, .int .i64 hi] w (POp2 w b D fp (outR D lo ∨ outR D hi) (errV ea 2)) := by
  obtain ⟨a, f, hb, hg, hf, hn⟩ := h.op ok
  have c0 := hb.cell 0
  simp at c0
  by_cases ho : outR D lo ∨ outR D hi
  · refine (keepRange_out b _ lo hi _ w c0 (G.err 2 (by omega)) (Glob.isErr 2) (ho.elim (fun h => .inl (outR_dec h)) (fun h => .inr (outR_dec h)))).mono ?_
    rintro e w' ⟨rfl, rfl⟩
    exact .inr ⟨ho, rfl, (Kp.refl _ _).drew⟩
  · obtain ⟨i0, i1, _, _⟩ := idx_ok ok (fun h => ho (.inl h))
    obtain ⟨j0, j1, _, _⟩ := idx_ok ok (fun h => ho (.inr h))
    refine (keepRange_core b D.words.length a (D.width : Int) (D.count : Int) lo hi D.words f w hb hg rfl hn ok.2.2.1 i0 i1 j0 j1 (by have := ok.1; omega)).mono ?_
    rintro e w' ⟨r, ws', rfl, x1, x2, x3, x4, x5⟩
    exact .inl ⟨ho, r, rfl, DMod.mk h ok hf x1 x2 x3 x4 x5⟩

theorem d_keepOnly {ea : Nat → Addr} {w : World} {b : Nat} {D : DomV} {fp : List Nat} (G : Glob ea w) (h : DomAt w b D fp) (ok : DomOk D) (v : Int) :
    Calls Tryz.prog 74 #[.pointer (some ⟨b, 0, none⟩), .int .i64 v] w (POp2 w b D fp (outR D v) (errV ea 2)) := by
  obtain ⟨a, f, hb, hg, hf, hn⟩ := h.op ok
  have c0 := hb.cell 0
  simp at c0
  by_cases ho : outR D v
  · refine (keepOnly_out b _ v _ w c0 (G.err 2 (by omega)) (Glob.isErr 2) (outR_dec ho)).mono ?_
    rintro e w' ⟨rfl, rfl⟩
    exact .inr ⟨ho, rfl, (Kp.refl _ _).drew⟩
  · obtain ⟨i0, i1, _, _⟩ := idx_ok ok ho
    refine (keepOnly_core b D.words.length a (D.width : Int) (D.count : Int) v D.words f w hb hg rfl hn ok.2.2.1 i0 i1 (by have := ok.1; omega)).mono ?_
    rintro e w' ⟨r, ws', rfl, x1, x2, x3, x4, x5⟩
    exact .inl ⟨ho, r, rfl, DMod.mk h ok hf x1 x2 x3 x4 x5⟩

theorem two_len {D E : DomV} (ok : DomOk D) (ok2 : DomOk E) (hw : ¬ D.width ≠ E.width) : E.words.length = D.words.length := by
  have := ok.2.1; have := ok2.2.1; omega

theorem d_union {ea : Nat → Addr} {w : World} {b b2 : Nat} {D E : DomV} {fp fp2 : List Nat} (G : Glob ea w) (h : DomAt w b D fp) (ok : DomOk D) (h2 : DomAt w b2 E fp2) (ok2 : DomOk E) :
    Calls Tryz.prog 77 #[.pointer (some ⟨b, 0, none⟩), .pointer (some ⟨b2, 0, none⟩)] w (POp2 w b D fp (D.width ≠ E.width) (errV ea 3)) := by
  obtain ⟨a, f, hb, hg, hf, hn⟩ := h.op ok
  obtain ⟨a2, f2, hb2, hg2, hf2, hn2⟩ := h2.op ok2
  have c0 := hb.cell 0
  have c20 := hb2.cell 0
  simp at c0 c20
  by_cases ho : D.width ≠ E.width
  · refine (union_mis b b2 (D.width : Int) (E.width : Int) (ea 3) w c0 c20 (by simp; omega) (G.err 3 (by omega))).mono ?_
    rintro e w' ⟨rfl, q, rfl⟩
    exact .inr ⟨ho, rfl, Kp.dN w q⟩
  · have hl := two_len ok ok2 ho
    have hw : E.width = D.width := by omega
    rw [hl, hw] at hb2
    rw [hl] at hg2
    refine (union_core b b2 D.words.length a a2 (D.width : Int) (D.count : Int) (E.count : Int) D.words E.words f f2 w hb hb2 hg hg2 rfl hl hn ok.2.2.1 ok2.2.2.1).mono ?_
    rintro e w' ⟨r, ws', rfl, x1, x2, x3, x4, x5⟩
    exact .inl ⟨ho, r, rfl, DMod.mk h ok hf x1 x2 x3 x4 x5⟩
theorem d_inter {ea : Nat → Addr} {w : World} {b b2 : Nat} {D E : DomV} {fp fp2 : List Nat} (G : Glob ea w) (h : DomAt w b D fp) (ok : DomOk D) (h2 : DomAt w b2 E fp2) (ok2 : DomOk E) :
    Calls Tryz.prog 78 #[.pointer (some ⟨b, 0, none⟩), .pointer (some ⟨b2, 0, none⟩)] w (POp2 w b D fp (D.width ≠ E.width) (errV ea 3)) := by
  obtain ⟨a, f, hb, hg, hf, hn⟩ := h.op ok
  obtain ⟨a2, f2, hb2, hg2, hf2, hn2⟩ := h2.op ok2
  have c0 := hb.cell 0
  have c20 := hb2.cell 0
  simp at c0 c20
  by_cases ho : D.width ≠ E.width
  · refine (inter_mis b b2 (D.width : Int) (E.width : Int) (ea 3) w c0 c20 (by simp; omega) (G.err 3 (by omega))).mono ?_
    rintro e w' ⟨rfl, q, rfl⟩
    exact .inr ⟨ho, rfl, Kp.dN w q⟩
  · have hl := two_len ok ok2 ho
    have hw : E.width = D.width := by omega
    rw [hl, hw] at hb2
    rw [hl] at hg2
    refine (inter_core b b2 D.words.length a a2 (D.width : Int) (D.count : Int) (E.count : Int) D.words E.words f f2 w hb hb2 hg hg2 rfl hl hn ok.2.2.1 ok2.2.2.1).mono ?_
    rintro e w' ⟨r, ws', rfl, x1, x2, x3, x4, x5⟩
    exact .inl ⟨ho, r, rfl, DMod.mk h ok hf x1 x2 x3 x4 x5⟩
theorem d_diff {ea : Nat → Addr} {w : World} {b b2 : Nat} {D E : DomV} {fp fp2 : List Nat} (G : Glob ea w) (h : DomAt w b D fp) (ok : DomOk D) (h2 : DomAt w b2 E fp2) (ok2 : DomOk E) :
    Calls Tryz.prog 79 #[.pointer (some ⟨b, 0, none⟩), .pointer (some ⟨b2, 0, none⟩)] w (POp2 w b D fp (D.width ≠ E.width) (errV ea 3)) := by
  obtain ⟨a, f, hb, hg, hf, hn⟩ := h.op ok
  obtain ⟨a2, f2, hb2, hg2, hf2, hn2⟩ := h2.op ok2
  have c0 := hb.cell 0
  have c20 := hb2.cell 0
  simp at c0 c20
  by_cases ho : D.width ≠ E.width
  · refine (diff_mis b b2 (D.width : Int) (E.width : Int) (ea 3) w c0 c20 (by simp; omega) (G.err 3 (by omega))).mono ?_
    rintro e w' ⟨rfl, q, rfl⟩
    exact .inr ⟨ho, rfl, Kp.dN w q⟩
  · have hl := two_len ok ok2 ho
    have hw : E.width = D.width := by omega
    rw [hl, hw] at hb2
    rw [hl] at hg2
    refine (diff_core b b2 D.words.length a a2 (D.width : Int) (D.count : Int) (E.count : Int) D.words E.words f f2 w hb hb2 hg hg2 rfl hl hn ok.2.2.1 ok2.2.2.1).mono ?_
    rintro e w' ⟨r, ws', rfl, x1, x2, x3, x4, x5⟩
    exact .inl ⟨ho, r, rfl, DMod.mk h ok hf x1 x2 x3 x4 x5⟩
theorem d_subset {ea : Nat → Addr} {w : World} {b b2 : Nat} {D E : DomV} {fp fp2 : List Nat} (G : Glob ea w) (h : DomAt w b D fp) (ok : DomOk D) (h2 : DomAt w b2 E fp2) (ok2 : DomOk E) :
    Calls Tryz.prog 80 #[.pointer (some ⟨b, 0, none⟩), .pointer (some ⟨b2, 0, none⟩)] w (POp2 w b D fp (D.width ≠ E.width) (errV ea 3)) := by
  obtain ⟨a, f, hb, hg, hf, hn⟩ := h.op ok
  obtain ⟨a2, f2, hb2, hg2, hf2, hn2⟩ := h2.op ok2
  have c0 := hb.cell 0
  have c20 := hb2.cell 0
  simp at c0 c20
  by_cases ho : D.width ≠ E.width
  · refine (subset_mis b b2 (D.width : Int) (E.width : Int) (ea 3) w c0 c20 (by simp; omega) (G.err 3 (by omega))).mono ?_
    rintro e w' ⟨rfl, q, rfl⟩
    exact .inr ⟨ho, rfl, Kp.dN w q⟩
  · have hl := two_len ok ok2 ho
    have hw : E.width = D.width := by omega
    rw [hl, hw] at hb2
    rw [hl] at hg2
    refine (subset_core b b2 D.words.length a a2 (D.width : Int) (D.count : Int) (E.count : Int) D.words E.words f f2 w hb hb2 hg hg2 rfl hl hn).mono ?_
    rintro e w' ⟨r, rfl, q, rfl⟩
    exact .inl ⟨ho, r, rfl, DMod.same h ok (Kp.dN w q)⟩
theorem d_disjoint {ea : Nat → Addr} {w : World} {b b2 : Nat} {D E : DomV} {fp fp2 : List Nat} (G : Glob ea w) (h : DomAt w b D fp) (ok : DomOk D) (h2 : DomAt w b2 E fp2) (ok2 : DomOk E) :
    Calls Tryz.prog 81 #[.pointer (some ⟨b, 0, none⟩), .pointer (some ⟨b2, 0, none⟩)] w (POp2 w b D fp (D.width ≠ E.width) (errV ea 3)) := by
  obtain ⟨a, f, hb, hg, hf, hn⟩ := h.op ok
  obtain ⟨a2, f2, hb2, hg2, hf2, hn2⟩ := h2.op ok2
  have c0 := hb.cell 0
  have c20 := hb2.cell 0
  simp at c0 c20
  by_cases ho : D.width ≠ E.width
  · refine (disjoint_mis b b2 (D.width : Int) (E.width : Int) (ea 3) w c0 c20 (by simp; omega) (G.err 3 (by omega))).mono ?_
    rintro e w' ⟨rfl, q, rfl⟩
    exact .inr ⟨ho, rfl, Kp.dN w q⟩
  · have hl := two_len ok ok2 ho
    have hw : E.width = D.width := by omega
    rw [hl, hw] at hb2
    rw [hl] at hg2
    refine (disjoint_core b b2 D.words.length a a2 (D.width : Int) (D.count : Int) (E.count : Int) D.words E.words f f2 w hb hb2 hg hg2 rfl hl hn).mono ?_
    rintro e w' ⟨r, rfl, q, rfl⟩
    exact .inl ⟨ho, r, rfl, DMod.same h ok (Kp.dN w q)⟩

def PErr1 (w : World) (b : Nat) (D : DomV) (fp : List Nat) (bad : Prop) (ev : Value) (e : Ending) (w' : World) : Prop :=
  (¬ bad ∧ e = .returned .nilIface ∧ DMod w b D fp w') ∨ (bad ∧ e = .returned ev ∧ Kp [] w w')

theorem d_copyFrom {ea : Nat → Addr} {w : World} {b b2 : Nat} {D E : DomV} {fp fp2 : List Nat} (G : Glob ea w) (h : DomAt w b D fp) (ok : DomOk D) (h2 : DomAt w b2 E fp2) (ok2 : DomOk E) :
    Calls Tryz.prog 76 #[.pointer (some ⟨b, 0, none⟩), .pointer (some ⟨b2, 0, none⟩)] w (PErr1 w b D fp (D.width ≠ E.width) (errV ea 3)) := by
  obtain ⟨a, f, hb, hg, hf, hn⟩ := h.op ok
  obtain ⟨a2, f2, hb2, hg2, hf2, hn2⟩ := h2.op ok2
  have c0 := hb.cell 0
  have c20 := hb2.cell 0
  simp at c0 c20
  by_cases ho : D.width ≠ E.width
  · refine (copyFrom_mis b b2 (D.width : Int) (E.width : Int) (ea 3) w c0 c20 (by simp; omega) (G.err 3 (by omega))).mono ?_
    rintro e w' ⟨rfl, q, rfl⟩
    exact .inr ⟨ho, rfl, Kp.dN w q⟩
  · have hl := two_len ok ok2 ho
    have hw : E.width = D.width := by omega
    rw [hl, hw] at hb2
    rw [hl] at hg2
    refine (copyFrom_core b b2 D.words.length a a2 (D.width : Int) (D.count : Int) (E.count : Int) D.words E.words f f2 w hb hb2 hg hg2 rfl hl).mono ?_
    rintro e w' ⟨rfl, x1, x2, x5⟩
    rw [ok2.2.2.2] at x1
    exact .inl ⟨ho, rfl, DMod.mk h ok hf x1 x2 hl ok2.2.2.1 x5⟩

theorem d_equal {w : World} {b b2 : Nat} {D E : DomV} {fp fp2 : List Nat} (h : DomAt w b D fp) (ok : DomOk D) (h2 : DomAt w b2 E fp2) (ok2 : DomOk E) :
    Calls Tryz.prog 82 #[.pointer (some ⟨b, 0, none⟩), .pointer (some ⟨b2, 0, none⟩)] w (fun e w' => ∃ r : Bool, e = .returned (.bool r) ∧ Kp [] w w') := by
  obtain ⟨a, f, hb, hg, hf, hn⟩ := h.op ok
  obtain ⟨a2, f2, hb2, hg2, hf2, hn2⟩ := h2.op ok2
  refine (equal_core b b2 D.words.length E.words.length a a2 (D.width : Int) (E.width : Int) (D.count : Int) (E.count : Int) D.words E.words f f2 w hb hb2 hg hg2 rfl rfl hn hn2 (fun h => by have := ok.2.1; have := ok2.2.1; omega)).mono ?_
  rintro e w' ⟨r, rfl, q, rfl⟩
  exact ⟨r, rfl, Kp.dN w q⟩

theorem d_next {ea : Nat → Addr} {w : World} {b : Nat} {D : DomV} {fp : List Nat} (G : Glob ea w) (h : DomAt w b D fp) (ok : DomOk D) (v : Int) :
    Calls Tryz.prog 68 #[.pointer (some ⟨b, 0, none⟩), .int .i64 v] w (POp3 w (outR D v) (errV ea 2)) := by
  obtain ⟨a, f, hb, hg, hf, hn⟩ := h.op ok
  have c0 := hb.cell 0; have c2 := hb.cell 2
  simp at c0 c2
  by_cases ho : outR D v
  · refine (next_out b _ v _ w c0 (G.err 2 (by omega)) (Glob.isErr 2) (outR_dec ho)).mono ?_
    rintro e w' ⟨rfl, rfl⟩
    exact .inr ⟨ho, rfl, (Kp.refl _ _).drew⟩
  · obtain ⟨i0, i1, i2, _⟩ := idx_ok ok ho
    refine (next_core b D.words.length a (D.width : Int) v D.words f w c0 c2 hg rfl hn ok.2.2.1 G.tz i0 i1 i2).mono ?_
    rintro e w' ⟨r, k, rfl, _, _, _, rfl⟩
    exact .inl ⟨ho, r, k, rfl, Kp.refl _ _⟩

theorem d_prev {ea : Nat → Addr} {w : World} {b : Nat} {D : DomV} {fp : List Nat} (G : Glob ea w) (h : DomAt w b D fp) (ok : DomOk D) (v : Int) :
    Calls Tryz.prog 69 #[.pointer (some ⟨b, 0, none⟩), .int .i64 v] w (POp3 w (outR D v) (errV ea 2)) := by
  obtain ⟨a, f, hb, hg, hf, hn⟩ := h.op ok
  have c0 := hb.cell 0; have c2 := hb.cell 2
  simp at c0 c2
  by_cases ho : outR D v
  · refine (prev_out b _ v _ w c0 (G.err 2 (by omega)) (Glob.isErr 2) (outR_dec ho)).mono ?_
    rintro e w' ⟨rfl, rfl⟩
    exact .inr ⟨ho, rfl, (Kp.refl _ _).drew⟩
  · obtain ⟨i0, i1, i2, _⟩ := idx_ok ok ho
    refine (prev_core b D.words.length a (D.width : Int) v D.words f w c0 c2 hg rfl hn ok.2.2.1 i0 i1 i2).mono ?_
    rintro e w' ⟨r, k, rfl, rfl⟩
    exact .inl ⟨ho, r, k, rfl, Kp.refl _ _⟩

theorem d_min {ea : Nat → Addr} {w : World} {b : Nat} {D : DomV} {fp : List Nat} (G : Glob ea w) (h : DomAt w b D fp) (ok : DomOk D) :
    Calls Tryz.prog 65 #[.pointer (some ⟨b, 0, none⟩)] w (PMin w) := by
  obtain ⟨a, f, hb, hg, hf, hn⟩ := h.op ok
  have c2 := hb.cell 2
  simp at c2
  exact min_core b D.words.length a D.words f w c2 hg rfl hn ok.2.2.1 G.tz

theorem d_max {w : World} {b : Nat} {D : DomV} {fp : List Nat} (h : DomAt w b D fp) (ok : DomOk D) :
    Calls Tryz.prog 67 #[.pointer (some ⟨b, 0, none⟩)] w (PVal w) := by
  obtain ⟨a, f, hb, hg, hf, hn⟩ := h.op ok
  have c2 := hb.cell 2
  simp at c2
  exact max_core b D.words.length a D.words f w c2 hg rfl hn ok.2.2.1

theorem d_single {ea : Nat → Addr} {w : World} {b : Nat} {D : DomV} {fp : List Nat} (G : Glob ea w) (h : DomAt w b D fp) (ok : DomOk D) :
    Calls Tryz.prog 70 #[.pointer (some ⟨b, 0, none⟩)] w (PVal w) := by
  obtain ⟨a, f, hb, hg, hf, hn⟩ := h.op ok
  have c1 := hb.cell 1; have c2 := hb.cell 2
  simp at c1 c2
  exact single_core b D.words.length a _ D.words f w c1 c2 hg rfl hn ok.2.2.1 G.tz

theorem d_len {w : World} {b : Nat} {D : DomV} {fp : List Nat} (h : DomAt w b D fp) (ok : DomOk D) :
    Calls Tryz.prog 64 #[.pointer (some ⟨b, 0, none⟩)] w fun e w' => e = .returned (.int .i64 (D.count : Int)) ∧ w' = w := by
  obtain ⟨a, f, hb, hg, hf, hn⟩ := h.op ok
  have c1 := hb.cell 1
  simp at c1
  exact len_core b _ w c1

theorem d_width {w : World} {b : Nat} {D : DomV} {fp : List Nat} (h : DomAt w b D fp) (ok : DomOk D) :
    Calls Tryz.prog 22 #[.pointer (some ⟨b, 0, none⟩)] w fun e w' => e = .returned (.int .i64 (D.width : Int)) ∧ w' = w := by
  obtain ⟨a, f, hb, hg, hf, hn⟩ := h.op ok
  have c1 := hb.cell 0
  simp at c1
  exact width_core b _ w c1

theorem d_clear {w : World} {b : Nat} {D : DomV} {fp : List Nat} (h : DomAt w b D fp) (ok : DomOk D) :
    Calls Tryz.prog 71 #[.pointer (some ⟨b, 0, none⟩)] w fun e w' => e = .returned (.tuple #[]) ∧ DMod w b D fp w' := by
  obtain ⟨a, f, hb, hg, hf, hn⟩ := h.op ok
  refine (clear_core b D.words.length a (D.width : Int) (D.count : Int) D.words f w hb hg rfl).mono ?_
  rintro e w' ⟨rfl, x1, x2, x3⟩
  exact ⟨rfl, DMod.mk h ok hf (by rw [pcs_zero]; exact x1) x2 (by simp) (fun x hx => by rw [List.eq_of_mem_replicate hx]; decide) x3⟩

theorem d_fill {w : World} {b : Nat} {D : DomV} {fp : List Nat} (h : DomAt w b D fp) (ok : DomOk D) :
    Calls Tryz.prog 72 #[.pointer (some ⟨b, 0, none⟩)] w fun e w' => e = .returned (.tuple #[]) ∧ DMod w b D fp w' := by
  obtain ⟨a, f, hb, hg, hf, hn⟩ := h.op ok
  refine (fill_core b D.words.length a (D.width : Int) (D.count : Int) D.words f w hb hg rfl hn ok.2.2.1 (show (D.count : Int) = _ by rw [ok.2.2.2]) (by omega) (by have := ok.1; omega) (show _ = _ by have := ok.2.1; omega)).mono ?_
  rintro e w' ⟨ws', rfl, x1, x2, x3, x4, x5⟩
  exact ⟨rfl, DMod.mk h ok hf x1 x2 x3 x4 x5⟩

def DNew (w : World) (width : Nat) (b : Nat) (w' : World) : Prop := ∃ D fp, DomAt w' b D fp ∧ DomOk D ∧ D.width = width ∧ (∀ x ∈ fp, w.heap.size ≤ x) ∧ Kp [] w w'

theorem d_clone {w : World} {b : Nat} {D : DomV} {fp : List Nat} (hs : 8 ≤ w.heap.size) (h : DomAt w b D fp) (ok : DomOk D) :
    Calls Tryz.prog 75 #[.pointer (some ⟨b, 0, none⟩)] w fun e w' => ∃ b', e = .returned (.pointer (some ⟨b', 0, none⟩)) ∧ DNew w D.width b' w' := by
  obtain ⟨a, f, hb, hg, hf, hn⟩ := h.op ok
  refine (clone_core b D.words.length a (D.width : Int) (D.count : Int) D.words f w hb hg rfl hn).mono ?_
  rintro e w' ⟨rfl, x1, x2, x3⟩
  refine ⟨_, rfl, D, _, ⟨_, _, x1, x2, rfl, by simp, fun x hx => ?_⟩, ok, rfl, fun x hx => ?_, x3⟩
  all_goals simp at hx; omega

def badW (width : Int) : Prop := ¬ (0 ≤ width ∧ width ≤ 4096)

def PNew (w : World) (width : Int) (bad : Prop) (ev : Value) (e : Ending) (w' : World) : Prop :=
  (¬ bad ∧ ∃ b', e = .returned (.tuple #[.pointer (some ⟨b', 0, none⟩), .nilIface]) ∧ DNew w width.toNat b' w') ∨ (bad ∧ e = .returned (.tuple #[.pointer none, ev]) ∧ Kp [] w w')

theorem d_newEmpty {ea : Nat → Addr} {w : World} (G : Glob ea w) (width : Int) :
    Calls Tryz.prog 57 #[.int .i64 width] w (PNew w width (badW width) (errV ea 1)) := by
  by_cases ho : badW width
  · refine (newEmpty_bad width (ea 1) w (eq_false ho) (G.err 1 (by omega))).mono ?_
    rintro e w' ⟨rfl, q, rfl⟩
    exact .inr ⟨ho, rfl, Kp.dN w q⟩
  · obtain ⟨h0, h1⟩ := Decidable.not_not.1 ho
    refine (newEmpty_ok width w h0 h1).mono ?_
    rintro e w' ⟨rfl, rfl⟩
    refine .inl ⟨ho, _, rfl, ⟨width.toNat, 0, List.replicate ((width + 64 - 1) / 64).toNat 0⟩, [w.heap.size + 1, w.heap.size], ⟨_, [w.heap.size], ?_, .inr ⟨w.heap.size, rfl, ?_, rfl⟩, rfl, by simp, fun x hx => ?_⟩, ⟨?_, ?_, ?_, ?_⟩, rfl, fun x hx => ?_, ((Kp.refl _ _).alloc _).alloc _⟩
    · have := Blk.new (w.alloc (.cells (zeroW ((width + 64 - 1) / 64).toNat) 117)) 60 #[.int .i64 width, .int .i64 0, .slice (some ⟨w.heap.size, 0, none⟩) ((width + 64 - 1) / 64).toNat ((width + 64 - 1) / 64).toNat]
      simp at this
      simp [Int.toNat_of_nonneg h0, this]
    · exact (Blk.new w 117 (zeroW ((width + 64 - 1) / 64).toNat)).alloc _
    · have := G.size; simp at hx; omega
    · show width.toNat ≤ 4096; omega
    · simp; omega
    · intro x hx; rw [List.eq_of_mem_replicate hx]; decide
    · show 0 = _; rw [pcs_zero]
    · simp at hx; omega

end Go.Proofs.Qxb6500745aGreatDoor
