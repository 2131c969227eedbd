import Derived.Test.Qxb6500745aGreatDoorSet9
namespace Go.Proofs.Qxb6500745aGreatDoor
open Go.RowKit

def bp (b : Nat) : Value := .pointer (some ⟨b, 0, none⟩)

def resV (err : Value) (r : Bool) (i : Int) (l : Value) (t : ByteArray) : Value := .agg #[err, .bool r, .int .i64 i, l, .string t]

def regOf (a : Int) : Nat := (((a.tmod 4) + 4).tmod 4).toNat

theorem regOf_lt (a : Int) : regOf a < 4 := by
  unfold regOf
  have h1 : -4 < a.tmod 4 := Int.lt_tmod_of_pos a (by decide)
  have h2 : a.tmod 4 < 4 := Int.tmod_lt_of_pos a (by decide)
  have h3 : (a.tmod 4 + 4).tmod 4 < 4 := Int.tmod_lt_of_pos _ (by decide)
  have h4 : 0 ≤ (a.tmod 4 + 4).tmod 4 := Int.tmod_nonneg _ (by omega)
  omega

set_option maxHeartbeats 400000 in
theorem reg_any (a : Int) (w : World) :
    Calls Tryz.prog 20 #[.int .i64 a, .int .i64 4] w fun e w' => e = .returned (.int .i64 (regOf a : Nat)) ∧ w' = w := by
  have hr : ((regOf a : Nat) : Int) = (a.tmod 4 + 4).tmod 4 := by
    unfold regOf
    have h1 : -4 < a.tmod 4 := Int.lt_tmod_of_pos a (by decide)
    have h4 : 0 ≤ (a.tmod 4 + 4).tmod 4 := Int.tmod_nonneg _ (by omega)
    omega
  have h1 : -4 < a.tmod 4 := Int.lt_tmod_of_pos a (by decide)
  have h2 : a.tmod 4 < 4 := Int.tmod_lt_of_pos a (by decide)
  have h3 : (a.tmod 4 + 4).tmod 4 < 4 := Int.tmod_lt_of_pos _ (by decide)
  have h4 : 0 ≤ (a.tmod 4 + 4).tmod 4 := Int.tmod_nonneg _ (by omega)
  rw [hr]
  clear hr
  go_enter Tryz.func20, Tryz.ntmps20
  go_wp2_with fail
  go_ret
  refine ⟨?_, rfl⟩
  have e : (a.tmod 4 + 4).tmod 4 = (a.tmod 4 + 4) % 4 := Int.tmod_eq_emod_of_nonneg (by omega)
  rw [e]
  rfl

def ErrOk (ev : Value) : Prop := ev = .nilIface ∨ ∃ p, ev = .iface 110 p
theorem ErrOk.nil : ErrOk .nilIface := .inl rfl
theorem ErrOk.err (ea : Nat → Addr) (i : Nat) : ErrOk (errV ea i) := .inr ⟨_, rfl⟩

set_option maxHeartbeats 400000 in
theorem changed_any (r : Bool) (ev : Value) (w : World) (hev : ErrOk ev) :
    Calls Tryz.prog 60 #[.bool r, ev] w fun e w' => e = .returned (resV ev r 0 (.slice none 0 0) ByteArray.empty) ∧ Kp [] w w' := by
  rcases hev with rfl | ⟨p, rfl⟩
  · go_enter Tryz.func60, Tryz.ntmps60
    go_wp2_with fail
    refine bodyPost_ret (v := resV .nilIface r 0 (.slice none 0 0) ByteArray.empty) (by simp [results, Tryz.results60, go_sem, resV]; rfl) rfl ⟨rfl, ?_⟩
    exact (Kp.refl _ _).alloc _
  · go_enter Tryz.func60, Tryz.ntmps60
    go_wp2_with fail
    refine bodyPost_ret (v := resV (.iface 110 p) r 0 (.slice none 0 0) ByteArray.empty) (by simp [results, Tryz.results60, go_sem, resV]; rfl) rfl ⟨rfl, ?_⟩
    exact (Kp.refl _ _).alloc _

set_option maxHeartbeats 400000 in
theorem sought_any (i : Int) (r : Bool) (ev : Value) (w : World) (hev : ErrOk ev) :
    Calls Tryz.prog 66 #[.int .i64 i, .bool r, ev] w fun e w' => e = .returned (resV ev r i (.slice none 0 0) ByteArray.empty) ∧ Kp [] w w' := by
  rcases hev with rfl | ⟨p, rfl⟩
  · go_enter Tryz.func66, Tryz.ntmps66
    go_wp2_with fail
    refine bodyPost_ret (v := resV .nilIface r i (.slice none 0 0) ByteArray.empty) (by simp [results, Tryz.results66, go_sem, resV]; rfl) rfl ⟨rfl, ?_⟩
    exact (Kp.refl _ _).alloc _
  · go_enter Tryz.func66, Tryz.ntmps66
    go_wp2_with fail
    refine bodyPost_ret (v := resV (.iface 110 p) r i (.slice none 0 0) ByteArray.empty) (by simp [results, Tryz.results66, go_sem, resV]; rfl) rfl ⟨rfl, ?_⟩
    exact (Kp.refl _ _).alloc _

def machCells (pt : Nat → Nat) : Array Value := #[bp (pt 0), bp (pt 1), bp (pt 2), bp (pt 3), bp (pt 4), bp (pt 5), bp (pt 6), bp (pt 7)]

theorem machCells_get (pt : Nat → Nat) (i : Nat) (h : i < 8) : (machCells pt)[i]? = some (bp (pt i)) := by
  match i, h with
  | 0, _ | 1, _ | 2, _ | 3, _ | 4, _ | 5, _ | 6, _ | 7, _ => rfl

def upd {A : Type} (f : Nat → A) (k : Nat) (a : A) : Nat → A := fun i => if i = k then a else f i
theorem upd_self {A : Type} (f : Nat → A) (k : Nat) (a : A) : upd f k a k = a := by simp [upd]
theorem upd_ne {A : Type} (f : Nat → A) {k i : Nat} (a : A) (h : i ≠ k) : upd f k a i = f i := by simp [upd, h]

theorem machCells_upd (pt : Nat → Nat) (k b : Nat) (h : k < 8) : (machCells pt).setIfInBounds k (bp b) = machCells (upd pt k b) := by
  match k, h with
  | 0, _ | 1, _ | 2, _ | 3, _ | 4, _ | 5, _ | 6, _ | 7, _ => rfl

structure Mach (w : World) (mb : Nat) (pt : Nat → Nat) (D : Nat → DomV) (Z : Nat → List Int) (fp : Nat → List Nat) : Prop where
  ge : 8 ≤ mb
  blk : Blk w mb 48 (machCells pt)
  dom : ∀ i, i < 4 → DomAt w (pt i) (D i) (fp i) ∧ DomOk (D i)
  set : ∀ i, i < 4 → SetAt w (pt (i + 4)) (Z i) (fp (i + 4)) ∧ SetOk (Z i)
  apart : ∀ i j, i < 8 → j < 8 → i ≠ j → ∀ x ∈ fp i, x ∉ fp j
  off : ∀ i, i < 8 → mb ∉ fp i

theorem Mach.fge {w : World} {mb : Nat} {pt : Nat → Nat} {D : Nat → DomV} {Z : Nat → List Int} {fp : Nat → List Nat} (h : Mach w mb pt D Z fp) (i : Nat) (hi : i < 8) : ∀ x ∈ fp i, 8 ≤ x ∧ x < w.heap.size := by
  intro x hx
  by_cases h4 : i < 4
  · exact ⟨(h.dom i h4).1.ge x hx, (h.dom i h4).1.lt x hx⟩
  · obtain ⟨j, rfl⟩ : ∃ j, i = j + 4 := ⟨i - 4, by omega⟩
    exact ⟨(h.set j (by omega)).1.ge x hx, (h.set j (by omega)).1.lt x hx⟩

theorem Mach.kp {w w' : World} {mb : Nat} {pt : Nat → Nat} {D : Nat → DomV} {Z : Nat → List Int} {fp : Nat → List Nat} {L : List Nat} (h : Mach w mb pt D Z fp) (k : Kp L w w') (hL : ∀ x ∈ L, x ≠ mb ∧ ∀ i, i < 8 → x ∉ fp i) : Mach w' mb pt D Z fp where
  ge := h.ge
  blk := h.blk.kp k (fun hm => (hL mb hm).1 rfl)
  dom := fun i hi => ⟨(h.dom i hi).1.kp k (fun x hx hl => (hL x hl).2 i (by omega) hx), (h.dom i hi).2⟩
  set := fun i hi => ⟨(h.set i hi).1.kp k (fun x hx hl => (hL x hl).2 (i + 4) (by omega) hx), (h.set i hi).2⟩
  apart := h.apart
  off := h.off

theorem Mach.kp0 {w w' : World} {mb : Nat} {pt : Nat → Nat} {D : Nat → DomV} {Z : Nat → List Int} {fp : Nat → List Nat} (h : Mach w mb pt D Z fp) (k : Kp [] w w') : Mach w' mb pt D Z fp := h.kp k (fun _ hx => by cases hx)

theorem Mach.dmod {w w' : World} {mb : Nat} {pt : Nat → Nat} {D : Nat → DomV} {Z : Nat → List Int} {fp : Nat → List Nat} (h : Mach w mb pt D Z fp) (r : Nat) (hr : r < 4) (m : DMod w (pt r) (D r) (fp r) w') :
    ∃ D', Mach w' mb pt D' Z fp ∧ Kp (fp r) w w' := by
  obtain ⟨E, m1, m2, m3, m4⟩ := m
  refine ⟨upd D r E, ⟨h.ge, h.blk.kp m4 (h.off r (by omega)), fun i hi => ?_, fun i hi => ⟨(h.set i hi).1.kp m4 (fun x hx => h.apart _ _ (by omega) (by omega) (by omega) x hx), (h.set i hi).2⟩, h.apart, h.off⟩, m4⟩
  by_cases e : i = r
  · subst e; rw [upd_self]; exact ⟨m1, m2⟩
  · rw [upd_ne _ _ e]; exact ⟨(h.dom i hi).1.kp m4 (fun x hx => h.apart _ _ (by omega) (by omega) e x hx), (h.dom i hi).2⟩

theorem Mach.dnew {w w1 : World} {mb : Nat} {pt : Nat → Nat} {D : Nat → DomV} {Z : Nat → List Int} {fp : Nat → List Nat} (h : Mach w mb pt D Z fp) (r : Nat) (hr : r < 4) {b n : Nat} (m : DNew w n b w1) :
    ∃ pt' D' fp', Mach (w1.setCell ⟨mb, r, none⟩ (bp b)) mb pt' D' Z fp' ∧ (∀ i, i < 8 → ∀ x ∈ fp' i, x ∈ fp i ∨ w.heap.size ≤ x) ∧ Kp [mb] w (w1.setCell ⟨mb, r, none⟩ (bp b)) := by
  obtain ⟨E, f, m1, m2, m3, m4, m5⟩ := m
  have h1 := h.kp0 m5
  have hk : Kp [mb] w1 (w1.setCell ⟨mb, r, none⟩ (bp b)) := (Kp.refl _ _).setCell (p := ⟨mb, r, none⟩) (fun _ => by simp) _
  have hmb := h.blk.lt
  have hold : ∀ i, i < 8 → ∀ x ∈ fp i, x ∉ f := fun i hi x hx hf => by have := (h.fge i hi x hx).2; have := m4 x hf; omega
  refine ⟨upd pt r b, upd D r E, upd fp r f, ⟨h.ge, ?_, fun i hi => ?_, fun i hi => ?_, fun i j hi hj hij x hx => ?_, fun i hi => ?_⟩, fun i hi x hx => ?_, (m5.nil (M := [mb])).step hk⟩
  · rw [← machCells_upd pt r b (by omega)]; exact h1.blk.set r _
  · by_cases e : i = r
    · subst e; rw [upd_self, upd_self, upd_self]
      exact ⟨m1.kp hk (fun x hx hl => by simp at hl; subst hl; have := m4 _ hx; omega), m2⟩
    · rw [upd_ne _ _ e, upd_ne _ _ e, upd_ne _ _ e]
      exact ⟨(h1.dom i hi).1.kp hk (fun x hx hl => by simp at hl; subst hl; exact h.off i (by omega) hx), (h1.dom i hi).2⟩
  · rw [upd_ne _ _ (by omega), upd_ne _ _ (by omega)]
    exact ⟨(h1.set i hi).1.kp hk (fun x hx hl => by simp at hl; subst hl; exact h.off _ (by omega) hx), (h1.set i hi).2⟩
  · by_cases e1 : i = r
    · subst e1
      rw [upd_self] at hx
      rw [upd_ne _ _ (fun e => hij e.symm)]
      exact fun hj' => hold j hj x hj' hx
    · rw [upd_ne _ _ e1] at hx
      by_cases e2 : j = r
      · subst e2; rw [upd_self]; exact hold i hi x hx
      · rw [upd_ne _ _ e2]; exact h.apart i j hi hj hij x hx
  · by_cases e : i = r
    · subst e; rw [upd_self]; intro hm; have := m4 _ hm; omega
    · rw [upd_ne _ _ e]; exact h.off i hi
  · by_cases e : i = r
    · subst e; rw [upd_self] at hx; exact .inr (m4 x hx)
    · rw [upd_ne _ _ e] at hx; exact .inl hx

theorem Mach.smod {w w' : World} {mb : Nat} {pt : Nat → Nat} {D : Nat → DomV} {Z : Nat → List Int} {fp : Nat → List Nat} (h : Mach w mb pt D Z fp) (r : Nat) (hr : r < 4) {zs : List Int} (m : SMod w (pt (r + 4)) zs (fp (r + 4)) w') :
    ∃ Z' fp', Mach w' mb pt D Z' fp' ∧ (∀ i, i < 8 → ∀ x ∈ fp' i, x ∈ fp i ∨ w.heap.size ≤ x) ∧ Kp (fp (r + 4)) w w' := by
  obtain ⟨f, m1, m2, m3, m4⟩ := m
  have hold : ∀ i, i < 8 → i ≠ r + 4 → ∀ x ∈ fp i, x ∉ f := fun i hi hne x hx hf => by
    rcases m3 x hf with h1 | h1
    · exact h.apart i (r + 4) hi (by omega) hne x hx h1
    · have := (h.fge i hi x hx).2; omega
  have hmb := h.blk.lt
  refine ⟨upd Z r zs, upd fp (r + 4) f, ⟨h.ge, h.blk.kp m4 (h.off _ (by omega)), fun i hi => ?_, fun i hi => ?_, fun i j hi hj hij x hx => ?_, fun i hi => ?_⟩, fun i hi x hx => ?_, m4⟩
  · rw [upd_ne _ _ (by omega)]
    exact ⟨(h.dom i hi).1.kp m4 (fun x hx => h.apart _ _ (by omega) (by omega) (by omega) x hx), (h.dom i hi).2⟩
  · by_cases e : i = r
    · subst e; rw [upd_self, upd_self]; exact ⟨m1, m2⟩
    · rw [upd_ne _ _ e, upd_ne _ _ (by omega)]; exact ⟨(h.set i hi).1.kp m4 (fun x hx => h.apart _ _ (by omega) (by omega) (by omega) x hx), (h.set i hi).2⟩
  · by_cases e1 : i = r + 4
    · subst e1
      rw [upd_self] at hx
      rw [upd_ne _ _ (fun e => hij e.symm)]
      exact fun hj' => hold j hj (fun e => hij e.symm) x hj' hx
    · rw [upd_ne _ _ e1] at hx
      by_cases e2 : j = r + 4
      · subst e2; rw [upd_self]; exact hold i hi e1 x hx
      · rw [upd_ne _ _ e2]; exact h.apart i j hi hj hij x hx
  · by_cases e : i = r + 4
    · subst e; rw [upd_self]; intro hm
      rcases m3 _ hm with h1 | h1
      · exact h.off _ hi h1
      · omega
    · rw [upd_ne _ _ e]; exact h.off i hi
  · by_cases e : i = r + 4
    · subst e; rw [upd_self] at hx; exact m3 x hx
    · rw [upd_ne _ _ e] at hx; exact .inl hx

theorem Mach.snew {w w1 : World} {mb : Nat} {pt : Nat → Nat} {D : Nat → DomV} {Z : Nat → List Int} {fp : Nat → List Nat} (h : Mach w mb pt D Z fp) (r : Nat) (hr : r < 4) {b : Nat} {zs : List Int} (m : SNew w zs b w1) (ok : SetOk zs) :
    ∃ pt' Z' fp', Mach (w1.setCell ⟨mb, r + 4, none⟩ (bp b)) mb pt' D Z' fp' ∧ (∀ i, i < 8 → ∀ x ∈ fp' i, x ∈ fp i ∨ w.heap.size ≤ x) ∧ Kp [mb] w (w1.setCell ⟨mb, r + 4, none⟩ (bp b)) := by
  obtain ⟨f, m1, m4, m5⟩ := m
  have h1 := h.kp0 m5
  have hk : Kp [mb] w1 (w1.setCell ⟨mb, r + 4, none⟩ (bp b)) := (Kp.refl _ _).setCell (p := ⟨mb, r + 4, none⟩) (fun _ => by simp) _
  have hmb := h.blk.lt
  have hold : ∀ i, i < 8 → ∀ x ∈ fp i, x ∉ f := fun i hi x hx hf => by have := (h.fge i hi x hx).2; have := m4 x hf; omega
  refine ⟨upd pt (r + 4) b, upd Z r zs, upd fp (r + 4) f, ⟨h.ge, ?_, fun i hi => ?_, fun i hi => ?_, fun i j hi hj hij x hx => ?_, fun i hi => ?_⟩, fun i hi x hx => ?_, (m5.nil (M := [mb])).step hk⟩
  · rw [← machCells_upd pt (r + 4) b (by omega)]; exact h1.blk.set (r + 4) _
  · rw [upd_ne _ _ (by omega), upd_ne _ _ (by omega)]
    exact ⟨(h1.dom i hi).1.kp hk (fun x hx hl => by simp at hl; subst hl; exact h.off _ (by omega) hx), (h1.dom i hi).2⟩
  · by_cases e : i = r
    · subst e; rw [upd_self, upd_self, upd_self]
      exact ⟨m1.kp hk (fun x hx hl => by simp at hl; subst hl; have := m4 _ hx; omega), ok⟩
    · rw [upd_ne _ _ (by omega), upd_ne _ _ e, upd_ne _ _ (by omega)]
      exact ⟨(h1.set i hi).1.kp hk (fun x hx hl => by simp at hl; subst hl; exact h.off _ (by omega) hx), (h1.set i hi).2⟩
  · by_cases e1 : i = r + 4
    · subst e1
      rw [upd_self] at hx
      rw [upd_ne _ _ (fun e => hij e.symm)]
      exact fun hj' => hold j hj x hj' hx
    · rw [upd_ne _ _ e1] at hx
      by_cases e2 : j = r + 4
      · subst e2; rw [upd_self]; exact hold i hi x hx
      · rw [upd_ne _ _ e2]; exact h.apart i j hi hj hij x hx
  · by_cases e : i = r + 4
    · subst e; rw [upd_self]; intro hm; have := m4 _ hm; omega
    · rw [upd_ne _ _ e]; exact h.off i hi
  · by_cases e : i = r + 4
    · subst e; rw [upd_self] at hx; exact .inr (m4 x hx)
    · rw [upd_ne _ _ e] at hx; exact .inl hx

def MStep (w : World) (mb : Nat) (fp : Nat → List Nat) (w' : World) : Prop :=
  ∃ pt' D' Z' fp' L, Mach w' mb pt' D' Z' fp' ∧ (∀ i, i < 8 → ∀ x ∈ fp' i, (∃ j, j < 8 ∧ x ∈ fp j) ∨ w.heap.size ≤ x) ∧ Kp L w w' ∧ ∀ x ∈ L, x = mb ∨ ∃ j, j < 8 ∧ x ∈ fp j

def PStep (w : World) (mb : Nat) (fp : Nat → List Nat) (bad : Prop) (e : Ending) (w' : World) : Prop :=
  (¬ bad ∧ ∃ r i a n c t, e = .returned (resV .nilIface r i (.slice a n c) t) ∧ MStep w mb fp w') ∨ (bad ∧ ∃ p : Addr, e = .returned (resV (.iface 110 (.pointer (some p))) false 0 (.slice none 0 0) ByteArray.empty) ∧ Kp [] w w')

theorem MStep.same {w w' : World} {mb : Nat} {pt : Nat → Nat} {D : Nat → DomV} {Z : Nat → List Int} {fp : Nat → List Nat} (h : Mach w mb pt D Z fp) (k : Kp [] w w') : MStep w mb fp w' :=
  ⟨pt, D, Z, fp, [], h.kp0 k, fun i hi x hx => .inl ⟨i, hi, hx⟩, k, fun _ hx => by cases hx⟩

theorem MStep.around {w w1 w2 w3 : World} {mb : Nat} {fp : Nat → List Nat} (k1 : Kp [] w w1) (m : MStep w1 mb fp w2) (L : List Nat) (k3 : Kp L w2 w3) (hL : ∀ x ∈ L, w.heap.size ≤ x ∧ x < w1.heap.size) (hmb : mb < w.heap.size) (hfp : ∀ i, i < 8 → ∀ x ∈ fp i, x < w.heap.size) : MStep w mb fp w3 := by
  obtain ⟨pt', D', Z', fp', M, h1, h2, h3, h4⟩ := m
  have hs := k1.size
  refine ⟨pt', D', Z', fp', M, h1.kp k3 (fun x hx => ⟨fun e => by have := hL x hx; omega, fun i hi hf => ?_⟩), fun i hi x hx => ?_, ?_, h4⟩
  · have h5 := hL x hx
    rcases h2 i hi x hf with ⟨j, hj, h6⟩ | h6
    · have := hfp j hj x h6; omega
    · omega
  · rcases h2 i hi x hx with h | h
    · exact .inl h
    · exact .inr (by omega)
  · exact (k1.trans h3 (by simp) (fun x hx _ => hx)).trans k3 (fun x hx _ => hx) (fun x hx hl => by have := hL x hx; omega)

end Go.Proofs.Qxb6500745aGreatDoor
