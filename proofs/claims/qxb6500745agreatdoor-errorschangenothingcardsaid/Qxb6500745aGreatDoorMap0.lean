import Derived.Test.Qxb6500745aGreatDoorBase
import Derived.Maps.RangeWalk
import Derived.Maps.OwnSet
import Derived.Maps.OwnOps
namespace Go.Proofs.Qxb6500745aGreatDoor
open Go.RowKit Go.Maps

theorem mlaw : Keyed Tryz.prog 3 := int_keyed Tryz.underlying3
theorem mzero (w : World) : (zeroValue 4).run Tryz.prog w = .ok (.bool false) w := by kernel_rfl

def idIn (x : Int) : Prop := 0 ≤ x ∧ x ≤ 1048575

theorem idIn.wf {x : Int} (h : idIn x) : (Lit.int .i64 x).wf = true := WalkArith.wf_i64 (by obtain ⟨_, _⟩ := h; omega)

theorem Kp.of_grown {w w' : World} {b : Nat} (h : w.grownBy w' (some b)) : Kp [b] w w' :=
  ⟨h.os, h.tape, h.output, h.size, fun k hk hn => h.block k hk (fun e => hn (by simp at e; simp [e]))⟩
theorem Kp.of_grown0 {w w' : World} (h : w.grownBy w' none) : Kp [] w w' :=
  ⟨h.os, h.tape, h.output, h.size, fun k hk _ => h.block k hk (by simp)⟩

def SetData (D : DataW Unit) (zs : List Int) : Prop :=
  IsMap D ∧ (∀ x z, D.atKey (.int .i64 x) z = if x ∈ zs then .lit (.bool true) else z) ∧ ∀ x ∈ zs, idIn x

def MapAt (w : World) (b n : Nat) (zs : List Int) : Prop :=
  ∃ D : DataW Unit, w.ownsMap Tryz.prog 3 (plainElem Tryz.prog 4) b n D ∧ SetData D zs

theorem SetData.has {D : DataW Unit} {zs : List Int} (h : SetData D zs) (x : Int) : Maps.has D (.int .i64 x) = decide (x ∈ zs) := by
  by_cases e : x ∈ zs
  · rw [Maps.has_true_of_atKey (y := .lit (.bool true)) (fun z => by rw [h.2.1, if_pos e])]; simp [e]
  · rw [Maps.has_false_of_atKey (fun z => by rw [h.2.1, if_neg e])]; simp [e]

theorem MapAt.lt {w : World} {b n : Nat} {zs : List Int} (h : MapAt w b n zs) : b < w.heap.size := by
  obtain ⟨D, h, _⟩ := h; exact h.lt

theorem MapAt.ids {w : World} {b n : Nat} {zs : List Int} (h : MapAt w b n zs) : ∀ x ∈ zs, idIn x := by
  obtain ⟨D, _, h⟩ := h; exact h.2.2

theorem MapAt.kp {w w' : World} {b n : Nat} {zs : List Int} {L : List Nat} (h : MapAt w b n zs) (k : Kp L w w') (hb : b ∉ L) : MapAt w' b n zs := by
  have hl := h.lt
  obtain ⟨D, ⟨es, clock, h1, h2⟩, h3⟩ := h
  exact ⟨D, ⟨es, clock, (k.block b hl hb).trans h1, h2⟩, h3⟩

theorem MapAt.congr {w : World} {b n : Nat} {zs us : List Int} (h : MapAt w b n zs) (he : ∀ x, x ∈ zs ↔ x ∈ us) : MapAt w b n us := by
  obtain ⟨D, h1, h2, h3, h4⟩ := h
  exact ⟨D, h1, h2, fun x z => by rw [h3]; simp [he x], fun x hx => h4 x ((he x).2 hx)⟩

theorem MapAt.mono {w : World} {b n m : Nat} {zs : List Int} (h : MapAt w b n zs) (hm : n ≤ m) : MapAt w b m zs := by
  obtain ⟨D, h1, h2⟩ := h
  exact ⟨D, h1.mono hm, h2⟩

theorem MapAt.new (w : World) : MapAt (w.alloc (.map #[] 0)) w.heap.size 0 [] :=
  ⟨.map [], World.ownsMap_made w _ _ _, isMap_empty, fun x z => by simp; rfl, by simp⟩

theorem MapAt.look {w : World} {b n : Nat} {zs : List Int} (h : MapAt w b n zs) {x : Int} (hx : idIn x) :
    (Instr.lookup 72 (.map (some b)) (.int .i64 x) false).run Tryz.prog w = .ok (.bool (decide (x ∈ zs))) w := by
  obtain ⟨D, h1, h2⟩ := h
  obtain ⟨v, ps, hr, hv⟩ := h1.lookup mlaw Tryz.underlying72 (mzero w) (plainElem_bool Tryz.underlying4 false) (keyOf_int_mk Tryz.underlying3 hx.wf)
  rw [h2.2.1] at hv
  rw [hr]
  cases v <;> simp [plainElem, Tryz.underlying4] at hv
  obtain ⟨hv, _⟩ := hv
  by_cases e : x ∈ zs
  · rw [if_pos e] at hv; simp at hv; simp [hv, e]
  · rw [if_neg e] at hv; simp at hv; simp [hv, e]

theorem MapAt.put {w : World} {b n : Nat} {zs : List Int} (h : MapAt w b n zs) {x : Int} (hx : idIn x) (hn : n ≤ 1099511627776) :
    ∃ w', (Instr.mapUpdate 72 (.map (some b)) (.int .i64 x) (.bool true)).run Tryz.prog w = .ok () w' ∧ MapAt w' b (n + 1) (x :: zs) ∧ Kp [b] w w' := by
  obtain ⟨D, h1, h2, h3, h4⟩ := h
  obtain ⟨w', hr, ho, hg⟩ := h1.update mlaw Tryz.underlying72 (by unfold maxLen; omega) (keyOf_int_mk Tryz.underlying3 hx.wf) (plainElem_bool Tryz.underlying4 true)
  refine ⟨w', hr, ⟨_, ho, h2.put _ _, fun y z => ?_, fun y hy => ?_⟩, Kp.of_grown hg⟩
  · by_cases e : y = x
    · subst e; rw [atKey_put_same (k := .int .i64 y) h2 trivial]; simp
    · rw [atKey_put_other (by simpa using e), h3]; simp [e]
  · simp at hy; rcases hy with rfl | hy
    · exact hx
    · exact h4 y hy

theorem size_le {w : World} {b n : Nat} {D : DataW Unit} (h : w.ownsMap Tryz.prog 3 (plainElem Tryz.prog 4) b n D) : Maps.size D ≤ n := by
  obtain ⟨es, clock, _, _, hs, rfl⟩ := h
  simpa [Maps.size, length_sorted] using hs

def MRange (w : World) (b r n : Nat) (zs L : List Int) (cnt : Nat) : Prop :=
  ∃ (D : DataW Unit) (left : Lit → Bool), w.ranges Tryz.prog 3 (plainElem Tryz.prog 4) b r n D left cnt ∧ SetData D zs ∧ L.Nodup ∧ (∀ x, x ∈ L ↔ x ∈ zs ∧ left (.int .i64 x) = false) ∧ L.length + cnt ≤ n

theorem MapAt.range {w : World} {b n : Nat} {zs : List Int} (h : MapAt w b n zs) :
    ∃ w' c, (Instr.range 72 (.map (some b))).run Tryz.prog w = .ok (.pointer (some ⟨w.heap.size, 0, none⟩)) w' ∧ MRange w' b w.heap.size n zs [] c ∧ Kp [] w w' ∧ w'.heap.size = w.heap.size + 1 := by
  obtain ⟨D, h1, h2⟩ := h
  obtain ⟨w', hr, hrg, hg, hs⟩ := h1.range mlaw Tryz.underlying72
  refine ⟨w', _, hr, ⟨D, _, hrg, h2, by simp, fun x => ?_, by simpa using size_le h1⟩, Kp.of_grown0 hg, hs⟩
  rw [h2.has]; simp

theorem MRange.kp {w w' : World} {b r n cnt : Nat} {zs M : List Int} {L : List Nat} (h : MRange w b r n zs M cnt) (k : Kp L w w') (hb : b ∉ L) (hr : r ∉ L) : MRange w' b r n zs M cnt := by
  obtain ⟨D, left, h1, h2⟩ := h
  have l1 := h1.owns.lt
  have l2 := h1.lt
  obtain ⟨es, clock, since, seen, c0, hb', F, hs, hD, hr', rest⟩ := h1
  exact ⟨D, left, ⟨es, clock, since, seen, c0, (k.block b l1 hb).trans hb', F, hs, hD, (k.block r l2 hr).trans hr', rest⟩, h2⟩

theorem MRange.map {w : World} {b r n cnt : Nat} {zs M : List Int} (h : MRange w b r n zs M cnt) : MapAt w b n zs := by
  obtain ⟨D, left, h1, h2, _⟩ := h
  exact ⟨D, h1.owns, h2⟩

theorem MRange.left {w : World} {b r n cnt : Nat} {zs M : List Int} (h : MRange w b r n zs M cnt) : w.rangeLeft b r = cnt := by
  obtain ⟨D, left, h1, _⟩ := h
  exact h1.left_eq

theorem MRange.next {w : World} {b r n cnt : Nat} {zs M : List Int} (h : MRange w b r n zs M cnt) (ty : TypeId) :
    ((∀ x, x ∈ M ↔ x ∈ zs) ∧ M.Nodup ∧ (Instr.next (.pointer (some ⟨r, 0, none⟩)) false ty).run Tryz.prog w = .ok (.tuple #[.bool false]) w) ∨
    ∃ x w' cnt', (Instr.next (.pointer (some ⟨r, 0, none⟩)) false ty).run Tryz.prog w = .ok (.tuple #[.bool true, .int .i64 x, .bool true]) w' ∧ (Instr.entry (.pointer (some ⟨r, 0, none⟩))).run Tryz.prog w' = .ok (.tuple #[.int .i64 x, .bool true]) w' ∧
      MRange w' b r n zs (M ++ [x]) cnt' ∧ cnt' < cnt ∧ Kp [r] w w' ∧ idIn x ∧ M.length + 1 ≤ n := by
  obtain ⟨D, left, h1, h2, hd, hm, hc⟩ := h
  rcases h1.next mlaw ty with ⟨_, hl, hrun⟩ | ⟨key, v, kl, y, w', cnt', hkey, hlk, hv, hat, hrun, hrg, hlt, hgr, hsz, hen⟩
  · exact .inl ⟨fun x => by rw [hm]; simp [hl], hd, hrun⟩
  · obtain ⟨x, rfl, rfl, hwx⟩ := Maps.keyOf_int_inv Tryz.underlying3 hkey
    have hxz : x ∈ zs := by
      apply Classical.byContradiction
      intro e
      have e1 := hat (.lit (.bool true))
      have e2 := hat (.lit (.bool false))
      rw [h2.2.1, if_neg e] at e1 e2
      rw [← e1] at e2
      simp at e2
    have hvt : v = .bool true := by
      have e1 := hat (.lit (.bool false))
      rw [h2.2.1, if_pos hxz] at e1
      cases v <;> simp [plainElem, Tryz.underlying4] at hv
      rw [← hv] at e1
      simp at e1
      rw [e1]
    subst hvt
    refine .inr ⟨x, w', cnt', hrun, hen, ⟨D, _, hrg, h2, ?_, fun z => ?_, by simp; omega⟩, hlt, Kp.of_grown hgr, h2.2.2 x hxz, by omega⟩
    · rw [List.nodup_append]
      refine ⟨hd, by simp, fun a ha c hcx => ?_⟩
      simp at hcx
      subst hcx
      intro e
      subst e
      have := ((hm _).1 ha).2
      rw [hlk] at this
      cases this
    · by_cases e : z = x
      · subst e
        simp [hxz, WideAt.sameKey_self (a := .int .i64 z) trivial]
      · simp [hm, e, sameKey_ne (a := Lit.int .i64 z) (b := Lit.int .i64 x) (by simpa using e)]

end Go.Proofs.Qxb6500745aGreatDoor
