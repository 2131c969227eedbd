import Derived.Test.Qxb6500745aGreatDoorProg
import Derived.WalkKit
import Derived.WalkSpells
import Derived.WalkLawsBesides
import Derived.Deep.Draws
import Derived.Laws.IdiomCopy
namespace Go.Proofs.Qxb6500745aGreatDoor
open Go.RowKit

structure Kp (L : List Nat) (w w' : World) : Prop where
  os : w'.os = w.os
  tape : w'.tape = w.tape
  output : w'.output = w.output
  size : w.heap.size ≤ w'.heap.size
  block : ∀ k, k < w.heap.size → k ∉ L → w'.heap[k]? = w.heap[k]?

theorem Kp.refl (L : List Nat) (w : World) : Kp L w w := ⟨rfl, rfl, rfl, Nat.le_refl _, fun _ _ _ => rfl⟩

theorem Kp.trans {L L' M : List Nat} {a b c : World} (h : Kp L a b) (k : Kp L' b c) (h1 : ∀ x ∈ L, x < a.heap.size → x ∈ M) (h2 : ∀ x ∈ L', x < a.heap.size → x ∈ M) : Kp M a c :=
  ⟨k.os.trans h.os, k.tape.trans h.tape, k.output.trans h.output, Nat.le_trans h.size k.size, fun i hi hM =>
    (k.block i (Nat.lt_of_lt_of_le hi h.size) (fun e => hM (h2 i e hi))).trans (h.block i hi (fun e => hM (h1 i e hi)))⟩

theorem Kp.step {L : List Nat} {a b c : World} (h : Kp L a b) (k : Kp L b c) : Kp L a c := h.trans k (fun _ h _ => h) (fun _ h _ => h)

theorem Kp.mono {L M : List Nat} {a b : World} (h : Kp L a b) (h1 : ∀ x ∈ L, x < a.heap.size → x ∈ M) : Kp M a b :=
  ⟨h.os, h.tape, h.output, h.size, fun i hi hM => h.block i hi (fun e => hM (h1 i e hi))⟩

theorem Kp.nil {M : List Nat} {a b : World} (h : Kp [] a b) : Kp M a b := h.mono (fun _ h => by cases h)

theorem Kp.drew {L : List Nat} {a b : World} (h : Kp L a b) : Kp L a b.drew := ⟨h.os, h.tape, h.output, h.size, h.block⟩
theorem Kp.drewN {L : List Nat} {a b : World} (h : Kp L a b) (q : Nat) : Kp L a (b.drewN q) := ⟨h.os, h.tape, h.output, h.size, h.block⟩

theorem Kp.alloc {L : List Nat} {a b : World} (h : Kp L a b) (o : Obj) : Kp L a (b.alloc o) :=
  ⟨h.os, h.tape, h.output, by have := h.size; simp; omega, fun k hk hL => (Below.heap_alloc b o k (Nat.lt_of_lt_of_le hk h.size)).trans (h.block k hk hL)⟩

theorem Kp.setCell {L : List Nat} {a b : World} (h : Kp L a b) {p : Addr} (hp : p.block < a.heap.size → p.block ∈ L) (u : Value) : Kp L a (b.setCell p u) :=
  ⟨h.os, h.tape, h.output, by simpa [World.setCell] using h.size, fun k hk hL => (Below.heap_setCell b p u k (fun e => hL (by subst e; exact hp hk))).trans (h.block k hk hL)⟩

theorem Kp.setCells {L : List Nat} {a : World} {p : Nat} (hp : p < a.heap.size → p ∈ L) : ∀ (vs : List Value) (b : World) (o : Nat), Kp L a b → Kp L a (b.setCells p o vs)
  | [], _, _, h => h
  | v :: vs, b, o, h => Kp.setCells hp vs (b.setCell ⟨p, o, none⟩ v) (o + 1) (h.setCell (p := ⟨p, o, none⟩) hp v)

theorem Kp.of_below {a b : World} (h : Below a.heap.size a b) (L : List Nat) : Kp L a b :=
  ⟨h.os, h.tape, h.output, h.size, fun k hk _ => h.block k hk⟩

theorem Kp.below {L : List Nat} {a b : World} {B : Nat} (h : Kp L a b) (hL : ∀ x ∈ L, B ≤ x) (hB : B ≤ a.heap.size) : Below B a b :=
  ⟨h.os, h.tape, h.output, h.size, fun k hk => h.block k (by omega) (fun e => by have := hL k e; omega)⟩

theorem Kp.cell {L : List Nat} {a b : World} (h : Kp L a b) {p : Addr} (hp : p.block < a.heap.size) (hL : p.block ∉ L) : b.cell? p = a.cell? p :=
  World.cell?_of_block (h.block p.block hp hL)
theorem Kp.frozen {L : List Nat} {a b : World} (h : Kp L a b) {p : Addr} (hp : p.block < a.heap.size) (hL : p.block ∉ L) : b.frozen? p = a.frozen? p :=
  World.frozen?_of_block (h.block p.block hp hL)

def Blk (w : World) (b : Nat) (T : TypeId) (vs : Array Value) : Prop := w.heap[b]? = some (.cells vs T (0, 0))

theorem Blk.lt {w : World} {b : Nat} {T : TypeId} {vs : Array Value} (h : Blk w b T vs) : b < w.heap.size := (Array.getElem?_eq_some_iff.1 h).1
theorem Blk.cell {w : World} {b : Nat} {T : TypeId} {vs : Array Value} (h : Blk w b T vs) (i : Nat) : w.cell? ⟨b, i, none⟩ = vs[i]? := by
  unfold Blk at h; simp [World.cell?, h]
theorem Blk.frozen {w : World} {b : Nat} {T : TypeId} {vs : Array Value} (h : Blk w b T vs) (i : Nat) : w.frozen? ⟨b, i, none⟩ = false := by
  unfold Blk at h; simp [World.frozen?, h]
theorem Blk.shape {w : World} {b : Nat} {T : TypeId} {vs : Array Value} (h : Blk w b T vs) : w.shape? b = some (T, vs.size) := by
  unfold Blk at h; simp [World.shape?, h]
theorem Blk.kp {w w' : World} {b : Nat} {T : TypeId} {vs : Array Value} {L : List Nat} (h : Blk w b T vs) (k : Kp L w w') (hb : b ∉ L) : Blk w' b T vs :=
  (k.block b h.lt hb).trans h
theorem Blk.drew {w : World} {b : Nat} {T : TypeId} {vs : Array Value} (h : Blk w b T vs) : Blk w.drew b T vs := h
theorem Blk.drewN {w : World} {b : Nat} {T : TypeId} {vs : Array Value} (h : Blk w b T vs) (q : Nat) : Blk (w.drewN q) b T vs := h
theorem Blk.alloc {w : World} {b : Nat} {T : TypeId} {vs : Array Value} (h : Blk w b T vs) (o : Obj) : Blk (w.alloc o) b T vs :=
  (Below.heap_alloc w o b h.lt).trans h
theorem Blk.new (w : World) (T : TypeId) (vs : Array Value) : Blk (w.alloc (.cells vs T)) w.heap.size T vs := heap_alloc_new w _
theorem Blk.set {w : World} {b : Nat} {T : TypeId} {vs : Array Value} (h : Blk w b T vs) (i : Nat) (u : Value) : Blk (w.setCell ⟨b, i, none⟩ u) b T (vs.setIfInBounds i u) := by
  unfold Blk at *; simp [World.setCell, Array.getElem?_modify, h]
theorem Blk.other {w : World} {b : Nat} {T : TypeId} {vs : Array Value} (h : Blk w b T vs) {p : Addr} (hp : b ≠ p.block) (u : Value) : Blk (w.setCell p u) b T vs :=
  (Below.heap_setCell w p u b hp).trans h

theorem Blk.others {b : Nat} {T : TypeId} {vs : Array Value} {p : Nat} (hp : b ≠ p) : ∀ (us : List Value) (w : World) (o : Nat), Blk w b T vs → Blk (w.setCells p o us) b T vs
  | [], _, _, h => h
  | u :: us, w, o, h => Blk.others hp us (w.setCell ⟨p, o, none⟩ u) (o + 1) (h.other (p := ⟨p, o, none⟩) hp u)

def putAll (vs : Array Value) : Nat → List Value → Array Value
  | _, [] => vs
  | o, u :: us => putAll (vs.setIfInBounds o u) (o + 1) us

theorem putAll_size : ∀ (us : List Value) (vs : Array Value) (o : Nat), (putAll vs o us).size = vs.size
  | [], _, _ => rfl
  | u :: us, vs, o => by simp [putAll, putAll_size us]

theorem putAll_at : ∀ (us : List Value) (vs : Array Value) (o j : Nat), j < vs.size → (putAll vs o us)[j]? = if o ≤ j ∧ j < o + us.length then us[j - o]? else vs[j]?
  | [], vs, o, j, _ => by simp [putAll]; omega
  | u :: us, vs, o, j, h => by
    rw [putAll, putAll_at us _ (o + 1) j (by simpa using h)]
    by_cases h1 : o + 1 ≤ j ∧ j < o + 1 + us.length
    · rw [if_pos h1, if_pos (by simp; omega)]
      have : j - o = (j - (o + 1)) + 1 := by omega
      rw [this]; simp
    · rw [if_neg h1]
      by_cases h2 : j = o
      · subst h2; simp [h]
      · rw [if_neg (by simp; omega)]
        rw [Array.getElem?_setIfInBounds_ne (by omega)]

theorem Blk.puts {b : Nat} {T : TypeId} : ∀ (us : List Value) (w : World) (o : Nat) (vs : Array Value), Blk w b T vs → Blk (w.setCells b o us) b T (putAll vs o us)
  | [], _, _, _, h => h
  | u :: us, w, o, _, h => Blk.puts us (w.setCell ⟨b, o, none⟩ u) (o + 1) _ (h.set o u)

end Go.Proofs.Qxb6500745aGreatDoor
