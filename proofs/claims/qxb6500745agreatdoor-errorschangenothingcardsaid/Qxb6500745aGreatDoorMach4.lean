import Derived.Test.Qxb6500745aGreatDoorMach3
namespace Go.Proofs.Qxb6500745aGreatDoor
open Go.RowKit

set_option maxHeartbeats 400000 in
theorem isDom_any (k : Int) (w : World) :
    Calls Tryz.prog 28 #[.int .i64 k] w fun e w' => e = .returned (.bool (decide (0 ≤ k ∧ k ≤ 25))) ∧ w' = w := by
  by_cases h0 : 0 ≤ k
  · go_enter Tryz.func28, Tryz.ntmps28
    go_wp2_with fail
    go_ret
    exact ⟨by simp [h0], rfl⟩
  · go_enter Tryz.func28, Tryz.ntmps28
    go_wp2_with fail
    go_ret
    exact ⟨by simp; omega, rfl⟩

set_option maxHeartbeats 400000 in
theorem isSet_any (k : Int) (w : World) :
    Calls Tryz.prog 30 #[.int .i64 k] w fun e w' => e = .returned (.bool (decide (26 ≤ k ∧ k ≤ 45))) ∧ w' = w := by
  by_cases h0 : 26 ≤ k
  · go_enter Tryz.func30, Tryz.ntmps30
    go_wp2_with fail
    go_ret
    exact ⟨by simp [h0], rfl⟩
  · go_enter Tryz.func30, Tryz.ntmps30
    go_wp2_with fail
    go_ret
    exact ⟨by simp; omega, rfl⟩

def nmCells (S i : Nat) : Array Value := #[if 0 < i then bp (S + 1) else .pointer none, if 1 < i then bp (S + 1 + 1) else .pointer none, if 2 < i then bp (S + 1 + 2) else .pointer none, if 3 < i then bp (S + 1 + 3) else .pointer none, if 4 < i then bp (S + 1 + 4) else .pointer none, if 5 < i then bp (S + 1 + 5) else .pointer none, if 6 < i then bp (S + 1 + 6) else .pointer none, if 7 < i then bp (S + 1 + 7) else .pointer none]

theorem nmCells_set (S i : Nat) (h : i < 8) : (nmCells S i).setIfInBounds i (bp (S + 1 + i)) = nmCells S (i + 1) := by
  match i, h with
  | 0, _ | 1, _ | 2, _ | 3, _ | 4, _ | 5, _ | 6, _ | 7, _ => rfl

theorem nmCells_get (S i j : Nat) (h : j < 8) : ∃ v, (nmCells S i)[j]? = some v := by
  match j, h with
  | 0, _ | 1, _ | 2, _ | 3, _ | 4, _ | 5, _ | 6, _ | 7, _ => exact ⟨_, rfl⟩

structure NM (w : World) (S i : Nat) (wr : World) : Prop where
  size : wr.heap.size = S + 1 + i
  blk : Blk wr S 48 (nmCells S i)
  dom : ∀ j, j < i → j < 4 → Blk wr (S + 1 + j) 60 #[.int .i64 0, .int .i64 0, .slice none 0 0]
  set : ∀ j, j < i → 4 ≤ j → Blk wr (S + 1 + j) 62 #[.slice none 0 0]
  kp : Kp [] w wr

theorem NM.dstep {w wr : World} {S i : Nat} (h : NM w S i wr) (hS : S = w.heap.size) (hi : i < 4) : NM w S (i + 1) ((wr.alloc (.cells #[.int .i64 0, .int .i64 0, .slice none 0 0] 60)).setCell ⟨S, i, none⟩ (bp wr.heap.size)) where
  size := by have := h.size; simp [World.setCell]; omega
  blk := by rw [← nmCells_set S i (by omega), h.size]; exact (h.blk.alloc _).set i _
  dom := fun j hj h4 => by
    by_cases e : j = i
    · subst e
      have := Blk.new wr 60 #[.int .i64 0, .int .i64 0, .slice none 0 0]
      rw [h.size] at this ⊢
      exact this.other (p := ⟨S, j, none⟩) (by show _ ≠ S; omega) _
    · exact ((h.dom j (by omega) h4).alloc _).other (p := ⟨S, i, none⟩) (by show _ ≠ S; omega) _
  set := fun j hj h4 => by omega
  kp := (h.kp.alloc _).setCell (p := ⟨S, i, none⟩) (fun hl => by simp at hl; omega) _

theorem NM.sstep {w wr : World} {S i : Nat} (h : NM w S i wr) (hS : S = w.heap.size) (hi : 4 ≤ i) (hi8 : i < 8) : NM w S (i + 1) ((wr.alloc (.cells #[.slice none 0 0] 62)).setCell ⟨S, i, none⟩ (bp wr.heap.size)) where
  size := by have := h.size; simp [World.setCell]; omega
  blk := by rw [← nmCells_set S i (by omega), h.size]; exact (h.blk.alloc _).set i _
  dom := fun j hj h4 => ((h.dom j (by omega) h4).alloc _).other (p := ⟨S, i, none⟩) (by show _ ≠ S; omega) _
  set := fun j hj h4 => by
    by_cases e : j = i
    · subst e
      have := Blk.new wr 62 #[.slice none 0 0]
      rw [h.size] at this ⊢
      exact this.other (p := ⟨S, j, none⟩) (by show _ ≠ S; omega) _
    · exact ((h.set j (by omega) h4).alloc _).other (p := ⟨S, i, none⟩) (by show _ ≠ S; omega) _
  kp := (h.kp.alloc _).setCell (p := ⟨S, i, none⟩) (fun hl => by simp at hl; omega) _

theorem NM.mach {w wr : World} {S : Nat} (h : NM w S 8 wr) (hS : S = w.heap.size) (h8 : 8 ≤ w.heap.size) : Mach wr S (fun i => S + 1 + i) (fun _ => ⟨0, 0, []⟩) (fun _ => []) (fun i => [S + 1 + i]) where
  ge := by omega
  blk := h.blk
  dom := fun i hi => ⟨⟨_, [], h.dom i (by omega) hi, .inl ⟨rfl, rfl, rfl⟩, rfl, by simp, by simp; omega⟩, ⟨by simp, by simp, by simp, by simp [pcs]⟩⟩
  set := fun i hi => ⟨by
    have := h.set (i + 4) (by omega) (by omega)
    exact SetAt.mk this (.inl ⟨rfl, rfl, rfl⟩) (by simp) (by simp; omega), ⟨by simp, by simp⟩⟩
  apart := fun i j hi hj hij x hx hy => by simp at hx hy; omega
  off := fun i hi => by simp; omega

set_option maxRecDepth 100000 in
set_option maxHeartbeats 4000000 in
theorem newMachine_core (w : World) (hs : 8 ≤ w.heap.size) :
    Calls Tryz.prog 7 #[] w fun e w' => ∃ mb pt D Z fp, e = .returned (bp mb) ∧ Mach w' mb pt D Z fp ∧ w.heap.size ≤ mb ∧ (∀ i, i < 8 → ∀ x ∈ fp i, w.heap.size ≤ x) ∧ Kp [] w w' := by
  go_enter Tryz.func7, Tryz.ntmps7
  go_wp2_with fail
  have n0 : NM w w.heap.size 0 (w.alloc (.cells (nmCells w.heap.size 0) 48)) := ⟨by simp, Blk.new w 48 _, fun j hj => by omega, fun j hj => by omega, (Kp.refl _ _).alloc _⟩
  obtain ⟨S, hS⟩ : ∃ S, S = w.heap.size := ⟨_, rfl⟩
  rw [← hS] at n0
  have HS : Hid (S = w.heap.size) := hS
  have H8 : Hid (8 ≤ w.heap.size) := hs
  rw [← hS]
  clear hS hs
  simp only [nmCells, Nat.lt_irrefl, Nat.not_lt_zero, ↓reduceIte] at n0
  generalize w.alloc (Obj.cells #[Value.pointer none, Value.pointer none, Value.pointer none, Value.pointer none, Value.pointer none, Value.pointer none, Value.pointer none, Value.pointer none] 48) = W0 at *
  go_loopw [6] (fun s wr => ∃ i : Nat, s = .int .i64 i ∧ i ≤ 4 ∧ NM w S i wr) (fun s _ => 4 - (intOf s).toNat)
  case atStart => exact ⟨0, rfl, by omega, n0⟩
  case round =>
    obtain ⟨i, rfl, hi, nm⟩ := hrel
    clear n0
    by_cases hi4 : i < 4
    · obtain ⟨v0, hv0⟩ := nmCells_get S i i (by omega)
      have y1 := (nm.blk.alloc (.cells #[.int .i64 0, .int .i64 0, .slice none 0 0] 60)).cell i
      have y2 := (nm.blk.alloc (.cells #[.int .i64 0, .int .i64 0, .slice none 0 0] 60)).frozen i
      rw [hv0] at y1
      have HNM : Hid (NM w S i wr) := nm
      clear nm hv0
      go_wp2_with fail
      go_roundw
      case rel => exact ⟨i + 1, by go_num, by omega, HNM.out.dstep HS.out hi4⟩
      case measure => simp [intOf]; omega
    · have h4 : i = 4 := by omega
      subst h4
      have HNM : Hid (NM w S 4 wr) := nm
      clear nm
      go_wp2_with fail
      go_loopw [17] (fun s wr => ∃ i : Nat, s = .int .i64 i ∧ i ≤ 4 ∧ NM w S (4 + i) wr) (fun s _ => 4 - (intOf s).toNat)
      case atStart => exact ⟨0, rfl, by omega, HNM.out⟩
      case round =>
        obtain ⟨i, rfl, hi, nm⟩ := hrel
        clear HNM
        by_cases hi4 : i < 4
        · obtain ⟨v0, hv0⟩ := nmCells_get S (4 + i) (4 + i) (by omega)
          have y1 := (nm.blk.alloc (.cells #[.slice none 0 0] 62)).cell (4 + i)
          have y2 := (nm.blk.alloc (.cells #[.slice none 0 0] 62)).frozen (4 + i)
          rw [hv0] at y1
          have HNM : Hid (NM w S (4 + i) wr) := nm
          clear nm hv0
          go_wp2_with fail
          go_roundw
          case rel => exact ⟨i + 1, by go_num, by omega, HNM.out.sstep HS.out (by omega) (by omega)⟩
          case measure => simp [intOf]; omega
        · have h4 : i = 4 := by omega
          subst h4
          have HNM : Hid (NM w S 8 wr) := nm
          clear nm
          go_wp2_with fail
          go_ret
          exact ⟨S, _, _, _, _, rfl, HNM.out.mach HS.out H8.out, by rw [HS.out]; exact Nat.le_refl _, fun i hi x hx => by have := HS.out; simp at hx; omega, HNM.out.kp⟩

end Go.Proofs.Qxb6500745aGreatDoor
