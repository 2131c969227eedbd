import Derived.Test.Qxb6500745aGreatDoorMach4
import Derived.Test.Qxb6500745aGreatDoorSd1
import Derived.Test.Qxb6500745aGreatDoorSd2
import Derived.Test.Qxb6500745aGreatDoorSd3
import Derived.Test.Qxb6500745aGreatDoorSd4
import Derived.Test.Qxb6500745aGreatDoorSd5
import Derived.Test.Qxb6500745aGreatDoorSd6
import Derived.Test.Qxb6500745aGreatDoorSd7
import Derived.Test.Qxb6500745aGreatDoorSd8
import Derived.Test.Qxb6500745aGreatDoorSs1
import Derived.Test.Qxb6500745aGreatDoorSs2
import Derived.Test.Qxb6500745aGreatDoorSs3
import Derived.Test.Qxb6500745aGreatDoorSs4
import Derived.Test.Qxb6500745aGreatDoorSs5
namespace Go.Proofs.Qxb6500745aGreatDoor
open Go.RowKit

def BadOp (k v u : Int) (zs : List Int) (A B : DomV) (n : Nat) : Prop :=
  ((k = 0 ∨ k = 1) ∧ badW v) ∨ (k = 2 ∧ (badW v ∨ ∃ x ∈ zs, ¬ (0 ≤ x ∧ x < v))) ∨ ((k = 3 ∨ k = 4 ∨ k = 5 ∨ k = 9 ∨ k = 10 ∨ k = 16) ∧ outR A v) ∨ (k = 15 ∧ (outR A v ∨ outR A u)) ∨
  ((18 ≤ k ∧ k ≤ 23) ∧ A.width ≠ B.width) ∨ (k = 26 ∧ ∃ x ∈ zs, badID x) ∨ ((k = 27 ∨ k = 28 ∨ k = 29) ∧ badID v) ∨ (k = 31 ∧ (v < 0 ∨ v ≥ n))

theorem PStep.iff {w w' : World} {mb : Nat} {fp : Nat → List Nat} {p q : Prop} {e : Ending} (h : p ↔ q) (s : PStep w mb fp p e w') : PStep w mb fp q e w' := by
  rw [← h]; exact s

theorem stepDom_all {ea : Nat → Addr} {w : World} {mb : Nat} {pt : Nat → Nat} {D : Nat → DomV} {Z : Nat → List Int} {fp : Nat → List Nat} (G : Glob ea w) (M : Mach w mb pt D Z fp) (k a b c v u : Int) (xs : Value) {B : Nat} {zs : List Int} (hx : XsAt B w xs zs) (hB : B ≤ w.heap.size) (hz : zs.length ≤ 65536) (h0 : 0 ≤ k) (h1 : k ≤ 25) :
    Calls Tryz.prog 29 #[bp mb, .agg (opCells k a b c v u xs)] w (PStep w mb fp (BadOp k v u zs (D (regOf a)) (D (regOf b)) (Z (regOf a)).length)) := by
  have hk : k = 0 ∨ k = 1 ∨ k = 2 ∨ k = 3 ∨ k = 4 ∨ k = 5 ∨ k = 6 ∨ k = 7 ∨ k = 8 ∨ k = 9 ∨ k = 10 ∨ k = 11 ∨ k = 12 ∨ k = 13 ∨ k = 14 ∨ k = 15 ∨ k = 16 ∨ k = 17 ∨ k = 18 ∨ k = 19 ∨ k = 20 ∨ k = 21 ∨ k = 22 ∨ k = 23 ∨ k = 24 ∨ k = 25 := by omega
  rcases hk with rfl | rfl | rfl | rfl | rfl | rfl | rfl | rfl | rfl | rfl | rfl | rfl | rfl | rfl | rfl | rfl | rfl | rfl | rfl | rfl | rfl | rfl | rfl | rfl | rfl | rfl
  · exact (stepDom_0 G M a b c v u xs).mono (fun _ _ => PStep.iff (by simp [BadOp]))
  · exact (stepDom_1 G M a b c v u xs).mono (fun _ _ => PStep.iff (by simp [BadOp]))
  · exact (stepDom_2 G M a b c v u xs hx hB hz).mono (fun _ _ => PStep.iff (by simp [BadOp]))
  · exact (stepDom_3 G M a b c v u xs).mono (fun _ _ => PStep.iff (by simp [BadOp]))
  · exact (stepDom_4 G M a b c v u xs).mono (fun _ _ => PStep.iff (by simp [BadOp]))
  · exact (stepDom_5 G M a b c v u xs).mono (fun _ _ => PStep.iff (by simp [BadOp]))
  · exact (stepDom_6 G M a b c v u xs).mono (fun _ _ => PStep.iff (by simp [BadOp]))
  · exact (stepDom_7 G M a b c v u xs).mono (fun _ _ => PStep.iff (by simp [BadOp]))
  · exact (stepDom_8 G M a b c v u xs).mono (fun _ _ => PStep.iff (by simp [BadOp]))
  · exact (stepDom_9 G M a b c v u xs).mono (fun _ _ => PStep.iff (by simp [BadOp]))
  · exact (stepDom_10 G M a b c v u xs).mono (fun _ _ => PStep.iff (by simp [BadOp]))
  · exact (stepDom_11 G M a b c v u xs).mono (fun _ _ => PStep.iff (by simp [BadOp]))
  · exact (stepDom_12 G M a b c v u xs).mono (fun _ _ => PStep.iff (by simp [BadOp]))
  · exact (stepDom_13 G M a b c v u xs).mono (fun _ _ => PStep.iff (by simp [BadOp]))
  · exact (stepDom_14 G M a b c v u xs).mono (fun _ _ => PStep.iff (by simp [BadOp]))
  · exact (stepDom_15 G M a b c v u xs).mono (fun _ _ => PStep.iff (by simp [BadOp]))
  · exact (stepDom_16 G M a b c v u xs).mono (fun _ _ => PStep.iff (by simp [BadOp]))
  · exact (stepDom_17 G M a b c v u xs).mono (fun _ _ => PStep.iff (by simp [BadOp]))
  · exact (stepDom_18 G M a b c v u xs).mono (fun _ _ => PStep.iff (by simp [BadOp]))
  · exact (stepDom_19 G M a b c v u xs).mono (fun _ _ => PStep.iff (by simp [BadOp]))
  · exact (stepDom_20 G M a b c v u xs).mono (fun _ _ => PStep.iff (by simp [BadOp]))
  · exact (stepDom_21 G M a b c v u xs).mono (fun _ _ => PStep.iff (by simp [BadOp]))
  · exact (stepDom_22 G M a b c v u xs).mono (fun _ _ => PStep.iff (by simp [BadOp]))
  · exact (stepDom_23 G M a b c v u xs).mono (fun _ _ => PStep.iff (by simp [BadOp]))
  · exact (stepDom_24 G M a b c v u xs).mono (fun _ _ => PStep.iff (by simp [BadOp]))
  · exact (stepDom_25 G M a b c v u xs).mono (fun _ _ => PStep.iff (by simp [BadOp]))

theorem stepSet_all {ea : Nat → Addr} {w : World} {mb : Nat} {pt : Nat → Nat} {D : Nat → DomV} {Z : Nat → List Int} {fp : Nat → List Nat} (G : Glob ea w) (M : Mach w mb pt D Z fp) (k a b c v u : Int) (xs : Value) {B : Nat} {zs : List Int} (hx : XsAt B w xs zs) (hB : B ≤ w.heap.size) (hz : zs.length ≤ 65536) (h0 : 26 ≤ k) (h1 : k ≤ 45) :
    Calls Tryz.prog 31 #[bp mb, .agg (opCells k a b c v u xs)] w (PStep w mb fp (BadOp k v u zs (D (regOf a)) (D (regOf b)) (Z (regOf a)).length)) := by
  have hk : k = 26 ∨ k = 27 ∨ k = 28 ∨ k = 29 ∨ k = 30 ∨ k = 31 ∨ k = 32 ∨ k = 33 ∨ k = 34 ∨ k = 35 ∨ k = 36 ∨ k = 37 ∨ k = 38 ∨ k = 39 ∨ k = 40 ∨ k = 41 ∨ k = 42 ∨ k = 43 ∨ k = 44 ∨ k = 45 := by omega
  rcases hk with rfl | rfl | rfl | rfl | rfl | rfl | rfl | rfl | rfl | rfl | rfl | rfl | rfl | rfl | rfl | rfl | rfl | rfl | rfl | rfl
  · exact (stepSet_26 G M a b c v u xs hx hB hz).mono (fun _ _ => PStep.iff (by simp [BadOp]))
  · exact (stepSet_27 G M a b c v u xs).mono (fun _ _ => PStep.iff (by simp [BadOp]))
  · exact (stepSet_28 G M a b c v u xs).mono (fun _ _ => PStep.iff (by simp [BadOp]))
  · exact (stepSet_29 G M a b c v u xs).mono (fun _ _ => PStep.iff (by simp [BadOp]))
  · exact (stepSet_30 G M a b c v u xs).mono (fun _ _ => PStep.iff (by simp [BadOp]))
  · exact (stepSet_31 G M a b c v u xs).mono (fun _ _ => PStep.iff (by simp [BadOp]))
  · exact (stepSet_32 G M a b c v u xs).mono (fun _ _ => PStep.iff (by simp [BadOp]))
  · exact (stepSet_33 G M a b c v u xs).mono (fun _ _ => PStep.iff (by simp [BadOp]))
  · exact (stepSet_34 G M a b c v u xs).mono (fun _ _ => PStep.iff (by simp [BadOp]))
  · exact (stepSet_35 G M a b c v u xs).mono (fun _ _ => PStep.iff (by simp [BadOp]))
  · exact (stepSet_36 G M a b c v u xs).mono (fun _ _ => PStep.iff (by simp [BadOp]))
  · exact (stepSet_37 G M a b c v u xs).mono (fun _ _ => PStep.iff (by simp [BadOp]))
  · exact (stepSet_38 G M a b c v u xs).mono (fun _ _ => PStep.iff (by simp [BadOp]))
  · exact (stepSet_39 G M a b c v u xs).mono (fun _ _ => PStep.iff (by simp [BadOp]))
  · exact (stepSet_40 G M a b c v u xs).mono (fun _ _ => PStep.iff (by simp [BadOp]))
  · exact (stepSet_41 G M a b c v u xs).mono (fun _ _ => PStep.iff (by simp [BadOp]))
  · exact (stepSet_42 G M a b c v u xs).mono (fun _ _ => PStep.iff (by simp [BadOp]))
  · exact (stepSet_43 G M a b c v u xs).mono (fun _ _ => PStep.iff (by simp [BadOp]))
  · exact (stepSet_44 G M a b c v u xs).mono (fun _ _ => PStep.iff (by simp [BadOp]))
  · exact (stepSet_45 G M a b c v u xs).mono (fun _ _ => PStep.iff (by simp [BadOp]))

end Go.Proofs.Qxb6500745aGreatDoor
