import Derived.Test.Qxb6500745aGreatDoorMap0
import Derived.OwnWalk
namespace Go.Proofs.Qxb6500745aGreatDoor
open Go.RowKit Go.Maps

theorem Kp.grown {w w' : World} {b : Nat} (h : Kp [b] w w') : w.grownBy w' (some b) :=
  ⟨h.os, h.tape, h.output, h.size, fun k hk hn => h.block k hk (fun e => hn (by simp at e; simp [e]))⟩

theorem mrow_ne {w : World} {B : Nat} {v : Value} {n : Nat} {xs : List Value} (h : w.ownsRow B 3 1 v n xs) {r : Nat} (hr : r < B) : v.ownBlock ≠ some r := fun e => by
  have := (h.lt r e).1; omega

theorem minfo3 : (Tryz.prog.info? 3).map (fun i => (i.zero, i.size, i.bytes)) = some (some (.int .i64 0), 1, 8) := by kernel_rfl

theorem MRange.lt {w : World} {b r n cnt : Nat} {zs M : List Int} (h : MRange w b r n zs M cnt) : r < w.heap.size := by
  obtain ⟨D, left, h1, _⟩ := h
  exact h1.lt

theorem MRange.grown {w w' : World} {row : Option Nat} {b r n cnt : Nat} {zs M : List Int} (h : MRange w b r n zs M cnt) (hg : w.grownBy w' row) (hb : some b ≠ row) (hr : some r ≠ row) : MRange w' b r n zs M cnt := by
  obtain ⟨D, left, h1, h2⟩ := h
  exact ⟨D, left, h1.kept hg hb hr, h2⟩

structure SI (w : World) (b n : Nat) (zs : List Int) (B : Nat) (M : List Int) (cnt : Nat) (v : Value) (wr : World) : Prop where
  rg : MRange wr b B n zs M cnt
  row : wr.ownsRow (B + 1) 3 1 v M.length (M.map (Value.int .i64))
  kp : Kp [] w wr

def PSorted (w : World) (n : Nat) (zs : List Int) (e : Ending) (w' : World) : Prop :=
  ∃ (v : Value) (L : List Int), e = .returned v ∧ w'.ownsRow (w.heap.size + 1) 3 1 v L.length (L.map (Value.int .i64)) ∧ L.length ≤ n ∧ L.Nodup ∧ L.Pairwise (· ≤ ·) ∧ (∀ x, x ∈ L ↔ x ∈ zs) ∧ Kp [] w w'

def SortC (B : Nat) : Prop := ∀ (v : Value) (L : List Int) (W : World), W.ownsRow B 3 1 v L.length (L.map (Value.int .i64)) → L.length ≤ 1099511627776 → B ≤ W.heap.size →
  Calls Tryz.prog 97 #[v] W fun e w' => e = .returned (.tuple #[]) ∧ ∃ (L' : List Int) (f : List Nat), L'.Perm L ∧ L'.Pairwise (· ≤ ·) ∧ w'.ownsRow B 3 1 v L'.length (L'.map (Value.int .i64)) ∧ Kp f W w' ∧ ∀ x ∈ f, B ≤ x

set_option maxRecDepth 100000 in
set_option maxHeartbeats 2000000 in
theorem sorted47 {w : World} {b n : Nat} {zs : List Int} (h : MapAt w b n zs) (hn : n ≤ 1099511627776) (hs : ∀ B, SortC B) : Calls Tryz.prog 47 #[.map (some b)] w (PSorted w n zs) := by
  obtain ⟨i0, hi, hz0, hz1, hz2⟩ := info_parts minfo3
  obtain ⟨w0, c0, hrun, hrg, hk0, hs0⟩ := h.range
  have hbl := h.lt
  clear h
  obtain ⟨B, hB⟩ : ∃ B, B = w.heap.size := ⟨_, rfl⟩
  rw [← hB] at hrun hrg hs0 hbl
  have HB : Hid (B = w.heap.size) := hB
  have HK : Hid (Kp [] w w0) := hk0
  have HR : Hid (MRange w0 b B n zs [] c0) := hrg
  have HZ : Hid (w0.heap.size = B + 1) := hs0
  clear hB hk0 hrg hs0
  go_enter Tryz.func47, Tryz.ntmps47
  go_wp2_with fail
  go_loopw [3] (fun s wr => ∃ M cnt, SI w b n zs B M cnt s wr) (fun _ wr => wr.rangeLeft b B)
  case atStart => exact ⟨[], c0, HR.out, by simpa using World.ownsRow_nil w0 (B + 1) 3 1, HK.out⟩
  case round =>
    obtain ⟨M, cnt, si⟩ := hrel
    have HSI : Hid (SI w b n zs B M cnt u3 wr) := si
    rcases si.rg.next 0 with ⟨hall, hnd, hnx⟩ | ⟨x, w1, cnt1, hnx, hen, hrg1, hlt, hk1, hid, hM⟩
    · have hsort := hs (B + 1) u3 M wr si.row (by have := si.rg; obtain ⟨D, left, _, _, _, _, hc⟩ := this; omega) (by have := si.rg.lt; omega)
      have HA : Hid ((∀ x, x ∈ M ↔ x ∈ zs) ∧ M.Nodup) := ⟨hall, hnd⟩
      clear hall hnd si hs
      go_wp2_with fail
      refine hsort.mono ?_
      rintro e w2 ⟨rfl, L, f, hp, hle, hrow, hkf, hf⟩
      clear hsort hnx
      go_wp2_with fail
      go_ret
      refine ⟨u3, L, rfl, by rw [← HB.out]; exact hrow, by rw [hp.length_eq]; have := HSI.out.rg; obtain ⟨D, left, _, _, _, _, hc⟩ := this; omega, hp.nodup_iff.2 HA.out.2, hle, fun x => hp.mem_iff.trans (HA.out.1 x), HSI.out.kp.trans hkf (by simp) (fun x hx hl => by have := hf x hx; have := HB.out; omega)⟩
    · have hrow1 : w1.ownsRow (B + 1) 3 1 u3 M.length (M.map (Value.int .i64)) := si.row.kept hk1.grown (.inr (mrow_ne si.row (by omega)))
      have HRG1 : Hid (MRange w1 b B n zs (M ++ [x]) cnt1) := hrg1
      have HK1 : Hid (Kp [B] wr w1) := hk1
      have HL : Hid (cnt1 < cnt ∧ B + 1 ≤ w1.heap.size ∧ B = w.heap.size) := ⟨hlt, by have := hk1.size; have := si.rg.lt; omega, HB.out⟩
      clear hs hrg1 hk1 hlt si HB
      have hb1 := HL.out.2.1
      go_wp2_with (at_builtin; refine wpList_append_own _ rfl _ _ 27 rfl (B + 1) 3 i0 (.int .i64 0) 1 8 Tryz.underlying27 hi hz0 hz1 hz2 rfl (by decide) _ _ _ rfl (hrow1.alloc _) ⟨w1.heap.size, 0, none⟩ 1 1 [.int .i64 x] rfl rfl (cell_one_new _ _ _) (by simp [Value.oneCell']) (by simp [maxLen]; omega) (by omega) (by simp; omega) ?_; intro v' w2 hown2 hgrow _)
      go_roundw
      case rel =>
        have hne : ∀ r, r < B + 1 → some r ≠ u3.ownBlock := fun r hr e => mrow_ne hrow1 hr e.symm
        have hrg2 := (HRG1.out.grown (World.grownBy_alloc _ _ none) (by simp) (by simp)).grown hgrow (hne b (by omega)) (hne B (by omega))
        refine ⟨M ++ [x], cnt1, hrg2, by simpa using hown2, ?_⟩
        have k1 : Kp [] w w1 := HSI.out.kp.trans HK1.out (by simp) (fun x hx hl => by simp at hx; have := HL.out.2.2; omega)
        have k2 := k1.alloc (.cells #[Value.int IntKind.i64 x] 3)
        refine ⟨hgrow.os.trans k2.os, hgrow.tape.trans k2.tape, hgrow.output.trans k2.output, Nat.le_trans k2.size hgrow.size, fun k hk hn => ?_⟩
        exact (hgrow.block k (Nat.lt_of_lt_of_le hk k2.size) (hne k (by have := HL.out.2.2; omega))).trans (k2.block k hk hn)
      case measure =>
        have hne : ∀ r, r < B + 1 → some r ≠ u3.ownBlock := fun r hr e => mrow_ne hrow1 hr e.symm
        have hrg2 := (HRG1.out.grown (World.grownBy_alloc _ _ none) (by simp) (by simp)).grown hgrow (hne b (by omega)) (hne B (by omega))
        rw [hrg2.left, HSI.out.rg.left]
        exact HL.out.1

end Go.Proofs.Qxb6500745aGreatDoor
