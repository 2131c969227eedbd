import Derived.Test.Qxb6500745aGreatDoorTop0
import Derived.LaidEql
namespace Go.Proofs.Qxb6500745aGreatDoor
open Go.RowKit

def wdV (D : Nat → DomV) (i j : Nat) : Value := if j < i then .int .i64 ((D j).width : Nat) else .int .i64 0
def slV (s : Nat → Value) (k j : Nat) : Value := if j < k then s j else .slice none 0 0
def picV (D : Nat → DomV) (s : Nat → Value) (i k : Nat) : Array Value :=
  #[wdV D i 0, wdV D i 1, wdV D i 2, wdV D i 3, slV s k 0, slV s k 1, slV s k 2, slV s k 3, slV s k 4, slV s k 5, slV s k 6, slV s k 7]

theorem picV_w (D : Nat → DomV) (s : Nat → Value) (i k : Nat) (h : i < 4) : (picV D s i k).setIfInBounds i (.int .i64 ((D i).width : Nat)) = picV D s (i + 1) k := by
  match i, h with
  | 0, _ | 1, _ | 2, _ | 3, _ => rfl

def upS (s : Nat → Value) (k : Nat) (v : Value) : Nat → Value := fun j => if j = k then v else s j

theorem picV_s (D : Nat → DomV) (s : Nat → Value) (i k : Nat) (h : k < 8) (v : Value) : (picV D s i k).setIfInBounds (4 + k) v = picV D (upS s k v) i (k + 1) := by
  match k, h with
  | 0, _ | 1, _ | 2, _ | 3, _ | 4, _ | 5, _ | 6, _ | 7, _ => rfl

theorem picV_get (D : Nat → DomV) (s : Nat → Value) (i k j : Nat) (h : j < 12) : ∃ v, (picV D s i k)[j]? = some v := by
  match j, h with
  | 0, _ | 1, _ | 2, _ | 3, _ | 4, _ | 5, _ | 6, _ | 7, _ | 8, _ | 9, _ | 10, _ | 11, _ => exact ⟨_, rfl⟩

def rowOf (D : Nat → DomV) (Z : Nat → List Int) (j : Nat) : List Int := if j < 4 then vals (D j).words else Z (j - 4)

structure PI (ea : Nat → Addr) (w : World) (mb : Nat) (pt : Nat → Nat) (D : Nat → DomV) (Z : Nat → List Int) (fp : Nat → List Nat) (S i k : Nat) (s : Nat → Value) (wr : World) : Prop where
  b0 : Blk wr S 34 (picV D s 0 0)
  b1 : Blk wr (S + 1) 34 (picV D s i k)
  rows : ∀ j, j < k → ∃ f, IRow wr (s j) (rowOf D Z j) f ∧ S ∉ f ∧ S + 1 ∉ f
  kp : Kp [] w wr

theorem PI.w {ea : Nat → Addr} {w : World} {mb : Nat} {pt : Nat → Nat} {D : Nat → DomV} {Z : Nat → List Int} {fp : Nat → List Nat} {S i k : Nat} {s : Nat → Value} {wr : World} (h : PI ea w mb pt D Z fp S i k s wr) (hS : S = w.heap.size) (hi : i < 4) : PI ea w mb pt D Z fp S (i + 1) k s (wr.setCell ⟨S + 1, i, none⟩ (.int .i64 ((D i).width : Nat))) where
  b0 := h.b0.other (p := ⟨S + 1, i, none⟩) (by show S ≠ S + 1; omega) _
  b1 := by rw [← picV_w D s i k hi]; exact h.b1.set i _
  rows := fun j hj => by
    obtain ⟨f, h1, h2, h3⟩ := h.rows j hj
    exact ⟨f, h1.kp (L := [S + 1]) ((Kp.refl _ _).setCell (p := ⟨S + 1, i, none⟩) (fun _ => by simp) _) (fun x hx e => by simp at e; subst e; exact h3 hx), h2, h3⟩
  kp := h.kp.setCell (p := ⟨S + 1, i, none⟩) (fun hl => by simp at hl; omega) _

theorem PI.quiet {ea : Nat → Addr} {w : World} {mb : Nat} {pt : Nat → Nat} {D : Nat → DomV} {Z : Nat → List Int} {fp : Nat → List Nat} {S i k : Nat} {s : Nat → Value} {wr wr' : World} (h : PI ea w mb pt D Z fp S i k s wr) (q : Kp [] wr wr') : PI ea w mb pt D Z fp S i k s wr' where
  b0 := h.b0.kp q (by simp)
  b1 := h.b1.kp q (by simp)
  rows := fun j hj => by
    obtain ⟨f, h1, h2⟩ := h.rows j hj
    exact ⟨f, h1.kp q (by simp), h2⟩
  kp := h.kp.step q

theorem PI.s {ea : Nat → Addr} {w : World} {mb : Nat} {pt : Nat → Nat} {D : Nat → DomV} {Z : Nat → List Int} {fp : Nat → List Nat} {S i k : Nat} {s : Nat → Value} {wr : World} (h : PI ea w mb pt D Z fp S i k s wr) (hS : S = w.heap.size) (hk : k < 8) {v : Value} {f : List Nat} (r : IRow wr v (rowOf D Z k) f) (n0 : S ∉ f) (n1 : S + 1 ∉ f) : PI ea w mb pt D Z fp S i (k + 1) (upS s k v) (wr.setCell ⟨S + 1, 4 + k, none⟩ v) where
  b0 := h.b0.other (p := ⟨S + 1, 4 + k, none⟩) (by show S ≠ S + 1; omega) _
  b1 := by rw [← picV_s D s i k hk v]; exact h.b1.set (4 + k) _
  rows := fun j hj => by
    have kk : Kp [S + 1] wr (wr.setCell ⟨S + 1, 4 + k, none⟩ v) := (Kp.refl _ _).setCell (p := ⟨S + 1, 4 + k, none⟩) (fun _ => by simp) _
    by_cases e : j = k
    · subst e
      exact ⟨f, by simp only [upS, ↓reduceIte]; exact r.kp kk (fun x hx e => by simp at e; subst e; exact n1 hx), n0, n1⟩
    · obtain ⟨g, h1, h2, h3⟩ := h.rows j (by omega)
      exact ⟨g, by simp only [upS, e, ↓reduceIte]; exact h1.kp kk (fun x hx e => by simp at e; subst e; exact h3 hx), h2, h3⟩
  kp := h.kp.setCell (p := ⟨S + 1, 4 + k, none⟩) (fun hl => by simp at hl; omega) _

theorem index4s (pt : Nat → Nat) (j : Nat) (h : j < 4) (w : World) : (Instr.index 46 (.agg #[.pointer (some ⟨pt 4, 0, none⟩), .pointer (some ⟨pt 5, 0, none⟩), .pointer (some ⟨pt 6, 0, none⟩), .pointer (some ⟨pt 7, 0, none⟩)]) (.int .i64 (j : Nat))).run Tryz.prog w = .ok (.pointer (some ⟨pt (j + 4), 0, none⟩)) w := by
  match j, h with
  | 0, _ | 1, _ | 2, _ | 3, _ => simp [Instr.index, run_underlying Tryz.underlying46, asIntOf, go_sem]

theorem index4d (pt : Nat → Nat) (j : Nat) (h : j < 4) (w : World) : (Instr.index 44 (.agg #[.pointer (some ⟨pt 0, 0, none⟩), .pointer (some ⟨pt 1, 0, none⟩), .pointer (some ⟨pt 2, 0, none⟩), .pointer (some ⟨pt 3, 0, none⟩)]) (.int .i64 (j : Nat))).run Tryz.prog w = .ok (.pointer (some ⟨pt j, 0, none⟩)) w := by
  match j, h with
  | 0, _ | 1, _ | 2, _ | 3, _ => simp [Instr.index, run_underlying Tryz.underlying44, asIntOf, go_sem]

theorem set12 (w : World) (b : Nat) (v0 v1 v2 v3 v4 v5 v6 v7 v8 v9 v10 v11 : Value) : Kp [b] w ((((((((((((w.setCell ⟨b, 0, none⟩ v0).setCell ⟨b, 1, none⟩ v1).setCell ⟨b, 2, none⟩ v2).setCell ⟨b, 3, none⟩ v3).setCell ⟨b, 4, none⟩ v4).setCell ⟨b, 5, none⟩ v5).setCell ⟨b, 6, none⟩ v6).setCell ⟨b, 7, none⟩ v7).setCell ⟨b, 8, none⟩ v8).setCell ⟨b, 9, none⟩ v9).setCell ⟨b, 10, none⟩ v10).setCell ⟨b, 11, none⟩ v11) :=
  (((((((((((((Kp.refl _ _).setCell (p := ⟨b, 0, none⟩) (fun _ => by simp) _).setCell (p := ⟨b, 1, none⟩) (fun _ => by simp) _).setCell (p := ⟨b, 2, none⟩) (fun _ => by simp) _).setCell (p := ⟨b, 3, none⟩) (fun _ => by simp) _).setCell (p := ⟨b, 4, none⟩) (fun _ => by simp) _).setCell (p := ⟨b, 5, none⟩) (fun _ => by simp) _).setCell (p := ⟨b, 6, none⟩) (fun _ => by simp) _).setCell (p := ⟨b, 7, none⟩) (fun _ => by simp) _).setCell (p := ⟨b, 8, none⟩) (fun _ => by simp) _).setCell (p := ⟨b, 9, none⟩) (fun _ => by simp) _).setCell (p := ⟨b, 10, none⟩) (fun _ => by simp) _).setCell (p := ⟨b, 11, none⟩) (fun _ => by simp) _)

def PPic (w : World) (D : Nat → DomV) (Z : Nat → List Int) (e : Ending) (w' : World) : Prop :=
  ∃ s, e = .returned (.agg (picV D s 4 8)) ∧ (∀ j, j < 8 → ∃ f, IRow w' (s j) (rowOf D Z j) f) ∧ Kp [] w w'

set_option maxRecDepth 100000 in
set_option maxHeartbeats 4000000 in
theorem picture_any {ea : Nat → Addr} {w : World} {mb : Nat} {pt : Nat → Nat} {D : Nat → DomV} {Z : Nat → List Int} {fp : Nat → List Nat} (G : Glob ea w) (M : Mach w mb pt D Z fp) : Calls Tryz.prog 9 #[bp mb] w (PPic w D Z) := by
  obtain ⟨S, hS⟩ : ∃ S, S = w.heap.size := ⟨_, rfl⟩
  have HS : Hid (S = w.heap.size) := hS
  have HG : Hid (Glob ea w) := G
  have HM : Hid (Mach w mb pt D Z fp) := M
  have n0 : PI ea w mb pt D Z fp S 0 0 (fun _ => .nilIface) ((w.alloc (.cells (picV D (fun _ => .nilIface) 0 0) 34)).alloc (.cells (picV D (fun _ => .nilIface) 0 0) 34)) := by
    refine ⟨?_, ?_, fun j hj => by omega, ((Kp.refl _ _).alloc _).alloc _⟩
    · rw [hS]; exact (Blk.new w 34 _).alloc _
    · have := Blk.new (w.alloc (.cells (picV D (fun _ => .nilIface) 0 0) 34)) 34 (picV D (fun _ => .nilIface) 0 0)
      have e : (w.alloc (.cells (picV D (fun _ => .nilIface) 0 0) 34)).heap.size = S + 1 := by rw [hS]; simp
      rw [e] at this
      exact this
  have MW := M.kp0 n0.kp
  have H0 : Hid (PI ea w mb pt D Z fp S 0 0 (fun _ => .nilIface) ((w.alloc (.cells (picV D (fun _ => .nilIface) 0 0) 34)).alloc (.cells (picV D (fun _ => .nilIface) 0 0) 34))) := n0
  have y0 := MW.blk.cell 0; have y1 := MW.blk.cell 1; have y2 := MW.blk.cell 2; have y3 := MW.blk.cell 3
  rw [machCells_get _ _ (by omega)] at y0 y1 y2 y3
  unfold bp at y0 y1 y2 y3
  simp only [picV, wdV, slV, Nat.not_lt_zero, ↓reduceIte] at H0 y0 y1 y2 y3
  clear G M MW n0
  unfold bp
  go_enter Tryz.func9, Tryz.ntmps9
  go_wp2_with fail
  rw [← hS]
  clear hS
  clear y0 y1 y2 y3
  go_loopw [12] (fun s wr => ∃ i : Nat, s = .int .i64 i ∧ i ≤ 4 ∧ ∃ s, PI ea w mb pt D Z fp S i i s wr) (fun s _ => 4 - (intOf s).toNat)
  case atStart => exact ⟨0, rfl, Nat.zero_le _, _, H0.out⟩
  case round =>
    obtain ⟨i, rfl, hi, s, pi⟩ := hrel
    clear H0
    have HPI : Hid (PI ea w mb pt D Z fp S i i s wr) := pi
    by_cases hi4 : i < 4
    · have M1 := HM.out.kp0 pi.kp
      have hwd := d_width (M1.dom i hi4).1 (M1.dom i hi4).2
      have pw := pi.w HS.out hi4
      have hvl := d_values (HG.out.kp pw.kp (by simp)) ((HM.out.kp0 pw.kp).dom i hi4).1 (M1.dom i hi4).2
      obtain ⟨v0, hv0⟩ := picV_get D s i i i (by omega)
      have z1 := pi.b1.cell i
      have z2 := pi.b1.frozen i
      rw [hv0] at z1
      have HW : Hid (PI ea w mb pt D Z fp S (i + 1) i s (wr.setCell ⟨S + 1, i, none⟩ (.int .i64 ((D i).width : Nat)))) := pw
      clear pi M1 hv0 pw
      generalize (D i).width = wd at *
      go_wp2_with fail
      simp only [index4d pt i hi4, Result.andThen]
      rw [Oper.upon_value]
      go_wp2_with fail
      refine hwd.mono ?_
      rintro e w2 ⟨rfl, h2⟩
      rw [h2]; clear h2 w2 hwd
      go_wp2_with fail
      clear z1 z2
      refine hvl.mono ?_
      rintro e w3 ⟨v, f, rfl, row, hf, k3⟩
      clear hvl
      obtain ⟨av, cv, hv⟩ := row.shape
      rw [hv]
      have p3 := HW.out.quiet k3
      obtain ⟨v0, hv0⟩ := picV_get D s (i + 1) i (4 + i) (by omega)
      have z1 := p3.b1.cell (4 + i)
      have z2 := p3.b1.frozen (4 + i)
      rw [hv0] at z1
      have hsz : S + 1 < (wr.setCell ⟨S + 1, i, none⟩ (.int .i64 (wd : Nat))).heap.size := HW.out.b1.lt
      have H3 : Hid (PI ea w mb pt D Z fp S (i + 1) (i + 1) (upS s i v) (w3.setCell ⟨S + 1, 4 + i, none⟩ v)) := p3.s HS.out (by omega) (by rw [rowOf, if_pos hi4]; exact row) (fun h => by have := hf S h; omega) (fun h => by have := hf (S + 1) h; omega)
      rw [hv] at H3
      clear p3 row hf k3 hv0 hsz
      go_wp2_with fail
      go_roundw
      case rel => exact ⟨i + 1, by go_num, by omega, _, H3.out⟩
      case measure => simp [intOf]; omega
    · have e : i = 4 := by omega
      have MW := HM.out.kp0 pi.kp
      have HPJ : Hid (PI ea w mb pt D Z fp S 4 (4 + 0) s wr) := by rw [e] at pi; exact pi
      clear HPI e
      have y0 := MW.blk.cell 4; have y1 := MW.blk.cell 5; have y2 := MW.blk.cell 6; have y3 := MW.blk.cell 7
      rw [machCells_get _ _ (by omega)] at y0 y1 y2 y3
      unfold bp at y0 y1 y2 y3
      clear pi MW
      go_wp2_with fail
      clear y0 y1 y2 y3
      go_loopw [31] (fun s wr => ∃ i : Nat, s = .int .i64 i ∧ i ≤ 4 ∧ ∃ s, PI ea w mb pt D Z fp S 4 (4 + i) s wr) (fun s _ => 4 - (intOf s).toNat)
      case atStart => exact ⟨0, rfl, Nat.zero_le _, _, HPJ.out⟩
      case round =>
        obtain ⟨j, rfl, hj, s, pi⟩ := hrel
        clear HPJ
        have HPI : Hid (PI ea w mb pt D Z fp S 4 (4 + j) s wr) := pi
        by_cases hj4 : j < 4
        · have M1 := HM.out.kp0 pi.kp
          have hvl := s_ids (M1.set j hj4).1 (M1.set j hj4).2
          clear pi M1
          go_wp2_with fail
          simp only [index4s pt j hj4, Result.andThen]
          rw [Oper.upon_value]
          go_wp2_with fail
          refine hvl.mono ?_
          rintro e w3 ⟨v, f, rfl, row, hf, k3⟩
          clear hvl
          obtain ⟨av, cv, hv⟩ := row.shape
          rw [hv]
          have p3 := HPI.out.quiet k3
          obtain ⟨v0, hv0⟩ := picV_get D s 4 (4 + j) (8 + j) (by omega)
          have z1 := p3.b1.cell (8 + j)
          have z2 := p3.b1.frozen (8 + j)
          rw [hv0] at z1
          have hsz : S + 1 < wr.heap.size := HPI.out.b1.lt
          have H3 : Hid (PI ea w mb pt D Z fp S 4 (4 + (j + 1)) (upS s (4 + j) v) (w3.setCell ⟨S + 1, 8 + j, none⟩ v)) := by
            have := p3.s HS.out (by omega) (by rw [rowOf, if_neg (by omega), show 4 + j - 4 = j by omega]; exact row) (fun h => by have := hf S h; omega) (fun h => by have := hf (S + 1) h; omega)
            rw [show 4 + (4 + j) = 8 + j by omega] at this
            exact this
          rw [hv] at H3
          clear p3 row hf k3 hv0 hsz
          go_wp2_with fail
          go_roundw
          case rel => exact ⟨j + 1, by go_num, by omega, _, H3.out⟩
          case measure => simp [intOf]; omega
        · have e : j = 4 := by omega
          rw [e] at pi HPI
          have hl0 := pi.b0.lt; have hl1 := pi.b1.lt
          have q0 := pi.b1.cell 0; have o0 := pi.b0.cell 0; have z0 := pi.b0.frozen 0
          have q1 := pi.b1.cell 1; have o1 := pi.b0.cell 1; have z1 := pi.b0.frozen 1
          have q2 := pi.b1.cell 2; have o2 := pi.b0.cell 2; have z2 := pi.b0.frozen 2
          have q3 := pi.b1.cell 3; have o3 := pi.b0.cell 3; have z3 := pi.b0.frozen 3
          have q4 := pi.b1.cell 4; have o4 := pi.b0.cell 4; have z4 := pi.b0.frozen 4
          have q5 := pi.b1.cell 5; have o5 := pi.b0.cell 5; have z5 := pi.b0.frozen 5
          have q6 := pi.b1.cell 6; have o6 := pi.b0.cell 6; have z6 := pi.b0.frozen 6
          have q7 := pi.b1.cell 7; have o7 := pi.b0.cell 7; have z7 := pi.b0.frozen 7
          have q8 := pi.b1.cell 8; have o8 := pi.b0.cell 8; have z8 := pi.b0.frozen 8
          have q9 := pi.b1.cell 9; have o9 := pi.b0.cell 9; have z9 := pi.b0.frozen 9
          have q10 := pi.b1.cell 10; have o10 := pi.b0.cell 10; have z10 := pi.b0.frozen 10
          have q11 := pi.b1.cell 11; have o11 := pi.b0.cell 11; have z11 := pi.b0.frozen 11
          simp [picV, wdV, slV] at q0 q1 q2 q3 q4 q5 q6 q7 q8 q9 q10 q11 o0 o1 o2 o3 o4 o5 o6 o7 o8 o9 o10 o11
          have hsh : ∀ k, k < 8 → ∃ a n c, s k = .slice a n c := fun k hk => by
            obtain ⟨f, hr, _⟩ := HPI.out.rows k hk
            obtain ⟨a, c, h⟩ := hr.shape
            exact ⟨a, _, c, h⟩
          obtain ⟨a0, n0, c0, t0⟩ := hsh 0 (by omega)
          obtain ⟨a1, n1, c1, t1⟩ := hsh 1 (by omega)
          obtain ⟨a2, n2, c2, t2⟩ := hsh 2 (by omega)
          obtain ⟨a3, n3, c3, t3⟩ := hsh 3 (by omega)
          obtain ⟨a4, n4, c4, t4⟩ := hsh 4 (by omega)
          obtain ⟨a5, n5, c5, t5⟩ := hsh 5 (by omega)
          obtain ⟨a6, n6, c6, t6⟩ := hsh 6 (by omega)
          obtain ⟨a7, n7, c7, t7⟩ := hsh 7 (by omega)
          rw [t0] at q4; rw [t1] at q5; rw [t2] at q6; rw [t3] at q7; rw [t4] at q8; rw [t5] at q9; rw [t6] at q10; rw [t7] at q11
          have HT : Hid (s 0 = .slice a0 n0 c0 ∧ s 1 = .slice a1 n1 c1 ∧ s 2 = .slice a2 n2 c2 ∧ s 3 = .slice a3 n3 c3 ∧ s 4 = .slice a4 n4 c4 ∧ s 5 = .slice a5 n5 c5 ∧ s 6 = .slice a6 n6 c6 ∧ s 7 = .slice a7 n7 c7) := ⟨t0, t1, t2, t3, t4, t5, t6, t7⟩
          clear pi hsh e t0 t1 t2 t3 t4 t5 t6 t7
          go_wp2_with fail
          refine bodyPost_ret (v := .agg #[.int .i64 ((D 0).width : Nat), .int .i64 ((D 1).width : Nat), .int .i64 ((D 2).width : Nat), .int .i64 ((D 3).width : Nat), .slice a0 n0 c0, .slice a1 n1 c1, .slice a2 n2 c2, .slice a3 n3 c3, .slice a4 n4 c4, .slice a5 n5 c5, .slice a6 n6 c6, .slice a7 n7 c7]) (by simp [results, Tryz.results9, go_sem, o0, o1, o2, o3, o4, o5, o6, o7, o8, o9, o10, o11] <;> rfl) rfl ?_
          have k12 := set12 wr S
          refine ⟨s, ?_, fun k hk => ?_, HPI.out.kp.trans (k12 (Value.int IntKind.i64 ((D 0).width : Nat)) (Value.int IntKind.i64 ((D 1).width : Nat)) (Value.int IntKind.i64 ((D 2).width : Nat)) (Value.int IntKind.i64 ((D 3).width : Nat)) (Value.slice a0 n0 c0) (Value.slice a1 n1 c1) (Value.slice a2 n2 c2) (Value.slice a3 n3 c3) (Value.slice a4 n4 c4) (Value.slice a5 n5 c5) (Value.slice a6 n6 c6) (Value.slice a7 n7 c7)) (by simp) (fun x hx hl => by simp at hx; have := HS.out; omega)⟩
          · obtain ⟨t0, t1, t2, t3, t4, t5, t6, t7⟩ := HT.out
            simp [picV, wdV, slV, t0, t1, t2, t3, t4, t5, t6, t7]
          · obtain ⟨f, hr, hn, _⟩ := HPI.out.rows k hk
            exact ⟨f, hr.kp (k12 (Value.int IntKind.i64 ((D 0).width : Nat)) (Value.int IntKind.i64 ((D 1).width : Nat)) (Value.int IntKind.i64 ((D 2).width : Nat)) (Value.int IntKind.i64 ((D 3).width : Nat)) (Value.slice a0 n0 c0) (Value.slice a1 n1 c1) (Value.slice a2 n2 c2) (Value.slice a3 n3 c3) (Value.slice a4 n4 c4) (Value.slice a5 n5 c5) (Value.slice a6 n6 c6) (Value.slice a7 n7 c7)) (fun x hx e => by simp at e; subst e; exact hn hx)⟩

end Go.Proofs.Qxb6500745aGreatDoor
