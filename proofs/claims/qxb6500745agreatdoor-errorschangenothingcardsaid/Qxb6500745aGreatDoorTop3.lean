import Derived.Test.Qxb6500745aGreatDoorTop4
import Derived.Test.Qxb6500745aGreatDoorPic2
import Derived.Test.Qxb6500745aGreatDoorOut1
namespace Go.Proofs.Qxb6500745aGreatDoor
open Go.RowKit

theorem Mach.rowLen {w : World} {mb : Nat} {pt : Nat → Nat} {D : Nat → DomV} {Z : Nat → List Int} {fp : Nat → List Nat} (M : Mach w mb pt D Z fp) (j : Nat) (hj : j < 8) : (rowOf D Z j).length ≤ 2097152 := by
  unfold rowOf
  split
  · rename_i h
    have ok := (M.dom j h).2
    rw [vals_len]
    have := pcs_le (D j).words
    have := ok.1
    have := ok.2.1
    omega
  · have := (M.set (j - 4) (by omega)).2.len
    omega

def PPic8 (w : World) (D : Nat → DomV) (Z : Nat → List Int) (e : Ending) (w' : World) : Prop :=
  ∃ a0 n0 c0 a1 n1 c1 a2 n2 c2 a3 n3 c3 a4 n4 c4 a5 n5 c5 a6 n6 c6 a7 n7 c7 s, e = .returned (.agg #[.int .i64 ((D 0).width : Nat), .int .i64 ((D 1).width : Nat), .int .i64 ((D 2).width : Nat), .int .i64 ((D 3).width : Nat), .slice a0 n0 c0, .slice a1 n1 c1, .slice a2 n2 c2, .slice a3 n3 c3, .slice a4 n4 c4, .slice a5 n5 c5, .slice a6 n6 c6, .slice a7 n7 c7]) ∧
    picV D s 4 8 = #[.int .i64 ((D 0).width : Nat), .int .i64 ((D 1).width : Nat), .int .i64 ((D 2).width : Nat), .int .i64 ((D 3).width : Nat), .slice a0 n0 c0, .slice a1 n1 c1, .slice a2 n2 c2, .slice a3 n3 c3, .slice a4 n4 c4, .slice a5 n5 c5, .slice a6 n6 c6, .slice a7 n7 c7] ∧
    (∀ j, j < 8 → ∃ f, IRow w' (s j) (rowOf D Z j) f) ∧ Kp [] w w'

theorem picture8 {ea : Nat → Addr} {w : World} {mb : Nat} {pt : Nat → Nat} {D : Nat → DomV} {Z : Nat → List Int} {fp : Nat → List Nat} (G : Glob ea w) (M : Mach w mb pt D Z fp) : Calls Tryz.prog 9 #[bp mb] w (PPic8 w D Z) := by
  refine (picture_any G M).mono ?_
  rintro e w' ⟨s, rfl, hr, hk⟩
  have hsh : ∀ k, k < 8 → ∃ a n c, s k = .slice a n c := fun k hk => by
    obtain ⟨f, hr⟩ := hr k hk
    obtain ⟨a, c, h⟩ := hr.shape
    exact ⟨a, _, c, h⟩
  obtain ⟨a0, n0, c0, t0⟩ := hsh 0 (by omega)
  obtain ⟨a1, n1, c1, t1⟩ := hsh 1 (by omega)
  obtain ⟨a2, n2, c2, t2⟩ := hsh 2 (by omega)
  obtain ⟨a3, n3, c3, t3⟩ := hsh 3 (by omega)
  obtain ⟨a4, n4, c4, t4⟩ := hsh 4 (by omega)
  obtain ⟨a5, n5, c5, t5⟩ := hsh 5 (by omega)
  obtain ⟨a6, n6, c6, t6⟩ := hsh 6 (by omega)
  obtain ⟨a7, n7, c7, t7⟩ := hsh 7 (by omega)
  have e : picV D s 4 8 = #[.int .i64 ((D 0).width : Nat), .int .i64 ((D 1).width : Nat), .int .i64 ((D 2).width : Nat), .int .i64 ((D 3).width : Nat), .slice a0 n0 c0, .slice a1 n1 c1, .slice a2 n2 c2, .slice a3 n3 c3, .slice a4 n4 c4, .slice a5 n5 c5, .slice a6 n6 c6, .slice a7 n7 c7] := by
    simp [picV, wdV, slV, t0, t1, t2, t3, t4, t5, t6, t7]
  exact ⟨a0, n0, c0, a1, n1, c1, a2, n2, c2, a3, n3, c3, a4, n4, c4, a5, n5, c5, a6, n6, c6, a7, n7, c7, s, by rw [e], e, hr, hk⟩

set_option maxRecDepth 100000 in
set_option maxHeartbeats 4000000 in
theorem errors_core {ea : Nat → Addr} {w : World} {B : Nat} {v : Value} {ops : List OpV} (G : Glob ea w) (h : OpsAt B w v ops) (hB : B ≤ w.heap.size) :
    Calls Tryz.prog 3 #[v] w fun e w' => e = .returned (.bool true) ∧ Kp [] w w' := by
  have hsm := small_any h
  have hnm := newMachine_any G
  obtain ⟨a, c, rfl, hl⟩ := h.shape
  go_enter Tryz.func3, Tryz.ntmps3
  go_wp2_with fail
  refine hsm.mono ?_
  rintro e w2 ⟨r, rfl, hr, h2⟩
  rw [h2]; clear h2 w2 hsm
  cases r with
  | false =>
    go_wp2_with fail
    go_ret
    exact ⟨rfl, Kp.refl _ _⟩
  | true =>
    have HSM : Hid (SmallOps ops) := hr rfl
    clear hr
    go_wp2_with fail
    refine hnm.mono ?_
    rintro e w2 ⟨mb, rfl, hti⟩
    clear hnm
    have HT : Hid (∃ pt D Z fp, TI ea w mb pt D Z fp w2) := hti
    clear hti
    generalize hn : ops.length = n at *
    have HN : Hid (ops.length = n) := hn
    clear hn
    unfold bp
    go_wp2_with fail
    go_loopw [15] (fun s wr => ∃ i : Nat, s = .int .i64 i ∧ i ≤ n ∧ ∃ pt D Z fp, TI ea w mb pt D Z fp wr) (fun s _ => n - (intOf s).toNat)
    case atStart => exact ⟨0, rfl, Nat.zero_le _, HT.out⟩
    case round =>
      obtain ⟨i, rfl, hi, pt, D, Z, fp, ti⟩ := hrel
      clear HT
      by_cases hin : i < n
      · have hio : i < ops.length := by rw [HN.out]; exact hin
        obtain ⟨b, off, rfl, hb, ho⟩ := (h.kp ti.kp hB).get i hio
        have hz := HSM.out.2 i hio
        obtain ⟨o, hoe⟩ : ∃ o, o = ops[i] := ⟨_, rfl⟩
        rw [← hoe] at ho hz
        clear hoe
        have e0 := ho.c0; have e1 := ho.c1; have e2 := ho.c2; have e3 := ho.c3; have e4 := ho.c4; have e5 := ho.c5; have e6 := ho.c6
        obtain ⟨ax, cx, hxs⟩ := ho.xs.shape
        rw [hxs] at e6
        generalize hlz : o.zs.length = lz at *
        obtain ⟨W, hW⟩ : ∃ W, W = wr.alloc (.cells (opCells o.k o.a o.b o.c o.v o.u (.slice ax lz cx)) 29) := ⟨_, rfl⟩
        have kW : Kp [] wr W := by rw [hW]; exact (Kp.refl _ _).alloc _
        have tW := ti.kp0 kW
        have hsw := ti.kp.size
        have hxW : XsAt B W (.slice ax lz cx) o.zs := by rw [← hxs]; exact ho.xs.kp kW (by omega) (by simp)
        have hBW : B ≤ W.heap.size := by have := kW.size; omega
        have bO : Blk W wr.heap.size 29 (opCells o.k o.a o.b o.c o.v o.u (.slice ax lz cx)) := by rw [hW]; exact Blk.new wr 29 _
        have hout := out_any tW.m o.k o.a o.b o.c o.v o.u (.slice ax lz cx) hxW hBW (by omega)
        have HX : Hid (XsAt B W (.slice ax lz cx) o.zs ∧ B ≤ W.heap.size ∧ o.zs.length ≤ 65536) := ⟨hxW, hBW, by omega⟩
        have HTW : Hid (TI ea w mb pt D Z fp W) := tW
        unfold bp at hout
        generalize hbad : BadOp o.k o.v o.u o.zs (D (regOf o.a)) (D (regOf o.b)) (Z (regOf o.a)).length = bad at *
        have HBAD : Hid (BadOp o.k o.v o.u o.zs (D (regOf o.a)) (D (regOf o.b)) (Z (regOf o.a)).length = bad) := hbad
        have HO : Hid (Blk W wr.heap.size 29 (opCells o.k o.a o.b o.c o.v o.u (.slice ax lz cx))) := bO
        clear ho hz hlz hxs kW tW hxW hBW hbad bO ti
        unfold opCells at hout hW
        go_wp2_with fail
        rw [← hW]
        generalize hT5 : wr.heap.size = T5 at *
        clear hW e0 e1 e2 e3 e4 e5 e6
        refine hout.mono ?_
        rintro e w3 ⟨r, rfl, hr, k3⟩
        clear hout
        have HR : Hid (r = true ↔ bad) := hr
        have t3 := HTW.out.kp0 k3
        have hpic := picture8 t3.g t3.m
        have HT3 : Hid (TI ea w mb pt D Z fp w3 ∧ Kp [] W w3) := ⟨t3, k3⟩
        unfold bp at hpic
        clear t3 k3 hr
        go_wp2_with fail
        refine hpic.mono ?_
        rintro e w4 ⟨a0, n0, c0, a1, n1, c1, a2, n2, c2, a3, n3, c3, a4, n4, c4, a5, n5, c5, a6, n6, c6, a7, n7, c7, s, rfl, hpv, hrows, k4⟩
        clear hpic
        have HP : Hid (picV D s 4 8 = #[.int .i64 ((D 0).width : Nat), .int .i64 ((D 1).width : Nat), .int .i64 ((D 2).width : Nat), .int .i64 ((D 3).width : Nat), .slice a0 n0 c0, .slice a1 n1 c1, .slice a2 n2 c2, .slice a3 n3 c3, .slice a4 n4 c4, .slice a5 n5 c5, .slice a6 n6 c6, .slice a7 n7 c7] ∧ ∀ j, j < 8 → ∃ f, IRow w4 (s j) (rowOf D Z j) f) := ⟨hpv, hrows⟩
        obtain ⟨W5, hW5⟩ : ∃ W5, W5 = w4.alloc (.cells #[.int .i64 ((D 0).width : Nat), .int .i64 ((D 1).width : Nat), .int .i64 ((D 2).width : Nat), .int .i64 ((D 3).width : Nat), .slice a0 n0 c0, .slice a1 n1 c1, .slice a2 n2 c2, .slice a3 n3 c3, .slice a4 n4 c4, .slice a5 n5 c5, .slice a6 n6 c6, .slice a7 n7 c7] 34) := ⟨_, rfl⟩
        have k45 : Kp [] w4 W5 := by rw [hW5]; exact (Kp.refl _ _).alloc _
        have bP : Blk W5 w4.heap.size 34 #[.int .i64 ((D 0).width : Nat), .int .i64 ((D 1).width : Nat), .int .i64 ((D 2).width : Nat), .int .i64 ((D 3).width : Nat), .slice a0 n0 c0, .slice a1 n1 c1, .slice a2 n2 c2, .slice a3 n3 c3, .slice a4 n4 c4, .slice a5 n5 c5, .slice a6 n6 c6, .slice a7 n7 c7] := by rw [hW5]; exact Blk.new w4 34 _
        have kW5 : Kp [] W W5 := (HT3.out.2.step k4).step k45
        have t5 := HTW.out.kp0 kW5
        have bO5 := HO.out.kp kW5 (by simp)
        have f0 := bO5.cell 0; have f1 := bO5.cell 1; have f2 := bO5.cell 2; have f3 := bO5.cell 3; have f4 := bO5.cell 4; have f5 := bO5.cell 5; have f6 := bO5.cell 6
        simp [opCells] at f0 f1 f2 f3 f4 f5 f6
        have hstep := step_any t5.g t5.m o.k o.a o.b o.c o.v o.u (.slice ax lz cx) (HX.out.1.kp kW5 HX.out.2.1 (by simp)) (by have := kW5.size; have := HX.out.2.1; omega) HX.out.2.2
        rw [HBAD.out] at hstep
        unfold bp opCells at hstep
        have H5 : Hid (TI ea w mb pt D Z fp W5 ∧ Kp [] w4 W5) := ⟨t5, k45⟩
        have HBP : Hid (Blk W5 w4.heap.size 34 #[Value.int IntKind.i64 ((D 0).width : Nat), Value.int IntKind.i64 ((D 1).width : Nat), Value.int IntKind.i64 ((D 2).width : Nat), Value.int IntKind.i64 ((D 3).width : Nat), Value.slice a0 n0 c0, Value.slice a1 n1 c1, Value.slice a2 n2 c2, Value.slice a3 n3 c3, Value.slice a4 n4 c4, Value.slice a5 n5 c5, Value.slice a6 n6 c6, Value.slice a7 n7 c7]) := bP
        clear hpv hrows k4 k45 kW5 t5 bO5 HTW HT3 HX bP
        subst hW5
        go_wp2_with fail
        generalize w4.alloc (.cells #[Value.int IntKind.i64 ((D 0).width : Nat), Value.int IntKind.i64 ((D 1).width : Nat), Value.int IntKind.i64 ((D 2).width : Nat), Value.int IntKind.i64 ((D 3).width : Nat), Value.slice a0 n0 c0, Value.slice a1 n1 c1, Value.slice a2 n2 c2, Value.slice a3 n3 c3, Value.slice a4 n4 c4, Value.slice a5 n5 c5, Value.slice a6 n6 c6, Value.slice a7 n7 c7] 34) = W5 at *
        generalize hT7 : w4.heap.size = T7 at *
        clear f0 f1 f2 f3 f4 f5 f6
        refine hstep.mono ?_
        rintro e w6 (⟨hnb, r1, i1, al, nl, cl, tx, rfl, hm⟩ | ⟨hbd, pe, rfl, k6⟩)
        · have hrf : r = false := by
            cases r
            · rfl
            · exact absurd (HR.out.1 rfl) hnb
          subst hrf
          obtain ⟨pt', D', Z', fp', ti'⟩ := H5.out.1.step hm
          have HTI : Hid (TI ea w mb pt' D' Z' fp' w6) := ti'
          clear ti' hm hnb hstep
          unfold resV
          go_wp2_with fail
          go_quiet (fail)
          go_wp2_with fail
          go_roundw
          case rel => exact ⟨i + 1, by go_num, by omega, pt', D', Z', fp', HTI.out.kp0 (((Kp.refl _ _).alloc _).drewN _)⟩
          case measure => simp [intOf]; omega
        · have hrt : r = true := HR.out.2 hbd
          subst hrt
          obtain ⟨W7, hW7⟩ : ∃ W7, W7 = w6.alloc (.cells #[Value.iface 110 (Value.pointer (some pe)), Value.bool false, Value.int IntKind.i64 0, Value.slice none 0 0, Value.string ByteArray.empty] 39) := ⟨_, rfl⟩
          have k67 : Kp [] w6 W7 := by rw [hW7]; exact (Kp.refl _ _).alloc _
          have bR : Blk W7 w6.heap.size 39 #[Value.iface 110 (Value.pointer (some pe)), Value.bool false, Value.int IntKind.i64 0, Value.slice none 0 0, Value.string ByteArray.empty] := by rw [hW7]; exact Blk.new w6 39 _
          have t7 := H5.out.1.kp0 (k6.step k67)
          have bP7 := HBP.out.kp (k6.step k67) (by simp)
          have hpic2 : ∀ W', Kp [] W7 W' → Calls Tryz.prog 9 #[.pointer (some ⟨mb, 0, none⟩)] W' (PPic8 W' D Z) := fun W' k => picture8 (t7.kp0 k).g (t7.kp0 k).m
          have hsame : ∀ (w8 W' : World) (t : Nat → Value) (arr : Array Value), Kp [] W7 w8 → Kp [] w8 W' → picV D t 4 8 = arr → (∀ j, j < 8 → ∃ f, IRow w8 (t j) (rowOf D Z j) f) → Calls Tryz.prog 11 #[.agg #[Value.int IntKind.i64 ((D 0).width : Nat), Value.int IntKind.i64 ((D 1).width : Nat), Value.int IntKind.i64 ((D 2).width : Nat), Value.int IntKind.i64 ((D 3).width : Nat), Value.slice a0 n0 c0, Value.slice a1 n1 c1, Value.slice a2 n2 c2, Value.slice a3 n3 c3, Value.slice a4 n4 c4, Value.slice a5 n5 c5, Value.slice a6 n6 c6, Value.slice a7 n7 c7], .agg arr] W' fun e w' => e = .returned (.bool true) ∧ Kp [] W' w' := fun w8 W' t arr h1 h2 h3 h4 => by
            have := samePic_any (w := W') (D := D) (Z := Z) (s := s) (t := t) (fun j hj => by obtain ⟨f, hf⟩ := HP.out.2 j hj; exact ⟨f, hf.kp (((H5.out.2.step (k6.step k67)).step h1).step h2) (by simp)⟩) (fun j hj => by obtain ⟨f, hf⟩ := h4 j hj; exact ⟨f, hf.kp h2 (by simp)⟩) (fun j hj => t7.m.rowLen j hj)
            rw [HP.out.1, h3] at this
            exact this
          have hres := fun w' => same_core pe w'
          have HT7 : Hid (TI ea w mb pt D Z fp W7) := t7
          unfold resV at hres
          obtain ⟨T8, hT8⟩ : ∃ T8, T8 = w6.heap.size := ⟨_, rfl⟩
          rw [← hT8] at bR
          have p0 := bP7.cell 0; have p1 := bP7.cell 1; have p2 := bP7.cell 2; have p3 := bP7.cell 3; have p4 := bP7.cell 4; have p5 := bP7.cell 5; have p6 := bP7.cell 6; have p7 := bP7.cell 7; have p8 := bP7.cell 8; have p9 := bP7.cell 9; have p10 := bP7.cell 10; have p11 := bP7.cell 11
          have r0 := bR.cell 0; have r1 := bR.cell 1; have r2 := bR.cell 2; have r3 := bR.cell 3; have r4 := bR.cell 4
          have hlP := bP7.lt
          have hlR := bR.lt
          simp at p0 p1 p2 p3 p4 p5 p6 p7 p8 p9 p10 p11 r0 r1 r2 r3 r4
          have hc7 : ∀ w', Kp [] W7 w' → (w'.cell? ⟨T7, 0, none⟩ = some (Value.int IntKind.i64 ((D 0).width : Nat)) ∧ w'.cell? ⟨T7, 1, none⟩ = some (Value.int IntKind.i64 ((D 1).width : Nat)) ∧ w'.cell? ⟨T7, 2, none⟩ = some (Value.int IntKind.i64 ((D 2).width : Nat)) ∧ w'.cell? ⟨T7, 3, none⟩ = some (Value.int IntKind.i64 ((D 3).width : Nat)) ∧ w'.cell? ⟨T7, 4, none⟩ = some (Value.slice a0 n0 c0) ∧ w'.cell? ⟨T7, 5, none⟩ = some (Value.slice a1 n1 c1) ∧ w'.cell? ⟨T7, 6, none⟩ = some (Value.slice a2 n2 c2) ∧ w'.cell? ⟨T7, 7, none⟩ = some (Value.slice a3 n3 c3) ∧ w'.cell? ⟨T7, 8, none⟩ = some (Value.slice a4 n4 c4) ∧ w'.cell? ⟨T7, 9, none⟩ = some (Value.slice a5 n5 c5) ∧ w'.cell? ⟨T7, 10, none⟩ = some (Value.slice a6 n6 c6) ∧ w'.cell? ⟨T7, 11, none⟩ = some (Value.slice a7 n7 c7)) := fun w' k => ⟨(k.cell (p := ⟨T7, 0, none⟩) hlP (by simp)).trans p0, (k.cell (p := ⟨T7, 1, none⟩) hlP (by simp)).trans p1, (k.cell (p := ⟨T7, 2, none⟩) hlP (by simp)).trans p2, (k.cell (p := ⟨T7, 3, none⟩) hlP (by simp)).trans p3, (k.cell (p := ⟨T7, 4, none⟩) hlP (by simp)).trans p4, (k.cell (p := ⟨T7, 5, none⟩) hlP (by simp)).trans p5, (k.cell (p := ⟨T7, 6, none⟩) hlP (by simp)).trans p6, (k.cell (p := ⟨T7, 7, none⟩) hlP (by simp)).trans p7, (k.cell (p := ⟨T7, 8, none⟩) hlP (by simp)).trans p8, (k.cell (p := ⟨T7, 9, none⟩) hlP (by simp)).trans p9, (k.cell (p := ⟨T7, 10, none⟩) hlP (by simp)).trans p10, (k.cell (p := ⟨T7, 11, none⟩) hlP (by simp)).trans p11⟩
          have hc8 : ∀ w', Kp [] W7 w' → (w'.cell? ⟨T8, 0, none⟩ = some (Value.iface 110 (Value.pointer (some pe))) ∧ w'.cell? ⟨T8, 1, none⟩ = some (Value.bool false) ∧ w'.cell? ⟨T8, 2, none⟩ = some (Value.int IntKind.i64 0) ∧ w'.cell? ⟨T8, 3, none⟩ = some (Value.slice none 0 0) ∧ w'.cell? ⟨T8, 4, none⟩ = some (Value.string ByteArray.empty)) := fun w' k => ⟨(k.cell (p := ⟨T8, 0, none⟩) hlR (by simp)).trans r0, (k.cell (p := ⟨T8, 1, none⟩) hlR (by simp)).trans r1, (k.cell (p := ⟨T8, 2, none⟩) hlR (by simp)).trans r2, (k.cell (p := ⟨T8, 3, none⟩) hlR (by simp)).trans r3, (k.cell (p := ⟨T8, 4, none⟩) hlR (by simp)).trans r4⟩
          have HK0 : Hid (True) := trivial
          clear hbd hstep k67 bR t7 bP7 k6 hlP hlR
          unfold resV
          go_upto_region 12 with fail
          rw [← hW7, ← hT8]
          clear hW7 hT8
          go_region_with (first
            | (go_at_call 9; refine (hpic2 _ (by first | exact Kp.refl _ _ | exact (Kp.refl _ _).drew | exact (Kp.refl _ _).drew.drew | exact Kp.dN _ _)).mono ?_; rintro e w8 ⟨x0, y0, z0, x1, y1, z1, x2, y2, z2, x3, y3, z3, x4, y4, z4, x5, y5, z5, x6, y6, z6, x7, y7, z7, t8, rfl, hpv8, hrows8, k8⟩; have hk8 : Kp [] W7 w8 := Kp.step (by first | exact Kp.refl _ _ | exact (Kp.refl _ _).drew | exact (Kp.refl _ _).drew.drew | exact Kp.dN _ _) k8; clear k8; obtain ⟨m0, m1, m2, m3, m4, m5, m6, m7, m8, m9, m10, m11⟩ := hc7 w8 hk8)
            | (go_at_call 11; refine (hsame w8 _ t8 _ hk8 (by first | exact Kp.refl _ _ | exact (Kp.refl _ _).drew | exact (Kp.refl _ _).drew.drew | exact Kp.dN _ _) hpv8 hrows8).mono ?_; rintro e w9 ⟨rfl, k9⟩; have hk9 : Kp [] W7 w9 := hk8.step (Kp.step (by first | exact Kp.refl _ _ | exact (Kp.refl _ _).drew | exact (Kp.refl _ _).drew.drew | exact Kp.dN _ _) k9); clear k9 hk8 hpv8 hrows8; obtain ⟨m0, m1, m2, m3, m4⟩ := hc8 w9 hk9)
            | (go_at_call 12; refine (hres _).mono ?_; rintro e w10 ⟨rfl, k10⟩; have hk10 : Kp [] W7 w10 := hk9.step (Kp.step (by first | exact Kp.refl _ _ | exact (Kp.refl _ _).drew | exact (Kp.refl _ _).drew.drew | exact Kp.dN _ _) k10); clear k10 hk9))
          all_goals
            go_wp2_with fail
            go_roundw
            case rel => exact ⟨i + 1, by go_num, by omega, pt, D, Z, fp, HT7.out.kp0 (by first | exact hk10 | exact hk10.drew | exact hk10.drewN _)⟩
            case measure => simp [intOf]; omega
      · go_wp2_with fail
        go_ret
        exact ⟨rfl, ti.kp⟩

end Go.Proofs.Qxb6500745aGreatDoor
