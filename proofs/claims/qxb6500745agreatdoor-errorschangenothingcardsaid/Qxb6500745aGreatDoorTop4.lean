import Derived.Test.Qxb6500745aGreatDoorTop0
import Derived.Test.Qxb6500745aGreatDoorMach6
namespace Go.Proofs.Qxb6500745aGreatDoor
open Go.RowKit

theorem PStep.m {w w' : World} {mb : Nat} {pt : Nat → Nat} {D : Nat → DomV} {Z : Nat → List Int} {fp : Nat → List Nat} {bad : Prop} {e : Ending} (M : Mach w mb pt D Z fp) (s : PStep w mb fp bad e w') : (∃ v, e = .returned v) ∧ MStep w mb fp w' := by
  rcases s with ⟨_, r, i, a, n, c, t, rfl, m⟩ | ⟨_, p, rfl, k⟩
  · exact ⟨⟨_, rfl⟩, m⟩
  · exact ⟨⟨_, rfl⟩, MStep.same M k⟩

theorem TI.play {ea : Nat → Addr} {w : World} {mb : Nat} {pt : Nat → Nat} {D : Nat → DomV} {Z : Nat → List Int} {fp : Nat → List Nat} {wr W : World} (h : TI ea w mb pt D Z fp wr) (k : Kp [] wr W) {B : Nat} {o : OpV} (hx : XsAt B wr o.xs o.zs) (hB : B ≤ w.heap.size) (hz : o.zs.length ≤ 65536) :
    Calls Tryz.prog 10 #[bp mb, .agg (opCells o.k o.a o.b o.c o.v o.u o.xs)] W fun e w' => (∃ v, e = .returned v) ∧ ∃ pt' D' Z' fp', TI ea w mb pt' D' Z' fp' w' := by
  have h1 := h.kp0 k
  have hs := h.kp.size
  refine (step_any h1.g h1.m o.k o.a o.b o.c o.v o.u o.xs (hx.kp k (by omega) (by simp)) (by have := k.size; omega) hz).mono ?_
  intro e w' s
  have hm := s.m h1.m
  exact ⟨hm.1, h1.step hm.2⟩

theorem collect_set {w : World} {b : Nat} {zs : List Int} {fp : List Nat} (h : SetAt w b zs fp) (ok : SetOk zs) :
    Calls Tryz.prog 18 #[.pointer (some ⟨b, 0, none⟩)] w fun e w' => ∃ f, e = .returned f ∧ Kp [] w w' ∧ Calls Tryz.prog 17 #[f] w' fun e2 w2 => ∃ a c g, e2 = .returned (.slice a zs.length c) ∧ IRow w2 (.slice a zs.length c) zs g ∧ Kp [] w' w2 := by
  obtain ⟨a, c, f, B1, e1, z1, r1, n1, hf1⟩ := h.op
  refine (setAll_core b a zs.length c w e1).mono ?_
  rintro e w' ⟨rfl, rfl⟩
  have hl := ok.len
  have hk : Kp [] w (w.alloc (.cells #[.slice a zs.length c] 27)) := (Kp.refl _ _).alloc _
  have hc : (w.alloc (.cells #[.slice a zs.length c] 27)).cell? ⟨w.heap.size, 0, none⟩ = some (.slice a zs.length c) := by rw [(Blk.new w 27 _).cell]; rfl
  refine ⟨_, rfl, hk, (collect_core w.heap.size a zs.length c (w.heap.size + 1) zs f _ rfl (by omega) (by simp) (by simp) hc (r1.kp hk (by simp)) (fun x hx => by have := r1.lt x hx; omega)).mono ?_⟩
  rintro e2 w2 ⟨v, rfl, ho, hb⟩
  obtain ⟨g, hr, _⟩ := IRow.of_owns ho
  obtain ⟨a2, c2, rfl⟩ := hr.shape
  refine ⟨a2, c2, g, rfl, hr, Kp.of_below (a := w.alloc (.cells #[.slice a zs.length c] 27)) ?_ _⟩
  simpa using hb

theorem index4 (pt : Nat → Nat) (j : Nat) (h : j < 4) (w : World) : (Instr.index 46 (.agg #[.pointer (some ⟨pt 4, 0, none⟩), .pointer (some ⟨pt 5, 0, none⟩), .pointer (some ⟨pt 6, 0, none⟩), .pointer (some ⟨pt 7, 0, none⟩)]) (.int .i64 (j : Nat))).run Tryz.prog w = .ok (.pointer (some ⟨pt (j + 4), 0, none⟩)) w := by
  match j, h with
  | 0, _ | 1, _ | 2, _ | 3, _ => simp [Instr.index, run_underlying Tryz.underlying46, asIntOf, go_sem]

set_option maxRecDepth 100000 in
set_option maxHeartbeats 4000000 in
theorem sorted_core {ea : Nat → Addr} {w : World} {B : Nat} {v : Value} {ops : List OpV} (G : Glob ea w) (h : OpsAt B w v ops) (hB : B ≤ w.heap.size) :
    Calls Tryz.prog 4 #[v] w fun e w' => e = .returned (.bool true) ∧ Kp [] w w' := by
  have hsm := small_any h
  have hnm := newMachine_any G
  obtain ⟨a, c, rfl, hl⟩ := h.shape
  go_enter Tryz.func4, Tryz.ntmps4
  go_wp2_with fail
  refine hsm.mono ?_
  rintro e w2 ⟨r, rfl, hr, h2⟩
  rw [h2]; clear h2 w2 hsm
  cases r with
  | false =>
    go_wp2_with fail
    go_ret
    exact ⟨rfl, Kp.refl _ _⟩
  | true =>
    have HSM : Hid (SmallOps ops) := hr rfl
    clear hr
    go_wp2_with fail
    refine hnm.mono ?_
    rintro e w2 ⟨mb, rfl, hti⟩
    clear hnm
    have HT : Hid (∃ pt D Z fp, TI ea w mb pt D Z fp w2) := hti
    clear hti
    generalize hn : ops.length = n at *
    have HN : Hid (ops.length = n) := hn
    clear hn
    unfold bp
    go_wp2_with fail
    go_loopw [17] (fun s wr => ∃ i : Nat, s = .int .i64 i ∧ i ≤ n ∧ ∃ pt D Z fp, TI ea w mb pt D Z fp wr) (fun s _ => n - (intOf s).toNat)
    case atStart => exact ⟨0, rfl, Nat.zero_le _, HT.out⟩
    case round =>
      obtain ⟨i, rfl, hi, pt, D, Z, fp, ti⟩ := hrel
      clear HT
      by_cases hin : i < n
      · have hio : i < ops.length := by rw [HN.out]; exact hin
        obtain ⟨b, off, rfl, hb, ho⟩ := (h.kp ti.kp hB).get i hio
        have hz := HSM.out.2 i hio
        obtain ⟨o, hoe⟩ : ∃ o, o = ops[i] := ⟨_, rfl⟩
        rw [← hoe] at ho hz
        clear hoe
        have e0 := ho.c0; have e1 := ho.c1; have e2 := ho.c2; have e3 := ho.c3; have e4 := ho.c4; have e5 := ho.c5; have e6 := ho.c6
        obtain ⟨ax, cx, hxs⟩ := ho.xs.shape
        rw [hxs] at e6
        have hplay := fun W k => ti.play (W := W) k ho.xs hB hz
        rw [hxs] at hplay
        unfold bp opCells at hplay
        clear ho
        go_wp2_with fail
        refine (hplay _ ?_).mono ?_
        · exact (Kp.refl _ _).alloc _
        · rintro e w3 ⟨⟨v, rfl⟩, pt', D', Z', fp', ti'⟩
          clear hplay ti e0 e1 e2 e3 e4 e5 e6 hxs hz
          have y4 := ti'.m.blk.cell 4
          have y5 := ti'.m.blk.cell 5
          have y6 := ti'.m.blk.cell 6
          have y7 := ti'.m.blk.cell 7
          rw [machCells_get _ _ (by omega)] at y4 y5 y6 y7
          unfold bp at y4 y5 y6 y7
          go_wp2_with fail
          clear y4 y5 y6 y7
          go_loopw [28] (fun s wr => ∃ j : Nat, s = .int .i64 j ∧ j ≤ 4 ∧ TI ea w mb pt' D' Z' fp' wr) (fun s _ => 4 - (intOf s).toNat)
          case atStart => exact ⟨0, rfl, Nat.zero_le _, ti'⟩
          case round =>
            obtain ⟨j, rfl, hj, tj⟩ := hrel
            clear ti'
            by_cases hj4 : j < 4
            · have hids := s_ids (tj.m.set j hj4).1 (tj.m.set j hj4).2
              go_wp2_with fail
              simp only [index4 pt' j hj4, Result.andThen]
              rw [Oper.upon_value]
              go_wp2_with fail
              refine hids.mono ?_
              rintro e w4 ⟨l, f, rfl, hrow, hf, k4⟩
              clear hids
              have tk := tj.kp0 k4
              have HS : Hid (SetAt w4 (pt' (j + 4)) (Z' j) (fp' (j + 4)) ∧ SetOk (Z' j)) := tk.m.set j hj4
              have HTI : Hid (TI ea w mb pt' D' Z' fp' w4) := tk
              clear tj tk hf k4
              obtain ⟨al, cl, rfl⟩ := hrow.shape
              have hlz := HS.out.2.len
              obtain ⟨zs, hzs⟩ : ∃ zs, zs = Z' j := ⟨_, rfl⟩
              rw [← hzs] at hrow HS hlz ⊢
              clear hzs
              generalize hm : zs.length = m at *
              have HM : Hid (zs.length = m) := hm
              clear hm
              go_wp2_with fail
              go_loopw [35] (fun s wq => ∃ q : Nat, s = .int .i64 q ∧ q ≤ m ∧ wq = w4) (fun s _ => m - (intOf s).toNat)
              case atStart => exact ⟨0, rfl, Nat.zero_le _, rfl⟩
              case round =>
                obtain ⟨q, rfl, hq, rfl⟩ := hrel
                by_cases hqm : q < m
                · have hqz : q < zs.length := by rw [HM.out]; exact hqm
                  obtain ⟨g, rfl, _, x1, _⟩ := hrow.get q hqz
                  have hin2 := HS.out.2.2 zs[q] (by simp)
                  by_cases hq0 : q = 0
                  · subst hq0
                    generalize zs[0] = x at *
                    clear hrow
                    go_wp2_with fail
                    go_roundw
                    case rel => exact ⟨1, rfl, by omega, trivial⟩
                    case measure => simp [intOf]; omega
                  · obtain ⟨q', rfl⟩ : ∃ q', q = q' + 1 := ⟨q - 1, by omega⟩
                    have hlt := asc_get HS.out.2.1 q' (q' + 1) (by omega) hqz
                    obtain ⟨g', h', _, x2, _⟩ := hrow.get q' (by omega)
                    simp at h'
                    subst h'
                    generalize zs[q' + 1] = x at *
                    generalize zs[q'] = y at *
                    clear hrow
                    have e1' : ((q' + 1 : Nat) : Int) - 1 = (q' : Int) := by omega
                    have hge : decide (x ≤ y) = false := by simp; omega
                    go_wp2_with fail
                    go_roundw
                    case rel => exact ⟨q' + 1 + 1, by go_num, by omega, trivial⟩
                    case measure => simp [intOf]; omega
                · have hck := s_check HS.out.1 HS.out.2
                  go_wp2_with fail
                  refine hck.mono ?_
                  rintro e w5 ⟨rfl, q5, h5⟩
                  rw [h5]; clear h5 w5 hck
                  have HS5 : Hid (SetAt (wr.drewN q5) (pt' (j + 4)) zs (fp' (j + 4)) ∧ SetOk zs) := ⟨HS.out.1.kp (Kp.dN _ _) (by simp), HS.out.2⟩
                  have hln := s_len HS5.out.1
                  rw [HM.out] at hln
                  go_wp2_with fail
                  refine hln.mono ?_
                  rintro e w5 ⟨rfl, h5⟩
                  rw [h5]; clear h5 w5 hln
                  have hco := collect_set HS5.out.1 HS5.out.2
                  rw [HM.out] at hco
                  go_wp2_with fail
                  refine hco.mono ?_
                  rintro e w6 ⟨fv, rfl, k6, hc2⟩
                  clear hco
                  go_wp2_with fail
                  refine hc2.mono ?_
                  rintro e w7 ⟨a7, c7, g7, rfl, hr7, k7⟩
                  clear hc2
                  have k57 : Kp [] wr w7 := ((Kp.dN wr q5).step k6).step k7
                  have heq := equal_row hr7 (hrow.kp k57 (by simp)) HM.out HM.out (by omega) (by omega)
                  have hbe : (zs == zs) = true := by simp
                  rw [hbe] at heq
                  clear hbe
                  go_wp2_with fail
                  refine heq.mono ?_
                  rintro e w8 ⟨rfl, q8, h8⟩
                  rw [h8]; clear h8 w8 heq
                  go_wp2_with fail
                  go_roundw
                  case rel => exact ⟨j + 1, by go_num, by omega, HTI.out.kp0 (k57.drewN q8)⟩
                  case measure => simp [intOf]; omega
            · go_wp2_with fail
              go_roundw
              case rel => exact ⟨i + 1, by go_num, by omega, _, _, _, _, tj⟩
              case measure => simp [intOf]; omega
      · go_wp2_with fail
        go_ret
        exact ⟨rfl, ti.kp⟩

end Go.Proofs.Qxb6500745aGreatDoor
