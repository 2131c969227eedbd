import Derived.Test.Qxb6500745aGreatDoorTop4
import Derived.Test.Qxb6500745aGreatDoorAlg1
import Derived.Laws.AppendOwnNone
namespace Go.Proofs.Qxb6500745aGreatDoor
open Go.RowKit Go.Maps

structure MenI (w3 : World) (Z : Nat → List Int) (j : Nat) (v : Value) (ms : List Int) (wr : World) : Prop where
  row : wr.ownsRow w3.heap.size 3 1 v ms.length (ms.map (Value.int .i64))
  ids : ∀ x ∈ ms, idIn x
  all : ∀ i, i < j → ∀ x ∈ Z i, x ∈ ms
  len : ms.length ≤ j * 1048576
  kp : Kp [] w3 wr

theorem MenI.more {w3 wr w5 : World} {Z : Nat → List Int} {j : Nat} {v v' : Value} {ms : List Int} (h : MenI w3 Z j v ms wr) (ok : SetOk (Z j)) {w4 : World} (k4 : Kp [] wr w4) (hg : w4.grownBy w5 v.ownBlock) (hr : w5.ownsRow w3.heap.size 3 1 v' (ms.length + (Z j).length) (ms.map (Value.int .i64) ++ (Z j).map (Value.int .i64))) : MenI w3 Z (j + 1) v' (ms ++ Z j) w5 where
  row := by simpa using hr
  ids := fun x hx => by
    rcases List.mem_append.1 hx with h1 | h1
    · exact h.ids x h1
    · exact ok.2 x h1
  all := fun i hi x hx => by
    by_cases e : i = j
    · subst e; simp [hx]
    · simp [h.all i (by omega) x hx]
  len := by have := h.len; have := ok.len; simp; omega
  kp := by
    have k2 := h.kp.step k4
    refine ⟨hg.os.trans k2.os, hg.tape.trans k2.tape, hg.output.trans k2.output, Nat.le_trans k2.size hg.size, fun k hk hn => ?_⟩
    exact (hg.block k (Nat.lt_of_lt_of_le hk k2.size) (fun e => mrow_ne h.row hk e.symm)).trans (k2.block k hk hn)

set_option maxRecDepth 100000 in
set_option maxHeartbeats 4000000 in
theorem algebra_core {ea : Nat → Addr} {w : World} {B : Nat} {v : Value} {ops : List OpV} (G : Glob ea w) (h : OpsAt B w v ops) (hB : B ≤ w.heap.size) :
    Calls Tryz.prog 5 #[v] w fun e w' => e = .returned (.bool true) ∧ Kp [] w w' := by
  obtain ⟨i0, hinf, hz0, hz1, hz2⟩ := info_parts minfo3
  have hsm := small_any h
  have hnm := newMachine_any G
  obtain ⟨a, c, rfl, hl⟩ := h.shape
  go_enter Tryz.func5, Tryz.ntmps5
  go_wp2_with fail
  refine hsm.mono ?_
  rintro e w2 ⟨r, rfl, hr, h2⟩
  rw [h2]; clear h2 w2 hsm
  cases r with
  | false =>
    go_wp2_with fail
    go_ret
    exact ⟨rfl, Kp.refl _ _⟩
  | true =>
    have HSM : Hid (SmallOps ops) := hr rfl
    clear hr
    go_wp2_with fail
    refine hnm.mono ?_
    rintro e w2 ⟨mb, rfl, hti⟩
    clear hnm
    have HT : Hid (∃ pt D Z fp, TI ea w mb pt D Z fp w2) := hti
    clear hti
    generalize hn : ops.length = n at *
    have HN : Hid (ops.length = n) := hn
    clear hn
    unfold bp
    go_wp2_with fail
    go_loopw [19] (fun s wr => ∃ i : Nat, s = .int .i64 i ∧ i ≤ n ∧ ∃ pt D Z fp, TI ea w mb pt D Z fp wr) (fun s _ => n - (intOf s).toNat)
    case atStart => exact ⟨0, rfl, Nat.zero_le _, HT.out⟩
    case round =>
      obtain ⟨i, rfl, hi, pt, D, Z, fp, ti⟩ := hrel
      clear HT
      by_cases hin : i < n
      · have hio : i < ops.length := by rw [HN.out]; exact hin
        obtain ⟨b, off, rfl, hb, ho⟩ := (h.kp ti.kp hB).get i hio
        have hz := HSM.out.2 i hio
        obtain ⟨o, hoe⟩ : ∃ o, o = ops[i] := ⟨_, rfl⟩
        rw [← hoe] at ho hz
        clear hoe
        have e0 := ho.c0; have e1 := ho.c1; have e2 := ho.c2; have e3 := ho.c3; have e4 := ho.c4; have e5 := ho.c5; have e6 := ho.c6
        obtain ⟨ax, cx, hxs⟩ := ho.xs.shape
        rw [hxs] at e6
        have hplay := fun W k => ti.play (W := W) k ho.xs hB hz
        rw [hxs] at hplay
        unfold bp opCells at hplay
        clear ho
        go_wp2_with fail
        refine (hplay _ ?_).mono ?_
        · exact (Kp.refl _ _).alloc _
        · rintro e w3 ⟨⟨v, rfl⟩, pt', D', Z', fp', ti'⟩
          clear hplay ti e0 e1 e2 e3 e4 e5 e6 hxs hz
          have HTI : Hid (TI ea w mb pt' D' Z' fp' w3) := ti'
          have y4 := ti'.m.blk.cell 4
          have y5 := ti'.m.blk.cell 5
          have y6 := ti'.m.blk.cell 6
          have y7 := ti'.m.blk.cell 7
          rw [machCells_get _ _ (by omega)] at y4 y5 y6 y7
          unfold bp at y4 y5 y6 y7
          clear ti'
          go_wp2_with fail
          clear y4 y5 y6 y7
          go_loopw [6, 30] (fun s6 s30 wr => ∃ (j : Nat) (ms : List Int), s30 = .int .i64 j ∧ j ≤ 4 ∧ MenI w3 Z' j s6 ms wr) (fun _ s _ => 4 - (intOf s).toNat)
          case atStart => exact ⟨0, [], rfl, Nat.zero_le _, World.ownsRow_nil w3 _ 3 1, by simp, fun _ h => by omega, by simp, Kp.refl _ _⟩
          case round =>
            obtain ⟨j, ms, rfl, hj, mi⟩ := hrel
            have HMI : Hid (MenI w3 Z' j u6 ms wr) := mi
            by_cases hj4 : j < 4
            · have tj := HTI.out.kp0 mi.kp
              have hok := (tj.m.set j hj4).2
              have hids := s_ids (tj.m.set j hj4).1 hok
              have HOK : Hid (SetOk (Z' j)) := hok
              have hlen := hok.len
              have hmlen := mi.len
              have hsize := mi.kp.size
              clear tj mi hok
              go_wp2_with fail
              simp only [index4 pt' j hj4, Result.andThen]
              rw [Oper.upon_value]
              go_wp2_with fail
              refine hids.mono ?_
              rintro e w4 ⟨l, f, rfl, hrow, hf, k4⟩
              clear hids
              have hs4 := k4.size
              have hrow4 : w4.ownsRow w3.heap.size 3 1 u6 ms.length (ms.map (Value.int .i64)) := mrow_kp HMI.out.row k4 (by simp)
              rcases hrow with ⟨rfl, hz0', _⟩ | ⟨g, cap, cur, rfl, _, h3, h4, h5, h6, h7⟩
              · go_wp2_with (at_builtin; refine wpList_append_own_none rfl _ _ 27 rfl w3.heap.size 3 i0 1 Tryz.underlying27 hinf _ _ _ rfl hrow4 rfl ?_)
                go_roundw
                case rel =>
                  refine ⟨j + 1, ms ++ Z' j, by go_num, by omega, HMI.out.more HOK.out k4 ⟨rfl, rfl, rfl, Nat.le_refl _, fun _ _ _ => rfl⟩ ?_⟩
                  rw [hz0']
                  simpa using hrow4
                case measure => simp [intOf]; omega
              · have hcells : ∀ k u, ((Z' j).map (Value.int .i64))[k]? = some u → w4.cell? ((⟨g, 0, none⟩ : Addr).add k) = some u := fun k u hk => by
                  have hkl : k < (Z' j).length := by
                    have := (List.getElem?_eq_some_iff.1 hk).1
                    simpa using this
                  have := IRow.cellAt h3 h7 k hkl
                  simp [hkl] at hk
                  rw [← hk]
                  have ea : (⟨g, 0, none⟩ : Addr).add k = ⟨g, k, none⟩ := by
                    by_cases e : k = 0 <;> simp [Addr.add, e]
                  rw [ea]
                  exact this
                go_wp2_with (at_builtin; refine wpList_append_own _ rfl _ _ 27 rfl w3.heap.size 3 i0 (.int .i64 0) 1 8 Tryz.underlying27 hinf hz0 hz1 hz2 rfl (by decide) _ _ _ rfl hrow4 ⟨g, 0, none⟩ (Z' j).length cap ((Z' j).map (Value.int .i64)) rfl (by simp) hcells (by simp [Value.oneCell']) (by simp [maxLen]; omega) (by omega) (by omega) ?_; intro v' w5 hown5 hgrow _)
                go_roundw
                case rel => exact ⟨j + 1, ms ++ Z' j, by go_num, by omega, HMI.out.more HOK.out k4 hgrow hown5⟩
                case measure => simp [intOf]; omega
            · have e4 : j = 4 := by omega
              rw [e4] at mi
              have HR : Hid (MenI w3 Z' 4 u6 ms wr) := mi
              have HW : Hid (TI ea w mb pt' D' Z' fp' wr) := HTI.out.kp0 mi.kp
              obtain ⟨fr, hfr, _⟩ := IRow.of_owns mi.row
              obtain ⟨ar, cr, hrs⟩ := hfr.shape
              have HF : Hid (IRow wr u6 ms fr) := hfr
              have y4 := HW.out.m.blk.cell 4
              have y5 := HW.out.m.blk.cell 5
              have y6 := HW.out.m.blk.cell 6
              have y7 := HW.out.m.blk.cell 7
              rw [machCells_get _ _ (by omega)] at y4 y5 y6 y7
              unfold bp at y4 y5 y6 y7
              clear mi HMI hfr hrs e4
              go_wp2_with fail
              clear y4 y5 y6 y7
              have HQ : Hid ((∀ x ∈ ms, idIn x) ∧ (∀ i, i < 4 → ∀ x ∈ Z' i, x ∈ ms) ∧ ms.length ≤ 4 * 1048576) := ⟨HR.out.ids, HR.out.all, HR.out.len⟩
              clear HR HTI
              go_loopw [42] (fun s wr => ∃ x : Nat, s = .int .i64 x ∧ x ≤ 4 ∧ TI ea w mb pt' D' Z' fp' wr ∧ IRow wr u6 ms fr) (fun s _ => 4 - (intOf s).toNat)
              case atStart => exact ⟨0, rfl, Nat.zero_le _, HW.out, HF.out⟩
              case round =>
                obtain ⟨x, rfl, hx, tx, rx⟩ := hrel
                clear HW HF
                have HX : Hid (TI ea w mb pt' D' Z' fp' wr ∧ IRow wr u6 ms fr) := ⟨tx, rx⟩
                by_cases hx4 : x < 4
                · have y4 := tx.m.blk.cell 4
                  have y5 := tx.m.blk.cell 5
                  have y6 := tx.m.blk.cell 6
                  have y7 := tx.m.blk.cell 7
                  rw [machCells_get _ _ (by omega)] at y4 y5 y6 y7
                  unfold bp at y4 y5 y6 y7
                  clear tx rx
                  go_wp2_with fail
                  simp only [index4 pt' x hx4, Result.andThen]
                  rw [Oper.upon_value]
                  go_wp2_with fail
                  clear y4 y5 y6 y7
                  go_loopw [49] (fun s wr => ∃ y : Nat, s = .int .i64 y ∧ y ≤ 4 ∧ TI ea w mb pt' D' Z' fp' wr ∧ IRow wr u6 ms fr) (fun s _ => 4 - (intOf s).toNat)
                  case atStart => exact ⟨0, rfl, Nat.zero_le _, HX.out⟩
                  case round =>
                    obtain ⟨y, rfl, hy, ty, ry⟩ := hrel
                    clear HX
                    have HY : Hid (TI ea w mb pt' D' Z' fp' wr ∧ IRow wr u6 ms fr) := ⟨ty, ry⟩
                    by_cases hy4 : y < 4
                    · have halg := algebra_any ty.g (ty.m.set x hx4).1 (ty.m.set x hx4).2 (ty.m.set y hy4).1 (ty.m.set y hy4).2 ry (by have := HQ.out.2.2; omega) HQ.out.1 (HQ.out.2.1 x hx4) (HQ.out.2.1 y hy4)
                      clear ty ry
                      go_wp2_with fail
                      simp only [index4 pt' y hy4, Result.andThen]
                      rw [Oper.upon_value]
                      go_wp2_with fail
                      refine halg.mono ?_
                      rintro e w6 ⟨rfl, k6⟩
                      clear halg
                      have HY6 : Hid (TI ea w mb pt' D' Z' fp' w6 ∧ IRow w6 u6 ms fr) := ⟨HY.out.1.kp0 k6, HY.out.2.kp k6 (by simp)⟩
                      clear k6 HY
                      go_wp2_with fail
                      go_roundw
                      case rel => exact ⟨y + 1, by go_num, by omega, HY6.out⟩
                      case measure => simp [intOf]; omega
                    · clear ty ry
                      go_wp2_with fail
                      go_roundw
                      case rel => exact ⟨x + 1, by go_num, by omega, HY.out⟩
                      case measure => simp [intOf]; omega
                · clear tx rx
                  go_wp2_with fail
                  go_roundw
                  case rel => exact ⟨i + 1, by go_num, by omega, _, _, _, _, HX.out.1⟩
                  case measure => simp [intOf]; omega
      · go_wp2_with fail
        go_ret
        exact ⟨rfl, ti.kp⟩

end Go.Proofs.Qxb6500745aGreatDoor
