import Derived.Test.Qxb6500745aGreatDoorSet4
import Derived.Test.Qxb6500745aGreatDoorLst2
import Derived.Lib.AppendZerosOnto
namespace Go.Proofs.Qxb6500745aGreatDoor
open Go.RowKit

set_option maxHeartbeats 1000000 in
theorem common_row {w : World} {a1 a2 : Option Addr} {n1 n2 c1 c2 : Nat} {zs us : List Int} {f1 f2 : List Nat} (h1 : IRow w (.slice a1 n1 c1) zs f1) (h2 : IRow w (.slice a2 n2 c2) us f2) (l1 : Hid (zs.length = n1)) (l2 : Hid (us.length = n2))
    (hz : Hid (zs.Pairwise (· < ·))) (hu : Hid (us.Pairwise (· < ·))) (b1 : n1 ≤ 2097152) (b2 : n2 ≤ 2097152) :
    Calls Tryz.prog 94 #[.slice a1 n1 c1, .slice a2 n2 c2] w fun e w' => e = .returned (.int .i64 (cc zs us : Nat)) ∧ ∃ q, w' = w.drewN q := by
  go_enter Tryz.func94, Tryz.ntmps94
  go_wp2
  go_loopw [5, 6, 7] (fun sn si sj wr => ∃ n i j q : Nat, sn = .int .i64 n ∧ si = .int .i64 i ∧ sj = .int .i64 j ∧ i ≤ n1 ∧ j ≤ n2 ∧ n ≤ i ∧ n + cc (zs.drop i) (us.drop j) = cc zs us ∧ wr = w.drewN q) (fun _ si sj _ => (n1 - (intOf si).toNat) + (n2 - (intOf sj).toNat))
  case atStart => exact ⟨0, 0, 0, 0, rfl, rfl, rfl, Nat.zero_le _, Nat.zero_le _, Nat.zero_le _, by simp, rfl⟩
  case round =>
    obtain ⟨n, i, j, q, rfl, rfl, rfl, hi, hj, hni, hcc, rfl⟩ := hrel
    have HC : Hid (n + cc (zs.drop i) (us.drop j) = cc zs us) := hcc
    clear hcc
    by_cases hi1 : i < n1
    · have hiz : i < zs.length := by rw [l1.out]; exact hi1
      have di : zs.drop i = zs[i] :: zs.drop (i + 1) := List.drop_eq_getElem_cons hiz
      by_cases hj1 : j < n2
      · have hju : j < us.length := by rw [l2.out]; exact hj1
        have dj : us.drop j = us[j] :: us.drop (j + 1) := List.drop_eq_getElem_cons hju
        obtain ⟨g1, rfl, _, e1, _⟩ := h1.get i hiz
        obtain ⟨g2, rfl, _, e2, _⟩ := h2.get j hju
        have az := asc_drop hz.out i
        have au := asc_drop hu.out j
        rw [di] at az
        rw [dj] at au
        rw [di, dj] at HC
        have DI : Hid (zs.drop i = zs[i] :: zs.drop (i + 1)) := di
        have DJ : Hid (us.drop j = us[j] :: us.drop (j + 1)) := dj
        clear h1 h2 di dj
        generalize zs[i] = x at *
        generalize us[j] = y at *
        rcases Int.lt_trichotomy x y with hlt | heq | hlt
        · have HC2 : Hid (n + cc (zs.drop (i + 1)) (us.drop j) = cc zs us) := by have := HC.out; rw [cc_lt au hlt] at this; rw [DJ.out]; exact this
          clear az au HC
          go_wp2_with fail
          go_quiet (fail)
          go_wp2_with fail
          go_roundw
          case rel => exact ⟨n, i + 1, j, _, rfl, by go_num, rfl, by omega, hj, by omega, HC2.out, rfl⟩
          case measure => simp [intOf]; omega
        · subst heq
          have HC2 : Hid (n + 1 + cc (zs.drop (i + 1)) (us.drop (j + 1)) = cc zs us) := by have := HC.out; rw [cc_eq az] at this; show _ = _; omega
          clear az au HC
          go_wp2_with fail
          go_quiet (fail)
          go_wp2_with fail
          go_quiet (fail)
          go_wp2_with fail
          go_roundw
          case rel => exact ⟨n + 1, i + 1, j + 1, _, by go_num, by go_num, by go_num, by omega, by omega, by omega, HC2.out, rfl⟩
          case measure => simp [intOf]; omega
        · have HC2 : Hid (n + cc (zs.drop i) (us.drop (j + 1)) = cc zs us) := by have := HC.out; rw [cc_gt az hlt] at this; rw [DI.out]; exact this
          have hnl : ¬ x < y := by omega
          clear az au HC
          go_wp2_with fail
          go_quiet (fail)
          go_wp2_with fail
          go_quiet (fail)
          go_wp2_with fail
          go_roundw
          case rel => exact ⟨n, i, j + 1, _, rfl, rfl, by go_num, hi, by omega, hni, HC2.out, rfl⟩
          case measure => simp [intOf]; omega
      · have hju : us.drop j = [] := List.drop_of_length_le (by rw [l2.out]; omega)
        have e : Hid (cc zs us = n) := by have h := HC.out; rw [hju, cc_nil_right] at h; show _ = _; omega
        clear HC hju di
        go_wp2_with fail
        go_ret
        exact ⟨by rw [e.out]; rfl, _, rfl⟩
    · have hiz : zs.drop i = [] := List.drop_of_length_le (by rw [l1.out]; omega)
      have e : Hid (cc zs us = n) := by have h := HC.out; rw [hiz, cc_nil_left] at h; show _ = _; omega
      clear HC hiz
      go_wp2_with fail
      go_ret
      exact ⟨by rw [e.out]; rfl, _, rfl⟩

theorem nsc (need old : Nat) (h : old < need) (hb : need ≤ 4194304) : Builtin.nextslicecap need old * 8 ≤ 281474976710656 := growslice_fits h (by omega)

theorem zeroCells_iV (k : Nat) : (Builtin.zeroCells (Value.int .i64 0).cells k).toList = iV (List.replicate k 0) := by
  apply List.ext_getElem
  · simp [zeroCells_size, iV]
  · intro i h1 h2
    simp [Builtin.zeroCells, Value.cells, iV, Nat.mod_one]

theorem zeros_row {w : World} {v : Value} {zs : List Int} {f : List Nat} (h : IRow w v zs f) (k : Nat) (hk : 0 < k) (hk2 : k ≤ 1048576) (hl : zs.length ≤ 1048576) (ty : TypeId) :
    ∃ g n c w' f', (Builtin.append_ #[27, 3] ty #[v, .int .i64 (k : Int)]).run Tryz.prog w = .ok (.slice (some ⟨g, 0, none⟩) n c) w' ∧ n = zs.length + k ∧ f' = [g] ∧ IRow w' (.slice (some ⟨g, 0, none⟩) n c) (zs ++ List.replicate k 0) f' ∧ (∀ y ∈ f', y ∈ f ∨ w.heap.size ≤ y) ∧ Kp f w w' := by
  obtain ⟨i0, hi, hz0, hz1, hz2⟩ := info_parts info3
  have hlen : zs.length + k = (zs ++ List.replicate k 0).length := by simp
  rcases h with ⟨rfl, rfl, rfl⟩ | ⟨g, cap, cur, rfl, rfl, h3, h4, h5, h6, h7⟩
  · have hr := Lib.run_append_nil_zeros (P := Tryz.prog) w 27 3 ty 3 i0 (.int .i64 0) .i64 .i64 Tryz.underlying27 Tryz.underlying3 hi hz0 k hk (by omega) (by omega) (by rw [hz2]; omega)
    have hcap := grownCap_ge w k 0 3
    have hcap2 := grownCap_le_maxLen w k 0 3 (by rw [maxLen_eq]; omega)
    generalize grownCap w k 0 3 = C at *
    refine ⟨_, _, _, _, [w.heap.size], hr, by simp, rfl, IRow.mk _ _ (by simp) (Blk.new w.drew 3 _) (by simpa using hcap) hcap2 (by simp [zeroCells_size]; omega) (fun j hj => ?_), by simp, ((Kp.refl _ _).drew).alloc _⟩
    simp at hj
    rw [Array.getElem?_append_left (by rw [zeroCells_size]; exact hj), ← Array.getElem?_toList, zeroCells_iV]; simp
  · by_cases hroom : zs.length + k ≤ cap
    · have hn0 : k ≠ 0 := by omega
      have hw : IntKind.i64.wrap (k : Int) = k := by rw [IntKind.wrap_i64]; omega
      have h48i : ¬ (281474976710656 < (k : Int) * (i0.bytes : Int)) := by rw [hz2]; omega
      have hneg : ¬ ((k : Int) < 0) := by omega
      have hst := run_storeCells_cells (P := Tryz.prog) g zs.length (iV (List.replicate k 0)) 0 w (fun j hj => by simp [iV] at hj; rw [h3.cell]; simp; omega) (fun j _ => h3.frozen _) (iV_one _)
      simp only [Nat.add_zero] at hst
      have hr : (Builtin.append_ #[27, 3] ty #[.slice (some ⟨g, 0, none⟩) zs.length cap, .int .i64 (k : Int)]).run Tryz.prog w = .ok (.slice (some ⟨g, 0, none⟩) (zs.length + k) cap) (w.setCells g zs.length (iV (List.replicate k 0))) := by
        simp [Builtin.append_, run_underlying Tryz.underlying27, run_underlying Tryz.underlying3, sizeOf, typeInfo, zeroValue, hi, hz0, hz1, asInt, asIntOf, hw, hn0, hneg, h48i, hroom, Addr.add_lit, zeroCells_iV, hst]
      have hb := Blk.puts (iV (List.replicate k 0)) w zs.length cur h3
      refine ⟨_, _, _, _, [g], hr, rfl, rfl, IRow.mk _ _ hlen hb (by rw [← hlen]; exact hroom) h5 (by rw [putAll_size]; exact h6) (fun j hj => ?_), by simp, Kp.setCells (fun _ => by simp) _ _ _ (Kp.refl _ _)⟩
      rw [← hlen] at hj
      rw [putAll_at _ _ _ _ (by omega)]
      by_cases e1 : j < zs.length
      · rw [if_neg (by omega)]
        simp only [iV, List.map_append]
        rw [List.getElem?_append_left (by simpa using e1)]; exact cur_get h7 j e1
      · rw [if_pos (by simp [iV]; omega)]
        simp only [iV, List.map_append]
        rw [List.getElem?_append_right (by simp; omega)]; simp
    · have hold : (Builtin.firstCells i0.size zs.length (.slice (some ⟨g, 0, none⟩) zs.length cap)).run Tryz.prog w.drew = .ok (iV zs).toArray w.drew := by
        refine run_firstCells_some (P := Tryz.prog) w.drew i0.size zs.length ⟨g, 0, none⟩ zs.length cap (iV zs) (by rw [hz1]; simp [iV]) (fun j v hj => ?_)
        obtain ⟨hj', rfl⟩ := iV_get zs j v hj
        rw [Addr.add_lit, Nat.zero_add]; exact IRow.cellAt h3 h7 j hj'
      have hr := Lib.run_append_grow_zeros (P := Tryz.prog) w 27 3 ty 3 i0 (.int .i64 0) .i64 .i64 Tryz.underlying27 Tryz.underlying3 hi hz0 (some ⟨g, 0, none⟩) zs.length cap (iV zs) hold k hk (by omega) (by omega) (by omega) (by rw [hz2]; omega) (by rw [hz2]; exact nsc _ _ (by omega) (by omega))
      have hcap := grownCap_ge w (zs.length + k) cap 3
      have hcap2 := grownCap_le_maxLen w (zs.length + k) cap 3 (by rw [maxLen_eq]; omega)
      generalize grownCap w (zs.length + k) cap 3 = C at *
      refine ⟨_, _, _, _, [w.heap.size], hr, rfl, rfl, IRow.mk _ _ hlen (Blk.new w.drew 3 _) (by rw [← hlen]; exact hcap) hcap2 (by simp [zeroCells_size, iV]; omega) (fun j hj => ?_), by simp, ((Kp.refl _ _).drew).alloc _⟩
      rw [← hlen] at hj
      rw [Array.getElem?_append_left (by simp [zeroCells_size, iV]; omega), ← Array.getElem?_toList, Array.toList_append, zeroCells_iV]
      simp [iV]

end Go.Proofs.Qxb6500745aGreatDoor
