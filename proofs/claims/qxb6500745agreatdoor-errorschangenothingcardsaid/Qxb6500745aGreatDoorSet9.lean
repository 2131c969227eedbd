import Derived.Test.Qxb6500745aGreatDoorSet8
namespace Go.Proofs.Qxb6500745aGreatDoor
open Go.RowKit

theorem equal_row {w : World} {a1 a2 : Option Addr} {n1 n2 c1 c2 : Nat} {zs us : List Int} {f1 f2 : List Nat} (h1 : IRow w (.slice a1 n1 c1) zs f1) (h2 : IRow w (.slice a2 n2 c2) us f2) (l1 : zs.length = n1) (l2 : us.length = n2) (b1 : n1 ≤ 2097152) (b2 : n2 ≤ 2097152) :
    Calls Tryz.prog 16 #[.slice a1 n1 c1, .slice a2 n2 c2] w fun e w' => e = .returned (.bool (zs == us)) ∧ ∃ q, w' = w.drewN q := by
  subst l1 l2
  rcases h1 with ⟨h, rfl, _⟩ | ⟨g1, cap1, cur1, h, _, h3, h4, h5, h6, h7⟩
  · refine (Tryz.slices_Equal_int_empty a1 a2 c1 us.length c2 w (by omega)).mono ?_
    rintro e w' ⟨rfl, rfl⟩
    refine ⟨?_, 0, rfl⟩
    cases us <;> simp
  · simp at h
    obtain ⟨rfl, rfl⟩ := h
    rcases h2 with ⟨h, rfl, _⟩ | ⟨g2, cap2, cur2, h, _, k3, k4, k5, k6, k7⟩
    · by_cases hz : zs = []
      · subst hz
        refine (Tryz.slices_Equal_int_empty _ a2 c1 0 c2 w (by omega)).mono ?_
        rintro e w' ⟨rfl, rfl⟩
        exact ⟨rfl, 0, rfl⟩
      · refine (Tryz.slices_Equal_int_lens _ a2 zs.length c1 0 c2 w (by intro h; exact hz (List.eq_nil_of_length_eq_zero h))).mono ?_
        rintro e w' ⟨rfl, rfl⟩
        refine ⟨?_, 0, rfl⟩
        have : (zs == []) = false := by simpa using hz
        rw [this]
    · simp at h
      obtain ⟨rfl, rfl⟩ := h
      have := Tryz.slices_Equal_int g1 0 zs.length c1 g2 0 us.length c2 zs us w (Nat.le_refl _) (Nat.le_refl _) (by omega) (by omega) (fun j hj => by rw [Nat.zero_add, IRow.cellAt h3 h7 j hj]; simp [hj]) (fun j hj => by rw [Nat.zero_add, IRow.cellAt k3 k7 j hj]; simp [hj])
      rw [List.take_length, List.take_length] at this
      exact this

def PIs (w : World) (k : Value → Prop) (e : Ending) (w' : World) : Prop := ∃ v, e = .returned v ∧ k v ∧ ∃ q, w' = w.drewN q

set_option maxRecDepth 100000 in
set_option maxHeartbeats 1000000 in
theorem s_equal {w : World} {b1 b2 : Nat} {zs us : List Int} {fp1 fp2 : List Nat} (h1 : SetAt w b1 zs fp1) (ok1 : SetOk zs) (h2 : SetAt w b2 us fp2) (ok2 : SetOk us) :
    Calls Tryz.prog 90 #[.pointer (some ⟨b1, 0, none⟩), .pointer (some ⟨b2, 0, none⟩)] w (PBool w (zs = us)) := by
  obtain ⟨a1, c1, f1, B1, e1, z1, r1, n1, hf1⟩ := h1.op
  obtain ⟨a2, c2, f2, B2, e2, z2, r2, n2, hf2⟩ := h2.op
  have hl1 := ok1.len
  have hl2 := ok2.len
  have hcom : ∀ q, Calls Tryz.prog 16 #[.slice a1 zs.length c1, .slice a2 us.length c2] (w.drewN q) fun e w' => e = .returned (.bool (zs == us)) ∧ ∃ q', w' = (w.drewN q).drewN q' := fun q =>
    equal_row (r1.kp (Kp.dN w q) (by simp)) (r2.kp (Kp.dN w q) (by simp)) rfl rfl (by omega) (by omega)
  have HA : Hid ((zs == us) = true ↔ zs = us) := by show _ ↔ _; simp
  clear h1 h2 n1 n2 r1 r2 B1 B2 z1 z2 ok1 ok2
  generalize (zs == us) = k at *
  go_enter Tryz.func90, Tryz.ntmps90
  go_wp2_with fail
  go_quiet ((go_at_call 16; refine Calls.quiet_of (hcom _)))
  go_wp2_with fail
  go_ret
  exact ⟨k, rfl, HA.out, _, rfl⟩

def PInt (w : World) (e : Ending) (w' : World) : Prop := ∃ i : Int, e = .returned (.int .i64 i) ∧ ∃ q, w' = w.drewN q

set_option maxHeartbeats 1000000 in
theorem compare_row {w : World} {a1 a2 : Option Addr} {n1 n2 c1 c2 : Nat} {zs us : List Int} {f1 f2 : List Nat} (h1 : IRow w (.slice a1 n1 c1) zs f1) (h2 : IRow w (.slice a2 n2 c2) us f2) (l1 : Hid (zs.length = n1)) (l2 : Hid (us.length = n2)) (b1 : n1 ≤ 2097152) :
    Calls Tryz.prog 115 #[.slice a1 n1 c1, .slice a2 n2 c2] w (PInt w) := by
  go_enter Tryz.func115, Tryz.ntmps115
  go_wp2_with fail
  go_loopw [11] (fun s wr => ∃ i : Nat, s = .int .i64 i ∧ i ≤ n1 ∧ wr = w) (fun s _ => n1 - (intOf s).toNat)
  case atStart => exact ⟨0, rfl, Nat.zero_le _, rfl⟩
  case round =>
    obtain ⟨i, rfl, hi, rfl⟩ := hrel
    by_cases hi1 : i < n1
    · have hiz : i < zs.length := by rw [l1.out]; exact hi1
      obtain ⟨g1, rfl, _, e1, _⟩ := h1.get i hiz
      by_cases hj1 : i < n2
      · have hju : i < us.length := by rw [l2.out]; exact hj1
        obtain ⟨g2, rfl, _, e2, _⟩ := h2.get i hju
        generalize zs[i] = x at *
        generalize us[i] = y at *
        have hcmp := Tryz.cmp_Compare_int x y wr
        clear h1 h2
        generalize Lib.compareInt x y = z at *
        by_cases hz0 : z = 0
        · subst hz0
          go_wp2_with fail
          refine hcmp.mono ?_
          rintro e w2 ⟨rfl, h2⟩
          rw [h2]; clear h2 w2
          go_wp2_with fail
          go_roundw
          case rel => exact ⟨i + 1, by go_num, by omega, trivial⟩
          case measure => simp [intOf]; omega
        · have hzq : (z == 0) = false := by simpa using hz0
          go_wp2_with fail
          refine hcmp.mono ?_
          rintro e w2 ⟨rfl, h2⟩
          rw [h2]; clear h2 w2
          go_wp2_with fail
          go_ret
          exact ⟨z, rfl, 0, rfl⟩
      · generalize zs[i] = x at *
        clear h1 h2
        go_wp2_with fail
        go_ret
        exact ⟨_, rfl, 0, rfl⟩
    · clear h1 h2
      by_cases hnn : n1 < n2
      · go_wp2_with fail
        go_ret
        exact ⟨_, rfl, 0, rfl⟩
      · go_wp2_with fail
        go_ret
        exact ⟨_, rfl, 0, rfl⟩

set_option maxRecDepth 100000 in
set_option maxHeartbeats 1000000 in
theorem s_compare {w : World} {b1 b2 : Nat} {zs us : List Int} {fp1 fp2 : List Nat} (h1 : SetAt w b1 zs fp1) (ok1 : SetOk zs) (h2 : SetAt w b2 us fp2) (ok2 : SetOk us) :
    Calls Tryz.prog 91 #[.pointer (some ⟨b1, 0, none⟩), .pointer (some ⟨b2, 0, none⟩)] w (PInt w) := by
  obtain ⟨a1, c1, f1, B1, e1, z1, r1, n1, hf1⟩ := h1.op
  obtain ⟨a2, c2, f2, B2, e2, z2, r2, n2, hf2⟩ := h2.op
  have hl1 := ok1.len
  have hl2 := ok2.len
  have hcom : ∀ q, Calls Tryz.prog 115 #[.slice a1 zs.length c1, .slice a2 us.length c2] (w.drewN q) (PInt (w.drewN q)) := fun q =>
    compare_row (r1.kp (Kp.dN w q) (by simp)) (r2.kp (Kp.dN w q) (by simp)) rfl rfl (by omega)
  clear h1 h2 n1 n2 r1 r2 B1 B2 z1 z2 ok1 ok2
  go_enter Tryz.func91, Tryz.ntmps91
  go_wp2_with fail
  go_region_with (go_at_call 115; refine (hcom _).mono ?_; rintro e w2 ⟨i, rfl, q, h2⟩; rw [h2]; clear h2 w2)
  all_goals go_wp2_with fail
  all_goals go_ret
  all_goals exact ⟨_, rfl, _, rfl⟩

set_option maxRecDepth 100000 in
set_option maxHeartbeats 1000000 in
theorem s_check {w : World} {b : Nat} {zs : List Int} {fp : List Nat} (h : SetAt w b zs fp) (ok : SetOk zs) :
    Calls Tryz.prog 14 #[.pointer (some ⟨b, 0, none⟩)] w fun e w' => e = .returned .nilIface ∧ ∃ q, w' = w.drewN q := by
  obtain ⟨a, c, f, B, e1, z1, r1, n1, hf1⟩ := h.op
  have hl1 := ok.len
  have HOK : Hid (SetOk zs) := ok
  clear B z1 h ok
  generalize hn : zs.length = n at *
  have HN : Hid (zs.length = n) := hn
  clear hn
  by_cases hz : zs = []
  · have hv := n1.2 hz
    simp at hv
    obtain ⟨rfl, rfl, rfl⟩ := hv
    clear n1 r1 HN HOK
    go_enter Tryz.func14, Tryz.ntmps14
    go_wp2_with fail
    go_loopw [24] (fun s wr => s = .int .i64 0 ∧ wr = w) (fun _ _ => 0)
    case atStart => exact ⟨rfl, rfl⟩
    case round =>
      obtain ⟨rfl, rfl⟩ := hrel
      go_wp2_with fail
      go_ret
      exact ⟨rfl, 0, rfl⟩
  · obtain ⟨g, rfl⟩ : ∃ g, a = some ⟨g, 0, none⟩ := by
      rcases r1 with ⟨_, h, _⟩ | ⟨g, cap, cur, h, _⟩
      · exact absurd h hz
      · simp at h; exact ⟨g, h.1⟩
    have hn0 : 0 < n := by have := HN.out; cases zs with | nil => exact absurd rfl hz | cons => simp at this; omega
    have hnq : ((n : Int) == 0) = false := by simp; omega
    clear n1
    go_enter Tryz.func14, Tryz.ntmps14
    go_wp2_with fail
    go_loopw [24] (fun s wr => ∃ i : Nat, s = .int .i64 i ∧ i ≤ n ∧ wr = w) (fun s _ => n - (intOf s).toNat)
    case atStart => exact ⟨0, rfl, Nat.zero_le _, rfl⟩
    case round =>
      obtain ⟨i, rfl, hi, rfl⟩ := hrel
      by_cases hi1 : i < n
      · have hiz : i < zs.length := by rw [HN.out]; exact hi1
        have hv := validID_any zs[i] wr
        have hin := HOK.out.2 zs[i] (by simp)
        obtain ⟨g', h', _, x1, _⟩ := r1.get i hiz
        simp at h'
        subst h'
        have hvd : decide (0 ≤ zs[i] ∧ zs[i] ≤ 1048575) = true := by simpa using hin
        rw [hvd] at hv
        clear hvd hin
        by_cases hi0 : i = 0
        · subst hi0
          generalize zs[0] = x at *
          clear r1
          go_wp2_with fail
          refine hv.mono ?_
          rintro e w2 ⟨rfl, h2⟩
          rw [h2]; clear h2 w2
          go_wp2_with fail
          go_roundw
          case rel => exact ⟨1, rfl, by omega, trivial⟩
          case measure => simp [intOf]; omega
        · obtain ⟨j, rfl⟩ : ∃ j, i = j + 1 := ⟨i - 1, by omega⟩
          have hlt := asc_get HOK.out.1 j (j + 1) (by omega) hiz
          obtain ⟨g', h', _, x2, _⟩ := r1.get j (by omega)
          simp at h'
          subst h'
          generalize zs[j + 1] = x at *
          generalize zs[j] = y at *
          clear r1
          have hge : decide (x ≤ y) = false := by simp; omega
          have e1' : ((j + 1 : Nat) : Int) - 1 = (j : Int) := by omega
          go_wp2_with fail
          refine hv.mono ?_
          rintro e w2 ⟨rfl, h2⟩
          rw [h2]; clear h2 w2
          go_wp2_with fail
          go_roundw
          case rel => exact ⟨j + 1 + 1, by go_num, by omega, trivial⟩
          case measure => simp [intOf]; omega
      · clear r1
        go_wp2_with fail
        go_ret
        exact ⟨rfl, 0, rfl⟩

end Go.Proofs.Qxb6500745aGreatDoor
