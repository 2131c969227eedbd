import Derived.Test.Qxb6500745aGreatDoorSet6
namespace Go.Proofs.Qxb6500745aGreatDoor
open Go.RowKit

theorem cell_far (w : World) (p a : Addr) (v : Value) (h : p.block ≠ a.block) : (w.setCell p v).cell? a = w.cell? a := World.cell?_setCell_other _ _ _ _ (fun e => h (by rw [e]))

structure FI (w : World) (b1 g n c : Nat) (zs : List Int) (P : Int → Bool) (b2 : Nat) (a2 : Option Addr) (c2 : Nat) (us : List Int) (i kept j : Nat) (wr : World) : Prop where
  hi : i ≤ zs.length
  k : kept = ((zs.take i).filter P).length
  row : ∃ cur, Blk wr g 3 cur ∧ cur.size = c ∧ (∀ t, t < kept → cur[t]? = (iV (zs.filter P))[t]?) ∧ (∀ t (h : t < zs.length), i ≤ t → cur[t]? = some (.int .i64 zs[t]))
  tb : wr.cell? ⟨b2, 0, none⟩ = some (.slice a2 us.length c2)
  tc : ∀ t (h : t < us.length), ∃ g2, a2 = some ⟨g2, 0, none⟩ ∧ wr.cell? ⟨g2, t, none⟩ = some (.int .i64 us[t])
  sb : Blk wr b1 62 #[.slice (some ⟨g, 0, none⟩) n c]
  kp : Kp [g] w wr
  hj : j ≤ us.length
  lt : ∀ t (h : t < us.length), t < j → ∀ u (h2 : u < zs.length), i ≤ u → us[t] < zs[u]

theorem FI.k_le {w : World} {b1 g n c : Nat} {zs : List Int} {P : Int → Bool} {b2 : Nat} {a2 : Option Addr} {c2 : Nat} {us : List Int} {i kept j : Nat} {wr : World} (h : FI w b1 g n c zs P b2 a2 c2 us i kept j wr) : kept ≤ i := by
  rw [h.k]; have := List.length_filter_le P (zs.take i); rw [List.length_take] at this; omega

theorem FI.drop {w : World} {b1 g n c : Nat} {zs : List Int} {P : Int → Bool} {b2 : Nat} {a2 : Option Addr} {c2 : Nat} {us : List Int} {i kept j : Nat} {wr : World} (h : FI w b1 g n c zs P b2 a2 c2 us i kept j wr)
    (hz : zs.Pairwise (· < ·)) (hi : i < zs.length) (hP : P zs[i] = false) (j' : Nat) (hj : j' ≤ us.length) (hlt : ∀ t (h : t < us.length), t < j' → us[t] < zs[i]) (q : Nat) :
    FI w b1 g n c zs P b2 a2 c2 us (i + 1) kept j' (wr.drewN q) := by
  obtain ⟨cur, h1, h2, h3, h4⟩ := h.row
  refine ⟨hi, ?_, ⟨cur, h1.drewN q, h2, h3, fun t ht hit => h4 t ht (by omega)⟩, h.tb, h.tc, h.sb.drewN q, h.kp.drewN q, hj, fun t ht htj u hu hiu => ?_⟩
  · rw [List.take_succ_eq_append_getElem hi, List.filter_append, List.length_append, ← h.k]; simp [hP]
  · have h1 := hlt t ht htj
    have h2 := asc_get hz i u (by omega) hu
    omega

theorem FI.keep {w : World} {b1 g n c : Nat} {zs : List Int} {P : Int → Bool} {b2 : Nat} {a2 : Option Addr} {c2 : Nat} {us : List Int} {i kept j : Nat} {wr : World} (h : FI w b1 g n c zs P b2 a2 c2 us i kept j wr)
    (hz : zs.Pairwise (· < ·)) (hi : i < zs.length) (hP : P zs[i] = true) (j' : Nat) (hj : j' ≤ us.length) (hlt : ∀ t (h : t < us.length), t < j' → us[t] < zs[i]) (q : Nat) (hcl : zs.length ≤ c)
    (al : a2 ≠ some ⟨g, 0, none⟩ ∨ (us = zs ∧ ∀ x ∈ zs, P x = true) ∨ (∀ x ∈ zs, P x = false)) (hb1 : b1 ≠ g) (hb2 : b2 ≠ g) :
    FI w b1 g n c zs P b2 a2 c2 us (i + 1) (kept + 1) j' ((wr.drewN q).setCell ⟨g, kept, none⟩ (.int .i64 zs[i])) := by
  have hkl := h.k_le
  obtain ⟨cur, h1, h2, h3, h4⟩ := h.row
  have hsplit : zs.filter P = (zs.take i).filter P ++ zs[i] :: (zs.drop (i + 1)).filter P := by
    have e : zs = zs.take i ++ (zs[i] :: zs.drop (i + 1)) := by rw [← List.drop_eq_getElem_cons hi]; exact (List.take_append_drop _ _).symm
    have e2 : zs.filter P = (zs.take i ++ (zs[i] :: zs.drop (i + 1))).filter P := by rw [← e]
    rw [e2, List.filter_append, List.filter_cons_of_pos hP]
  refine ⟨hi, ?_, ⟨_, (h1.drewN q).set kept _, by simpa using h2, fun t ht => ?_, fun t ht hit => ?_⟩, ?_, fun t ht => ?_, (h.sb.drewN q).other (p := ⟨g, kept, none⟩) hb1 _, (h.kp.drewN q).setCell (p := ⟨g, kept, none⟩) (fun _ => by simp) _, hj, fun t ht htj u hu hiu => ?_⟩
  · rw [List.take_succ_eq_append_getElem hi, List.filter_append, List.length_append, ← h.k]; simp [hP]
  · by_cases e : t = kept
    · subst e
      rw [Array.getElem?_setIfInBounds_self_of_lt (by omega), hsplit, iV, List.map_append, List.getElem?_append_right (by simp [h.k])]
      simp [h.k]
    · rw [Array.getElem?_setIfInBounds_ne (by omega)]; exact h3 t (by omega)
  · rw [Array.getElem?_setIfInBounds_ne (by omega)]; exact h4 t ht (by omega)
  · rw [cell_far _ _ _ _ (fun h => hb2 h.symm)]; exact h.tb
  · obtain ⟨g2, e1, e2⟩ := h.tc t ht
    refine ⟨g2, e1, ?_⟩
    rcases al with al | ⟨rfl, al⟩ | al
    · have : g2 ≠ g := by rintro rfl; exact al e1
      rw [cell_far _ _ _ _ (fun h => this h.symm)]; exact e2
    · have hki : kept = i := by
        rw [h.k, List.filter_eq_self.2 (fun x hx => al x (List.mem_of_mem_take hx))]; simp; omega
      by_cases eg : g2 = g
      · subst eg
        subst hki
        rw [((h1.drewN q).set kept _).cell]
        by_cases e : t = kept
        · subst e; rw [Array.getElem?_setIfInBounds_self_of_lt (by omega)]
        · rw [Array.getElem?_setIfInBounds_ne (by omega), ← h1.cell]; exact e2
      · rw [cell_far _ _ _ _ (fun h => eg h.symm)]; exact e2
    · have := al zs[i] (by simp); rw [hP] at this; cases this
  · have h1 := hlt t ht htj
    have h2 := asc_get hz i u (by omega) hu
    omega

theorem contains_at {us : List Int} {x : Int} {j : Nat} (hu : us.Pairwise (· < ·)) (hj : j ≤ us.length) (hlt : ∀ t (h : t < us.length), t < j → us[t] < x) (hge : ∀ h : j < us.length, x ≤ us[j]) :
    us.contains x = (if h : j < us.length then us[j] == x else false) := by
  by_cases h : j < us.length
  · rw [dif_pos h]
    by_cases e : us[j] = x
    · simp [← e]
    · have hn : x ∉ us := by
        intro hm
        obtain ⟨t, ht, rfl⟩ := List.mem_iff_getElem.1 hm
        by_cases h1 : t < j
        · have := hlt t ht h1; omega
        · by_cases h2 : t = j
          · exact e (by simp [h2])
          · have := asc_get hu j t (by omega) ht
            have := hge h; omega
      simp [hn, e]
  · rw [dif_neg h]
    have hn : x ∉ us := by
      intro hm
      obtain ⟨t, ht, rfl⟩ := List.mem_iff_getElem.1 hm
      have := hlt t ht (by omega); omega
    simp [hn]

def PFilter (w : World) (b1 : Nat) (zs us : List Int) (want : Bool) (fp : List Nat) (e : Ending) (w' : World) : Prop := ∃ r : Bool, e = .returned (.bool r) ∧ (r = true ↔ zs.filter (fun x => us.contains x == want) ≠ zs) ∧ SMod w b1 (zs.filter (fun x => us.contains x == want)) fp w'

theorem filter_len {zs : List Int} {P : Int → Bool} : (zs.filter P).length = zs.length ↔ zs.filter P = zs :=
  ⟨fun h => List.filter_sublist.eq_of_length h, fun h => by rw [h]⟩

set_option maxRecDepth 100000 in
set_option maxHeartbeats 4000000 in
theorem s_filter {w : World} {b1 b2 : Nat} {zs us : List Int} {fp1 fp2 : List Nat} (h1 : SetAt w b1 zs fp1) (ok1 : SetOk zs) (h2 : SetAt w b2 us fp2) (ok2 : SetOk us) (hd : (b1 = b2 ∧ zs = us) ∨ ∀ x ∈ fp2, x ∉ fp1) (want : Bool) :
    Calls Tryz.prog 96 #[.pointer (some ⟨b1, 0, none⟩), .pointer (some ⟨b2, 0, none⟩), .bool want] w (PFilter w b1 zs us want fp1) := by
  have h10 := h1
  have hge1 := h1.ge
  obtain ⟨a1, c1, f1, B1, e1, z1, r1, n1, hf1⟩ := h1.op
  obtain ⟨a2, c2, f2, B2, e2, z2, r2, n2, hf2⟩ := h2.op
  have hl1 := ok1.len
  have hl2 := ok2.len
  by_cases hz : zs = []
  · subst hz
    have HS : Hid (SetAt w b1 [] fp1) := h10
    clear h10 h1 h2 r1 r2 n1 n2 hd hge1 B1 B2
    go_enter Tryz.func96, Tryz.ntmps96
    go_wp2_with fail
    go_loopw [7, 8, 16] (fun s7 s8 s16 wr => s7 = .int .i64 0 ∧ s16 = .int .i64 0 ∧ wr = w) (fun _ _ _ _ => 0)
    case atStart => exact ⟨rfl, rfl, rfl⟩
    case round =>
      obtain ⟨rfl, rfl, rfl⟩ := hrel
      go_wp2_with fail
      go_ret
      exact ⟨false, rfl, by simp, SMod.same HS.out ok1 (Kp.refl _ _)⟩
  · obtain ⟨g, rfl⟩ : ∃ g, a1 = some ⟨g, 0, none⟩ := by
      rcases r1 with ⟨_, h, _⟩ | ⟨g, cap, cur, h, _⟩
      · exact absurd h hz
      · simp at h; exact ⟨g, h.1⟩
    obtain ⟨hfg, hcl, hcm⟩ : f1 = [g] ∧ zs.length ≤ c1 ∧ c1 ≤ maxLen := by
      rcases r1 with ⟨_, h, _⟩ | ⟨g', cap, cur, h, h2, h3, h4, h5, h6, h7⟩
      · exact absurd h hz
      · simp at h; obtain ⟨rfl, rfl⟩ := h; exact ⟨h2, h4, h5⟩
    subst hfg
    have hbg : b1 ≠ g := by have := r1.ne B1 (by decide); simpa using this
    have hb2g : b2 ≠ g := by
      rcases hd with ⟨rfl, _⟩ | hd
      · exact hbg
      · rintro rfl; exact hd b2 (by rw [hf2]; simp) (by rw [hf1]; simp)
    obtain ⟨P, hP⟩ : ∃ P : Int → Bool, P = fun x => us.contains x == want := ⟨_, rfl⟩
    have HAL : Hid (a2 ≠ some ⟨g, 0, none⟩ ∨ (us = zs ∧ ∀ x ∈ zs, P x = true) ∨ (∀ x ∈ zs, P x = false)) := by
      rcases hd with ⟨_, rfl⟩ | hd
      · refine .inr ?_
        cases want
        · exact .inr (fun x hx => by rw [hP]; simp [hx])
        · exact .inl ⟨rfl, fun x hx => by rw [hP]; simp [hx]⟩
      · refine .inl ?_
        rintro rfl
        rcases r2 with ⟨h, _⟩ | ⟨g', cap, cur, h, h2, _⟩
        · simp at h
        · simp at h; obtain ⟨rfl, rfl⟩ := h
          exact hd g (by rw [hf2, h2]; simp) (by rw [hf1]; simp)
    have HPO : Hid (PFilter w b1 zs us want fp1 = fun e w' => ∃ r : Bool, e = .returned (.bool r) ∧ (r = true ↔ zs.filter P ≠ zs) ∧ SMod w b1 (zs.filter P) fp1 w') := by rw [hP]; rfl
    have HP : Hid (∀ x, P x = (us.contains x == want)) := fun x => by rw [hP]
    have fi : FI w b1 g zs.length c1 zs P b2 a2 c2 us 0 0 0 w := by
      rcases r1 with ⟨_, h, _⟩ | ⟨g', cap, cur, h, h2, h3, h4, h5, h6, h7⟩
      · exact absurd h hz
      simp at h
      obtain ⟨rfl, rfl⟩ := h
      refine ⟨Nat.zero_le _, by simp, ⟨cur, h3, h6, fun t ht => by omega, fun t ht _ => ?_⟩, e2, fun t ht => ?_, B1, Kp.refl _ _, Nat.zero_le _, fun t _ h => by omega⟩
      · rw [cur_get h7 t ht]; simp [iV, ht]
      · obtain ⟨g2, rfl, _, x2, _⟩ := r2.get t ht
        exact ⟨g2, rfl, x2⟩
    rw [HPO.out]
    have HOK : Hid (SetOk (zs.filter P)) := filter_ok ok1 P
    have HZ : Hid (zs.Pairwise (· < ·)) := ok1.1
    have HU : Hid (us.Pairwise (· < ·)) := ok2.1
    have HGE : Hid (∀ x ∈ fp1, 8 ≤ x) := hge1
    clear hP hd h10 h1 h2 r1 r2 n1 n2 hge1 B1 B2 HPO z1 z2 hf2 ok1 ok2
    generalize hn : zs.length = n at *
    have HN : Hid (zs.length = n) := hn
    clear hn
    generalize hm : us.length = m at *
    have HM : Hid (us.length = m) := hm
    clear hm
    have hn0 : 0 < n := by have := HN.out; cases zs with | nil => exact absurd rfl hz | cons => simp at this; omega
    go_enter Tryz.func96, Tryz.ntmps96
    go_wp2_with fail
    go_loopw [7, 8, 16] (fun s7 s8 s16 wr => ∃ k j i : Nat, s7 = .int .i64 k ∧ s8 = .int .i64 j ∧ s16 = .int .i64 i ∧ FI w b1 g n c1 zs P b2 a2 c2 us i k j wr) (fun _ _ s16 _ => n - (intOf s16).toNat)
    case atStart => exact ⟨0, 0, 0, rfl, rfl, rfl, fi⟩
    case round =>
      clear fi e1 e2
      obtain ⟨k, j, i, rfl, rfl, rfl, fi⟩ := hrel
      have hkl := fi.k_le
      have y1 := fi.sb.cell 0
      simp at y1
      obtain ⟨cur, c1', c2', c3', c4'⟩ := fi.row
      by_cases hi : i < n
      · have hiz : i < zs.length := by rw [HN.out]; exact hi
        have y2 : wr.cell? ⟨g, i, none⟩ = some (.int .i64 zs[i]) := by rw [c1'.cell]; exact c4' i hiz (Nat.le_refl _)
        have y3 : wr.frozen? ⟨g, k, none⟩ = false := c1'.frozen k
        obtain ⟨old, y4⟩ : ∃ old, wr.cell? ⟨g, k, none⟩ = some old := ⟨cur[k]'(by omega), by rw [c1'.cell]; simp⟩
        have x1 := fi.tb
        rw [HM.out] at x1
        have hjm : j ≤ m := by have := fi.hj; rw [HM.out] at this; exact this
        have HC : Hid (∀ t (h : t < us.length), ∃ g2, a2 = some ⟨g2, 0, none⟩ ∧ wr.cell? ⟨g2, t, none⟩ = some (.int .i64 us[t])) := fi.tc
        have HI : Hid (FI w b1 g n c1 zs P b2 a2 c2 us i k j wr) := fi
        have HL0 : Hid (∀ t (h : t < us.length), t < j → us[t] < zs[i]) := fun t h h2 => fi.lt t h h2 i hiz (Nat.le_refl _)
        obtain ⟨x, hx⟩ : ∃ x, x = zs[i] := ⟨_, rfl⟩
        rw [← hx] at y2 HL0
        have HX : Hid (x = zs[i]) := hx
        clear hx fi c3' c4'
        go_wp2_with fail
        go_loopw [8] (fun s8 wq => ∃ j' q : Nat, s8 = .int .i64 j' ∧ wq = wr.drewN q ∧ j' ≤ m ∧ ∀ t (h : t < us.length), t < j' → us[t] < x) (fun s8 _ => m - (intOf s8).toNat)
        case atStart => exact ⟨j, 0, rfl, rfl, hjm, HL0.out⟩
        case round =>
          obtain ⟨j', q, rfl, rfl, hj', hlt⟩ := hrel
          have HLT : Hid (∀ t (h : t < us.length), t < j' → us[t] < x) := hlt
          clear hlt HL0
          by_cases hjl : j' < m
          · have hju : j' < us.length := by rw [HM.out]; exact hjl
            obtain ⟨g2, rfl, x2⟩ := HC.out j' hju
            obtain ⟨y, hy⟩ : ∃ y, y = us[j'] := ⟨_, rfl⟩
            rw [← hy] at x2
            have HY : Hid (y = us[j']) := hy
            clear hy
            by_cases hyx : y < x
            · go_wp2_with fail
              go_roundw
              case rel =>
                refine ⟨j' + 1, _, by go_num, rfl, by omega, fun t h ht => ?_⟩
                by_cases e : t = j'
                · subst e; rw [← HY.out]; exact hyx
                · exact HLT.out t h (by omega)
              case measure => simp [intOf]; omega
            · have hPx : P zs[i] = ((y == x) == want) := by
                rw [HP.out, contains_at HU.out (j := j') (by omega) (fun t h ht => by rw [← HX.out]; exact HLT.out t h ht) (fun h => by rw [← HY.out, ← HX.out]; omega), dif_pos hju, ← HY.out, ← HX.out]
              by_cases hkp : ((y == x) == want) = true
              · rw [hkp] at hPx
                have HPX : Hid (P zs[i] = true) := hPx
                clear hPx
                go_wp2_with fail
                go_roundw
                case rel =>
                  refine ⟨k + 1, j', i + 1, by go_num, rfl, by go_num, ?_⟩
                  rw [HX.out]
                  exact HI.out.keep HZ.out hiz HPX.out j' (by omega) (fun t h ht => by rw [← HX.out]; exact HLT.out t h ht) _ (by rw [HN.out]; exact hcl) HAL.out hbg hb2g
                case measure => simp [intOf]; omega
              · have hkf : ((y == x) == want) = false := by simpa using hkp
                rw [hkf] at hPx
                have HPX : Hid (P zs[i] = false) := hPx
                clear hPx hkp
                go_wp2_with fail
                go_roundw
                case rel => exact ⟨k, j', i + 1, rfl, rfl, by go_num, HI.out.drop HZ.out hiz HPX.out j' (by omega) (fun t h ht => by rw [← HX.out]; exact HLT.out t h ht) _⟩
                case measure => simp [intOf]; omega
          · have hnju : ¬ j' < us.length := by rw [HM.out]; exact hjl
            have hPx : P zs[i] = (false == want) := by
              rw [HP.out, contains_at HU.out (j := j') (by rw [HM.out]; exact hj') (fun t h ht => by rw [← HX.out]; exact HLT.out t h ht) (fun h => absurd h hnju), dif_neg hnju]
            cases want with
            | false =>
              have HPX : Hid (P zs[i] = true) := hPx
              clear hPx
              go_wp2_with fail
              go_roundw
              case rel =>
                refine ⟨k + 1, j', i + 1, by go_num, rfl, by go_num, ?_⟩
                rw [HX.out]
                exact HI.out.keep HZ.out hiz HPX.out j' (by rw [HM.out]; exact hj') (fun t h ht => by rw [← HX.out]; exact HLT.out t h ht) _ (by rw [HN.out]; exact hcl) HAL.out hbg hb2g
              case measure => simp [intOf]; omega
            | true =>
              have HPX : Hid (P zs[i] = false) := hPx
              clear hPx
              go_wp2_with fail
              go_roundw
              case rel => exact ⟨k, j', i + 1, rfl, rfl, by go_num, HI.out.drop HZ.out hiz HPX.out j' (by rw [HM.out]; exact hj') (fun t h ht => by rw [← HX.out]; exact HLT.out t h ht) _⟩
              case measure => simp [intOf]; omega
      · have hie : i = zs.length := by have := fi.hi; rw [HN.out] at *; omega
        have hkn2 : k ≤ n := by have := HN.out; omega
        have hk := fi.k
        rw [hie, List.take_length] at hk
        have hir : ∀ m', m' = k → IRow wr (.slice (some ⟨g, 0, none⟩) m' c1) (zs.filter P) [g] := fun m' hm' =>
          IRow.mk _ _ (by omega) c1' (by omega) hcm c2' (fun t ht => c3' t (by omega))
        have hkp := fi.kp
        have hsb := fi.sb
        have HK : Hid (k = (zs.filter P).length) := hk
        have hkw : Kp fp1 w wr := hkp.mono (fun x hx _ => by simp at hx; subst hx; rw [hf1]; simp)
        clear fi c3' c4' hk
        by_cases hkn : k = n
        · subst hkn
          have HF : Hid (zs.filter P = zs) := filter_len.1 (by rw [← HK.out, HN.out])
          go_wp2_with fail
          go_ret
          refine ⟨false, rfl, by simp [HF.out], fp1, ?_, HOK.out, fun x hx => .inl hx, hkw⟩
          rw [hf1]
          exact SetAt.mk hsb (hir _ rfl) (by rw [HF.out]; simp [hz]) (by rw [← hf1]; exact HGE.out)
        · have hkq : ((k : Int) == (n : Int)) = false := by simp; omega
          have HF : Hid (zs.filter P ≠ zs) := fun e => hkn (by rw [HK.out, e, HN.out])
          have hsh := shrink_any (some ⟨g, 0, none⟩) k c1 hsb (hir k rfl) HK.out (by simp) (by rw [← hf1]; exact HGE.out) (by rw [← HK.out]; omega)
          go_wp2_with fail
          refine hsh.mono ?_
          rintro e w2 ⟨rfl, ⟨f', s1, s2⟩, k2⟩
          go_wp2_with fail
          go_ret
          refine ⟨true, rfl, by simp [HF.out], f', s1, HOK.out, fun x hx => .inl (by rw [hf1]; exact s2 x hx), hkw.trans k2 (fun _ h _ => h) (fun x hx _ => by simp at hx; subst hx; rw [hf1]; simp)⟩
end Go.Proofs.Qxb6500745aGreatDoor
