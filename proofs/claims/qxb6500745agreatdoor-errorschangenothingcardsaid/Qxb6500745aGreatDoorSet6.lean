import Derived.Test.Qxb6500745aGreatDoorSet5
namespace Go.Proofs.Qxb6500745aGreatDoor
open Go.RowKit

theorem un_self_of {zs us : List Int} (hz : zs.Pairwise (· < ·)) (h : ∀ x ∈ us, x ∈ zs) : un zs us = zs :=
  asc_unique _ _ (un_asc hz us) hz (fun x => by rw [un_mem]; exact ⟨fun h' => h'.elim id (h x), .inl⟩)

structure MI (w : World) (b1 g n c : Nat) (zs us : List Int) (I J K : Nat) (wr : World) : Prop where
  i : I ≤ zs.length
  j : J ≤ us.length
  k : K = (un (zs.take I) (us.take J)).length
  kn : K ≤ n
  nc : n ≤ c
  m : ∃ M, un zs us = un (zs.take I) (us.take J) ++ M
  blk : Blk wr b1 62 #[.slice (some ⟨g, 0, none⟩) n c]
  row : ∃ cur, Blk wr g 3 cur ∧ cur.size = c ∧ (∀ t (h : t < I), cur[t]? = some (.int .i64 (zs[t]'(by omega)))) ∧ (∀ t, K ≤ t → t < n → cur[t]? = (iV (un zs us))[t]?)
  kp : Kp [g] w wr

theorem MI.step {w wr : World} {b1 g n c I J K I' J' K' : Nat} {zs us : List Int} {x : Int} (h : MI w b1 g n c zs us I J K wr) (hz : zs.Pairwise (· < ·)) (hu : us.Pairwise (· < ·)) (hI : I' ≤ I) (hJ : J' ≤ J)
    (hun : un (zs.take I) (us.take J) = un (zs.take I') (us.take J') ++ [x]) (hK : K = K' + 1) (hbg : b1 ≠ g) (q : Nat) : MI w b1 g n c zs us I' J' K' ((wr.drewN q).setCell ⟨g, K', none⟩ (.int .i64 x)) := by
  obtain ⟨M, hM⟩ := h.m
  obtain ⟨cur, c1, c2, c3, c4⟩ := h.row
  have hk := h.k
  rw [hun, List.length_append] at hk
  simp only [List.length_cons, List.length_nil] at hk
  have hK' : K' = (un (zs.take I') (us.take J')).length := by omega
  have hge : I' ≤ K' := by
    have h1 := un_ge (asc_take hz I') (us.take J') (asc_take hu J')
    rw [List.length_take] at h1
    have := h.i
    omega
  have hM' : un zs us = un (zs.take I') (us.take J') ++ (x :: M) := by rw [hM, hun]; simp
  have hx : (iV (un zs us))[K']? = some (.int .i64 x) := by
    rw [hM', iV, List.map_append, List.getElem?_append_right (by simp; omega)]
    simp [hK']
  refine ⟨by have := h.i; omega, by have := h.j; omega, hK', by have := h.kn; omega, h.nc, ⟨_, hM'⟩, h.blk.drewN q |>.other (p := ⟨g, K', none⟩) hbg _, ⟨_, (c1.drewN q).set K' _, by simpa using c2, fun t ht => ?_, fun t ht1 ht2 => ?_⟩, (h.kp.drewN q).setCell (p := ⟨g, K', none⟩) (fun _ => by simp) _⟩
  · rw [Array.getElem?_setIfInBounds_ne (by omega)]; exact c3 t (by omega)
  · have hlt : K' < cur.size := by have := h.kn; have := h.nc; omega
    by_cases e : t = K'
    · rw [e, Array.getElem?_setIfInBounds_self_of_lt hlt]; exact hx.symm
    · rw [Array.getElem?_setIfInBounds_ne (by omega)]; exact c4 t (by omega) ht2

theorem MI.done {w wr : World} {b1 g n c I K : Nat} {zs us : List Int} (h : MI w b1 g n c zs us I 0 K wr) (hn : n = (un zs us).length) (hc : c ≤ maxLen) : IRow wr (.slice (some ⟨g, 0, none⟩) n c) (un zs us) [g] := by
  obtain ⟨M, hM⟩ := h.m
  obtain ⟨cur, c1, c2, c3, c4⟩ := h.row
  have hk := h.k
  have hi := h.i
  have e : un (zs.take I) (us.take 0) = zs.take I := by simp [un]
  rw [e] at hk hM
  rw [List.length_take] at hk
  refine IRow.mk _ _ hn c1 (by rw [← hn]; exact h.nc) hc c2 (fun t ht => ?_)
  by_cases h1 : t < I
  · rw [c3 t h1, hM, iV, List.map_append, List.getElem?_append_left (by simp; omega)]
    simp [List.getElem?_take_of_lt h1]
    rw [List.getElem?_eq_getElem (by omega)]; rfl
  · exact c4 t (by omega) (by omega)

theorem un_pick {zs us : List Int} {i j : Nat} (hz : zs.Pairwise (· < ·)) (hu : us.Pairwise (· < ·)) (hj : j < us.length) :
    un (zs.take 0) (us.take (j + 1)) = un (zs.take 0) (us.take j) ++ [us[j]] ∧ ∀ hi : i < zs.length,
    (zs[i] < us[j] → un (zs.take (i + 1)) (us.take (j + 1)) = un (zs.take (i + 1)) (us.take j) ++ [us[j]]) ∧
    (us[j] < zs[i] → un (zs.take (i + 1)) (us.take (j + 1)) = un (zs.take i) (us.take (j + 1)) ++ [zs[i]]) ∧
    (zs[i] = us[j] → un (zs.take (i + 1)) (us.take (j + 1)) = un (zs.take i) (us.take j) ++ [zs[i]]) := by
  have eu : us.take (j + 1) = us.take j ++ [us[j]] := by simp
  have au := asc_take hu (j + 1)
  rw [eu] at au
  refine ⟨?_, fun hi => ?_⟩
  · rw [eu]; exact un_snoc_right (by simp) au (by simp)
  have ez : zs.take (i + 1) = zs.take i ++ [zs[i]] := by simp
  have az := asc_take hz (i + 1)
  have az2 := az
  rw [ez] at az
  have lz := (snoc_lt az).2
  have lu := (snoc_lt au).2
  refine ⟨fun h => ?_, fun h => ?_, fun h => ?_⟩
  · rw [eu]; refine un_snoc_right az2 au (fun y hy => ?_)
    rw [ez] at hy
    rcases List.mem_append.1 hy with hy | hy
    · have := lz y hy; omega
    · simp at hy; omega
  · rw [ez]; refine un_snoc_left az (fun y hy => ?_)
    rw [eu] at hy
    rcases List.mem_append.1 hy with hy | hy
    · have := lu y hy; omega
    · simp at hy; omega
  · rw [eu, ez]; rw [← h] at au ⊢; exact un_snoc_both az au

def PUnion (w : World) (b1 : Nat) (zs us : List Int) (fp : List Nat) (e : Ending) (w' : World) : Prop := ∃ r : Bool, e = .returned (.bool r) ∧ (r = true ↔ un zs us ≠ zs) ∧ SMod w b1 (un zs us) fp w'

set_option maxRecDepth 100000 in
set_option maxHeartbeats 2000000 in
theorem s_unionWith {w : World} {b1 b2 : Nat} {zs us : List Int} {fp1 fp2 : List Nat} (h1 : SetAt w b1 zs fp1) (ok1 : SetOk zs) (h2 : SetAt w b2 us fp2) (ok2 : SetOk us) (hd : (b1 = b2 ∧ zs = us) ∨ ∀ x ∈ fp2, x ∉ fp1) :
    Calls Tryz.prog 39 #[.pointer (some ⟨b1, 0, none⟩), .pointer (some ⟨b2, 0, none⟩)] w (PUnion w b1 zs us fp1) := by
  have h10 := h1
  have hge1 := h1.ge
  obtain ⟨a1, c1, f1, B1, e1, z1, r1, n1, hf1⟩ := h1.op
  obtain ⟨a2, c2, f2, B2, e2, z2, r2, n2, hf2⟩ := h2.op
  have hl1 := ok1.len
  have hl2 := ok2.len
  have hcom : ∀ q, Calls Tryz.prog 94 #[.slice a1 zs.length c1, .slice a2 us.length c2] (w.drewN q) fun e w' => e = .returned (.int .i64 (cc zs us : Nat)) ∧ ∃ q', w' = (w.drewN q).drewN q' := fun q =>
    common_row (r1.kp (Kp.dN w q) (by simp)) (r2.kp (Kp.dN w q) (by simp)) rfl rfl ok1.1 ok2.1 (by omega) (by omega)
  have hsym := cc_sym ok1.1 ok2.1
  have hcle := cc_le us zs
  have hul := un_len ok1.1 us ok2.1
  obtain ⟨m, hm⟩ : ∃ m : Nat, m + cc zs us = us.length := ⟨us.length - cc zs us, by omega⟩
  have hlenU := (un_ok ok1 ok2).len
  by_cases hm0 : m = 0
  · subst hm0
    have hun : un zs us = zs := un_self_of ok1.1 (cc_all.1 (by omega))
    have HUN : Hid (un zs us = zs) := hun
    have hccl : ((us.length : Int) - (cc zs us : Nat)) = 0 := by omega
    have HS : Hid (SetAt w b1 zs fp1) := h10
    clear hsym hcle hul hm hun hlenU h10 h1 h2 r1 r2 n1 n2 B1 B2 ok2 hd
    generalize cc zs us = cz at *
    go_enter Tryz.func39, Tryz.ntmps39
    go_wp2_with fail
    go_quiet ((go_at_call 94; refine Calls.quiet_of (hcom _)))
    go_wp2_with fail
    go_ret
    exact ⟨false, rfl, by simp [HUN.out], by rw [HUN.out]; exact SMod.same HS.out ok1 (Kp.dN _ _)⟩
  · have hd' : ∀ x ∈ fp2, x ∉ fp1 := by
      rcases hd with ⟨_, rfl⟩ | hd
      · exfalso
        have : cc zs zs = zs.length := cc_all.2 (fun x h => h)
        omega
      · exact hd
    have hne : un zs us ≠ zs := fun e => by rw [e] at hul; omega
    have HNE : Hid (un zs us ≠ zs) := hne
    have hnlen : zs.length + m = (un zs us).length := by omega
    have HNL : Hid (zs.length + m = (un zs us).length) := hnlen
    have hmI : ((us.length : Int) - (cc zs us : Nat)) = (m : Int) := by omega
    have hq0 : ((m : Int) == 0) = false := by simpa using hm0
    have hm1 : m ≤ 1048576 := by omega
    have hqpos : 0 < us.length := by omega
    have hmpos : 0 < m := by omega
    have hb1f : b1 ∉ f1 := r1.ne B1 (by decide)
    have HUO : Hid (SetOk (un zs us)) := un_ok ok1 ok2
    have hd2 : Hid (b2 ∉ fp1 ∧ ∀ x ∈ f2, x ∉ fp1) := ⟨hd' b2 (by rw [hf2]; simp), fun x hx => hd' x (by rw [hf2]; simp [hx])⟩
    clear hsym hcle hul hm hlenU h10 h1 h2 n1 n2 hd hd' hne hnlen hm0
    generalize cc zs us = cz at *
    go_enter Tryz.func39, Tryz.ntmps39
    go_wp2_with fail
    go_quiet ((go_at_call 94; refine Calls.quiet_of (hcom _)))
    revert nq; intro p1
    go_wp2_with fail
    go_quiet (fail)
    revert nq; intro p2
    clear hcom hmI
    obtain ⟨g, n, c, w2, f', hr, hn, hf', hrow, hfn, k2⟩ := zeros_row (r1.kp (Kp.dN w (p1 + p2)) (by simp)) m (by omega) hm1 hl1 27
    have B1' := ((B1.drewN (p1 + p2)).kp k2 hb1f)
    have d1 := B1'.cell 0
    have d2 := B1'.frozen 0
    simp at d1
    have HN : Hid (n = zs.length + m) := hn
    have hn2 : n ≤ 2097152 := by omega
    have hn1 : 0 < n := by omega
    clear hn z1
    go_wp2_with (at_builtin; refine Lib.wpList_append_run _ rfl _ _ _ _ rfl _ _ rfl rfl _ _ hr ?_)
    obtain ⟨W, hW⟩ : ∃ W, W = w2.setCell ⟨b1, 0, none⟩ (.slice (some ⟨g, 0, none⟩) n c) := ⟨_, rfl⟩
    rw [← hW]
    subst hf'
    have hgf := hfn g (by simp)
    have hbg : b1 ≠ g := by rintro rfl; rcases hgf with h | h; exact hb1f h; have := B1.lt; simp at h; omega
    have kW : Kp (b1 :: f1) w W := by
      rw [hW]
      exact (Kp.trans (M := b1 :: f1) (Kp.dN w (p1 + p2)) k2 (by simp) (fun x hx _ => by simp [hx])).setCell (p := ⟨b1, 0, none⟩) (fun _ => by simp) _
    have hgW : g < w.heap.size → g ∈ b1 :: f1 := fun hl => by rcases hgf with h | h; simp [h]; simp at h; omega
    have hb2 : b2 ∉ b1 :: f1 := by rw [← hf1]; exact hd2.out.1
    have hf2' : ∀ x ∈ f2, x ∉ b1 :: f1 := by rw [← hf1]; exact hd2.out.2
    have t1 : Blk W b2 62 #[.slice a2 us.length c2] := B2.kp kW hb2
    have t2 : IRow W (.slice a2 us.length c2) us f2 := r2.kp kW hf2'
    have hb2g : b2 ≠ g := by rintro rfl; exact hb2 (hgW B2.lt)
    have hf2g : ∀ x ∈ f2, x ≠ g := by rintro x hx rfl; exact hf2' _ hx (hgW (r2.lt _ hx))
    have hcm : Hid (c ≤ maxLen) := by
      rcases hrow with ⟨h, _⟩ | ⟨g', cap, cur, h1, h2, h3, h4, h5, h6, h7⟩
      · simp at h
      · simp at h1; rw [h1.2.2]; exact h5
    have mi : MI W b1 g n c zs us zs.length us.length n W := by
      rcases hrow with ⟨h, _⟩ | ⟨g', cap, cur, h1, h2, h3, h4, h5, h6, h7⟩
      · simp at h
      simp at h1
      obtain ⟨rfl, hn', rfl⟩ := h1
      have hnl := HNL.out
      have hnn := HN.out
      refine ⟨Nat.le_refl _, Nat.le_refl _, by simp; omega, Nat.le_refl _, by rw [hn']; simpa using h4, ⟨[], by simp⟩, ?_, ⟨cur, ?_, h6, fun t ht => ?_, fun t h1 h2 => by omega⟩, Kp.refl _ _⟩
      · rw [hW]; simpa using B1'.set 0 _
      · rw [hW]; exact h3.other (p := ⟨b1, 0, none⟩) (by simpa using fun h => hbg h.symm) _
      · have := cur_get h7 t (by simp; omega)
        rw [this]; simp [iV, List.getElem?_append_left, ht]
    have HGF : Hid (g ∈ f1 ∨ w.heap.size ≤ g) := hgf
    have HD1 : Hid (∀ t ∈ b1 :: [g], 8 ≤ t) := by
      have q1 := hge1 b1 (by rw [hf1]; simp)
      have q2 := B1.lt
      intro t ht
      simp at ht
      rcases ht with rfl | rfl
      · exact q1
      · rcases hgf with h | h
        · exact hge1 _ (by rw [hf1]; simp [h])
        · simp at h; omega
    clear hgf hW d1 d2 B1' hrow hfn k2 hr e1 e2 z2 hf2' hb2 hgW r1 r2 B1 B2 hb1f hd2 hf2
    have HZ : Hid (zs.Pairwise (· < ·)) := ok1.1
    have HU : Hid (us.Pairwise (· < ·)) := ok2.1
    clear ok1 ok2 hge1
    go_loopw [6, 7, 8] (fun si sj sk wr => ∃ I J K : Nat, si = .int .i64 ((I : Int) - 1) ∧ sj = .int .i64 ((J : Int) - 1) ∧ sk = .int .i64 ((K : Int) - 1) ∧ MI W b1 g n c zs us I J K wr) (fun si sj _ _ => (intOf si + 1).toNat + (intOf sj + 1).toNat)
    case atStart => exact ⟨_, _, _, rfl, rfl, rfl, mi⟩
    case round =>
      clear mi
      obtain ⟨I, J, K, rfl, rfl, rfl, mi⟩ := hrel
      rcases J with _ | j
      · go_wp2_with fail
        go_ret
        have hK := mi.kp
        have hne2 : un zs us ≠ [] := fun h => by have := HNL.out; rw [h] at this; simp at this; omega
        refine ⟨true, rfl, by simp [HNE.out], b1 :: [g], SetAt.mk mi.blk (mi.done (by rw [HN.out, HNL.out]) hcm.out) (by simp [hne2]) HD1.out, HUO.out, ?_, ?_⟩
        · intro x hx
          rw [hf1]
          simp at hx
          rcases hx with rfl | rfl
          · simp
          · rcases HGF.out with h | h
            · simp [h]
            · exact .inr h
        · rw [hf1]
          exact kW.trans hK (fun _ h _ => h) (fun x hx hl => by
            simp at hx; subst hx
            rcases HGF.out with h | h
            · simp [h]
            · omega)
      · have hj : j < us.length := by have := mi.j; omega
        have ej : ((j + 1 : Nat) : Int) - 1 = (j : Int) := by omega
        rw [ej]
        clear ej
        have hpk := fun i => un_pick (i := i) HZ.out HU.out hj
        have hKpos : 0 < K := by
          rw [mi.k]
          rcases I with _ | i
          · rw [(hpk 0).1]; simp
          · have h3 := (hpk i).2 (by have := mi.i; omega)
            rcases Int.lt_trichotomy (zs[i]'(by have := mi.i; omega)) us[j] with h | h | h
            · rw [h3.1 h]; simp
            · rw [h3.2.2 h]; simp
            · rw [h3.2.1 h]; simp
        obtain ⟨k, rfl⟩ : ∃ k, K = k + 1 := ⟨K - 1, by omega⟩
        have ek : ((k + 1 : Nat) : Int) - 1 = (k : Int) := by omega
        rw [ek]
        clear ek
        have T1 := t1.kp mi.kp (by simpa using hb2g)
        obtain ⟨g2, rfl, _, x2, _⟩ := (t2.kp mi.kp (by simpa using hf2g)).get j hj
        have x1 := T1.cell 0
        have y1 := mi.blk.cell 0
        simp at x1 y1
        obtain ⟨cur, c1', c2', c3', c4'⟩ := mi.row
        have hkn := mi.kn
        have hnc := mi.nc
        have hkc : k < cur.size := by omega
        have y3 : wr.frozen? ⟨g, k, none⟩ = false := c1'.frozen k
        obtain ⟨old, y4⟩ : ∃ old, wr.cell? ⟨g, k, none⟩ = some old := ⟨cur[k], by rw [c1'.cell]; simp [hkc]⟩
        rcases I with _ | i
        · have hun := (hpk 0).1
          have HM : Hid (MI W b1 g n c zs us 0 (j + 1) (k + 1) wr) := mi
          have HUN : Hid (un (zs.take 0) (us.take (j + 1)) = un (zs.take 0) (us.take j) ++ [us[j]]) := hun
          clear hpk hun mi c3' c4' T1
          generalize us[j] = y at *
          go_wp2_with fail
          go_quiet (fail)
          go_wp2_with fail
          go_region
          go_wp2_with fail
          go_roundw
          case rel => exact ⟨0, j, k, rfl, rfl, rfl, HM.out.step HZ.out HU.out (Nat.le_refl _) (by omega) HUN.out rfl hbg _⟩
          case measure => simp [intOf]
        · have hi : i < zs.length := by have := mi.i; omega
          have ei : ((i + 1 : Nat) : Int) - 1 = (i : Int) := by omega
          rw [ei]
          clear ei
          have hin : i < n := by
            have h1 := un_ge (asc_take HZ.out (i + 1)) (us.take (j + 1)) (asc_take HU.out (j + 1))
            rw [← mi.k, List.length_take] at h1
            omega
          have z1 : wr.cell? ⟨g, i, none⟩ = some (.int .i64 zs[i]) := by rw [c1'.cell]; exact c3' i (by omega)
          have hp3 := (hpk i).2 hi
          have HM : Hid (MI W b1 g n c zs us (i + 1) (j + 1) (k + 1) wr) := mi
          have H1 : Hid (zs[i] < us[j] → un (zs.take (i + 1)) (us.take (j + 1)) = un (zs.take (i + 1)) (us.take j) ++ [us[j]]) := hp3.1
          have H2 : Hid (us[j] < zs[i] → un (zs.take (i + 1)) (us.take (j + 1)) = un (zs.take i) (us.take (j + 1)) ++ [zs[i]]) := hp3.2.1
          have H3 : Hid (zs[i] = us[j] → un (zs.take (i + 1)) (us.take (j + 1)) = un (zs.take i) (us.take j) ++ [zs[i]]) := hp3.2.2
          clear hpk hp3 mi c3' c4' T1
          generalize us[j] = y at *
          generalize zs[i] = x at *
          rcases Int.lt_trichotomy x y with hlt | heq | hlt
          · have HUN : Hid (un (zs.take (i + 1)) (us.take (j + 1)) = un (zs.take (i + 1)) (us.take j) ++ [y]) := H1.out hlt
            clear H1 H2 H3
            go_wp2_with fail
            go_quiet (fail)
            go_wp2_with fail
            go_region
            go_wp2_with fail
            go_roundw
            case rel => exact ⟨i + 1, j, k, by go_num, rfl, rfl, HM.out.step HZ.out HU.out (Nat.le_refl _) (by omega) HUN.out rfl hbg _⟩
            case measure => simp [intOf]
          · subst heq
            have HUN : Hid (un (zs.take (i + 1)) (us.take (j + 1)) = un (zs.take i) (us.take j) ++ [x]) := H3.out rfl
            clear H1 H2 H3
            go_wp2_with fail
            go_quiet (fail)
            go_wp2_with fail
            go_quiet (fail)
            go_wp2_with fail
            go_region
            go_wp2_with fail
            go_roundw
            case rel => exact ⟨i, j, k, rfl, rfl, rfl, HM.out.step HZ.out HU.out (by omega) (by omega) HUN.out rfl hbg _⟩
            case measure => simp [intOf]; omega
          · have HUN : Hid (un (zs.take (i + 1)) (us.take (j + 1)) = un (zs.take i) (us.take (j + 1)) ++ [x]) := H2.out hlt
            have hnl : ¬ x < y := by omega
            clear H1 H2 H3
            go_wp2_with fail
            go_quiet (fail)
            go_wp2_with fail
            go_quiet (fail)
            go_wp2_with fail
            go_region
            go_wp2_with fail
            go_roundw
            case rel => exact ⟨i, j + 1, k, rfl, by go_num, rfl, HM.out.step HZ.out HU.out (by omega) (Nat.le_refl _) HUN.out rfl hbg _⟩
            case measure => simp [intOf]
end Go.Proofs.Qxb6500745aGreatDoor
