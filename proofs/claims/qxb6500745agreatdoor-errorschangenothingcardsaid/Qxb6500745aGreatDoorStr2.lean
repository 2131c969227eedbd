import Derived.Test.Qxb6500745aGreatDoorStr
namespace Go.Proofs.Qxb6500745aGreatDoor
open Go.RowKit

def okOf : Value → Nat
  | .bool true => 1
  | _ => 0

set_option maxHeartbeats 4000000 in
theorem domString_core {ea : Nat → Addr} (b n : Nat) (a : Option Addr) (width cnt : Int) (ws f : List Nat) (w : World) (G : Glob ea w)
    (hb : Blk w b 60 #[.int .i64 width, .int .i64 cnt, .slice a n n]) (hg : WordsAt w (.slice a n n) ws f) (hl : Hid (ws.length = n)) (hn : n ≤ 64) (hW : Hid (∀ x ∈ ws, x < W64))
    (hw0 : 0 ≤ width) (hw4 : width ≤ 4096) (hnw : Hid ((n : Int) = (width + 63) / 64)) :
    Calls Tryz.prog 83 #[.pointer (some ⟨b, 0, none⟩)] w (PStr w) := by
  have hB := Bl.new w
  have hk0' : Below w.heap.size w (w.alloc (.cells #[.pointer none, .slice none 0 0] 123)) := (Below.refl _ w).alloc (Nat.le_refl _) _
  have hbl := hb.lt
  have HFL : Hid (∀ x ∈ f, x < w.heap.size) := hg.lt
  have facts : ∀ W, Below w.heap.size w W → W.cell? ⟨b, 0, none⟩ = some (.int .i64 width) ∧ W.cell? ⟨b, 2, none⟩ = some (.slice a n n) ∧ WordsAt W (.slice a n n) ws f ∧ Glob ea W := fun W k => by
    have k' := Kp.of_below k []
    have h1 := hb.kp k' (by simp)
    have c0 := h1.cell 0
    have c2 := h1.cell 2
    simp at c0 c2
    exact ⟨c0, c2, hg.kp k' (by simp), G.kp k' (fun _ h => by cases h)⟩
  have FACTS : Hid (∀ W, Below w.heap.size w W → W.cell? ⟨b, 0, none⟩ = some (.int .i64 width) ∧ W.cell? ⟨b, 2, none⟩ = some (.slice a n n) ∧ WordsAt W (.slice a n n) ws f ∧ Glob ea W) := facts
  clear facts hb hg G
  go_enter Tryz.func83, Tryz.ntmps83
  go_wp2_with fail
  refine (bl_byte _ _ 123 _ (by omega) hB (by omega)).mono ?_
  rintro e w1 ⟨rfl, h1, k1⟩
  replace hk0' := hk0'.trans k1
  clear hB k1
  obtain ⟨_, c2, g1, G1⟩ := FACTS.out w1 hk0'
  have hmin := min_core b n a ws f w1 c2 g1 hl hn hW G1.tz
  clear c2 g1 G1
  go_wp2_with fail
  refine hmin.mono ?_
  rintro e w2 ⟨v0, ok0, rfl, hv0, hv1, h2⟩
  rw [h2]
  clear h2 w2 hmin
  go_wp2_with fail
  go_loopw [4, 5, 6] (fun sv so _ wr => ∃ (v : Int) (ok : Bool) (m : Nat), sv = .int .i64 v ∧ so = .bool ok ∧ 0 ≤ v ∧ v ≤ 4160 ∧ m ≤ 300000 ∧ (ok = true → (m : Int) ≤ 1 + 50 * v) ∧ Bl w.heap.size wr m ∧ Below w.heap.size w wr)
    (fun sv so _ _ => okOf so * (5000 - intOf sv).toNat)
  case atStart => exact ⟨v0, ok0, 1, rfl, rfl, hv0, by omega, by omega, fun _ => by omega, h1, hk0'⟩
  case round =>
    clear h1 hk0' hv0 hv1
    obtain ⟨v, ok, m, rfl, rfl, hv0, hv1, hm, hmv, hB, hkb⟩ := hrel
    obtain ⟨c0, c2, g1, G1⟩ := FACTS.out wr hkb
    cases ok with
    | false =>
      clear hmv
      go_wp2_with fail
      refine (bl_byte _ _ 125 _ (by omega) hB (by omega)).mono ?_
      rintro e w2 ⟨rfl, b2, k2⟩
      go_wp2_with fail
      refine (bl_done _ _ _ b2).mono ?_
      rintro e w3 ⟨s, rfl, k3⟩
      go_wp2_with fail
      go_ret
      exact ⟨_, rfl, Kp.of_below ((hkb.trans k2).trans k3) _⟩
    | true =>
      have hmv' := hmv rfl
      clear hmv
      go_wp2_with fail
      obtain ⟨wo, hwo⟩ : ∃ wo : World, wo = wr := ⟨_, rfl⟩
      go_loop [6] (fun se => ∃ (x : Int), se = .int .i64 x ∧ v ≤ x ∧ x ≤ 4160) (fun se => (5000 - intOf se).toNat)
      case atStart => exact ⟨v, rfl, by omega, by omega⟩
      case round =>
        obtain ⟨x, rfl, hx0, hx1⟩ := hrel
        clear hwo
        by_cases hin : x + 1 < width
        · have hnn := hnw.out
          have hk1 : ((x + 1) / 64).toNat < ws.length := by rw [hl.out]; omega
          have hix : (x + 1) / 64 < n := by omega
          obtain ⟨g, rfl, hf, _, e1, _⟩ := g1.get ((x + 1) / 64).toNat hk1
          obtain ⟨bt, hbt⟩ : ∃ bt : Nat, IntKind.u64.wrap (2 ^ ((x + 1) % 64).toNat) = (bt : Int) := ⟨_, bit_shl (x + 1) (by omega)⟩
          obtain ⟨y, _, hy⟩ := bits_small .and ws[((x + 1) / 64).toNat] bt
          clear hnn hf
          generalize ws[((x + 1) / 64).toNat] = x0 at *
          by_cases hbit : y = 0
          · subst hbit
            have it : ∀ (z : Int) (W : World) (mm : Nat), 0 ≤ z → z ≤ 5000 → Bl w.heap.size W mm → Below w.heap.size w W → Calls Tryz.prog 107 #[.int .i64 z] W (fun e w4 => ∃ s : ByteArray, e = .returned (.string s) ∧ s.size ≤ 21 ∧ Bl w.heap.size w4 mm ∧ Below w.heap.size w w4) := fun z W mm z0 z1 b3 k3 =>
              (itoa_any z (by omega) (by omega) W (FACTS.out W k3).2.2.2).mono (by
                rintro e w4 ⟨s, rfl, hs, k4⟩
                exact ⟨s, rfl, hs, b3.below k4, k3.trans (k4.mono k3.size)⟩)
            have IT : Hid (∀ (z : Int) (W : World) (mm : Nat), 0 ≤ z → z ≤ 5000 → Bl w.heap.size W mm → Below w.heap.size w W → Calls Tryz.prog 107 #[.int .i64 z] W (fun e w4 => ∃ s : ByteArray, e = .returned (.string s) ∧ s.size ≤ 21 ∧ Bl w.heap.size w4 mm ∧ Below w.heap.size w w4)) := it
            clear it g1 G1
            go_wp2_with fail
            refine (bl_len _ _ _ hB).mono ?_
            rintro e w2 ⟨nl, rfl, h2⟩
            rw [h2]
            clear h2 w2
            by_cases hnl : (1 : Int) < nl
            · go_wp2_with fail
              refine (bl_byte _ _ 44 _ (by omega) hB (by omega)).mono ?_
              rintro e w3 ⟨rfl, b3, k3⟩
              replace k3 := hkb.trans k3
              go_wp2_with fail
              refine (IT.out v _ _ hv0 (by omega) b3 k3).mono ?_
              rintro e w4 ⟨s4, rfl, hs4, b4, k4⟩
              go_wp2_with fail
              refine (bl_string _ _ s4 _ b4 (by omega) (by omega)).mono ?_
              rintro e w5 ⟨rfl, b5, k5⟩
              replace k5 := k4.trans k5
              obtain ⟨d0, d2, d3, D5⟩ := FACTS.out w5 k5
              clear d2 d3 D5
              by_cases hvx : v < x
              · go_wp2_with fail
                refine (bl_string _ _ _ _ b5 (by decide) (by omega)).mono ?_
                rintro e w6 ⟨rfl, b6, k6⟩
                replace b6 := b6.mono (m' := m + 1 + 21 + 2) (by have : ByteArray.size { data := #[46, 46] } = 2 := rfl; omega)
                replace k6 := k5.trans k6
                go_wp2_with fail
                refine (IT.out x _ _ (by omega) (by omega) b6 k6).mono ?_
                rintro e w7 ⟨s7, rfl, hs7, b7, k7⟩
                go_wp2_with fail
                refine (bl_string _ _ s7 _ b7 (by omega) (by omega)).mono ?_
                rintro e w8 ⟨rfl, b8, k8⟩
                replace k8 := k7.trans k8
                obtain ⟨q0, q2, q3, Q5⟩ := FACTS.out w8 k8
                clear q2 q3 Q5
                obtain ⟨n0, n2, n3, N5⟩ := FACTS.out w8 k8
                have hnx := next_core b n _ width (x + 1) ws f w8 n0 n2 n3 hl hn hW N5.tz (by omega) hin hix
                clear n2 n3 N5
                go_wp2_with fail
                refine hnx.mono ?_
                rintro e w9 ⟨r9, ok9, rfl, hr0, hr1, hr2, h9⟩
                rw [h9]
                clear h9 w9
                go_wp2_with fail
                go_roundw
                case rel => exact ⟨r9, ok9, _, rfl, rfl, hr0, hr1, by omega, fun h => by have := hr2 h; omega, b8, k8⟩
                case measure =>
                  cases ok9 with
                  | false => simp [okOf, intOf]; omega
                  | true => have := hr2 rfl; simp [okOf, intOf]; omega

              · obtain ⟨n0, n2, n3, N5⟩ := FACTS.out w5 k5
                have hnx := next_core b n _ width (x + 1) ws f w5 n0 n2 n3 hl hn hW N5.tz (by omega) hin hix
                clear n2 n3 N5
                go_wp2_with fail
                refine hnx.mono ?_
                rintro e w9 ⟨r9, ok9, rfl, hr0, hr1, hr2, h9⟩
                rw [h9]
                clear h9 w9
                go_wp2_with fail
                go_roundw
                case rel => exact ⟨r9, ok9, _, rfl, rfl, hr0, hr1, by omega, fun h => by have := hr2 h; omega, b5, k5⟩
                case measure =>
                  cases ok9 with
                  | false => simp [okOf, intOf]; omega
                  | true => have := hr2 rfl; simp [okOf, intOf]; omega

            · go_wp2_with fail
              refine (IT.out v _ _ hv0 (by omega) hB hkb).mono ?_
              rintro e w4 ⟨s4, rfl, hs4, b4, k4⟩
              go_wp2_with fail
              refine (bl_string _ _ s4 _ b4 (by omega) (by omega)).mono ?_
              rintro e w5 ⟨rfl, b5, k5⟩
              replace k5 := k4.trans k5
              obtain ⟨d0, d2, d3, D5⟩ := FACTS.out w5 k5
              clear d2 d3 D5
              by_cases hvx : v < x
              · go_wp2_with fail
                refine (bl_string _ _ _ _ b5 (by decide) (by omega)).mono ?_
                rintro e w6 ⟨rfl, b6, k6⟩
                replace b6 := b6.mono (m' := m + 1 + 21 + 2) (by have : ByteArray.size { data := #[46, 46] } = 2 := rfl; omega)
                replace k6 := k5.trans k6
                go_wp2_with fail
                refine (IT.out x _ _ (by omega) (by omega) b6 k6).mono ?_
                rintro e w7 ⟨s7, rfl, hs7, b7, k7⟩
                go_wp2_with fail
                refine (bl_string _ _ s7 _ b7 (by omega) (by omega)).mono ?_
                rintro e w8 ⟨rfl, b8, k8⟩
                replace k8 := k7.trans k8
                obtain ⟨q0, q2, q3, Q5⟩ := FACTS.out w8 k8
                clear q2 q3 Q5
                obtain ⟨n0, n2, n3, N5⟩ := FACTS.out w8 k8
                have hnx := next_core b n _ width (x + 1) ws f w8 n0 n2 n3 hl hn hW N5.tz (by omega) hin hix
                clear n2 n3 N5
                go_wp2_with fail
                refine hnx.mono ?_
                rintro e w9 ⟨r9, ok9, rfl, hr0, hr1, hr2, h9⟩
                rw [h9]
                clear h9 w9
                go_wp2_with fail
                go_roundw
                case rel => exact ⟨r9, ok9, _, rfl, rfl, hr0, hr1, by omega, fun h => by have := hr2 h; omega, b8, k8⟩
                case measure =>
                  cases ok9 with
                  | false => simp [okOf, intOf]; omega
                  | true => have := hr2 rfl; simp [okOf, intOf]; omega

              · obtain ⟨n0, n2, n3, N5⟩ := FACTS.out w5 k5
                have hnx := next_core b n _ width (x + 1) ws f w5 n0 n2 n3 hl hn hW N5.tz (by omega) hin hix
                clear n2 n3 N5
                go_wp2_with fail
                refine hnx.mono ?_
                rintro e w9 ⟨r9, ok9, rfl, hr0, hr1, hr2, h9⟩
                rw [h9]
                clear h9 w9
                go_wp2_with fail
                go_roundw
                case rel => exact ⟨r9, ok9, _, rfl, rfl, hr0, hr1, by omega, fun h => by have := hr2 h; omega, b5, k5⟩
                case measure =>
                  cases ok9 with
                  | false => simp [okOf, intOf]; omega
                  | true => have := hr2 rfl; simp [okOf, intOf]; omega
          · have hq : ((y : Int) != 0) = true := by simpa using hbit
            go_wp2_with fail
            go_round
            case rel => exact ⟨x + 1, rfl, by omega, by omega⟩
            case measure => simp [intOf]; omega
        · have hin' : width ≤ x + 1 := by omega
          have it : ∀ (z : Int) (W : World) (mm : Nat), 0 ≤ z → z ≤ 5000 → Bl w.heap.size W mm → Below w.heap.size w W → Calls Tryz.prog 107 #[.int .i64 z] W (fun e w4 => ∃ s : ByteArray, e = .returned (.string s) ∧ s.size ≤ 21 ∧ Bl w.heap.size w4 mm ∧ Below w.heap.size w w4) := fun z W mm z0 z1 b3 k3 =>
            (itoa_any z (by omega) (by omega) W (FACTS.out W k3).2.2.2).mono (by
              rintro e w4 ⟨s, rfl, hs, k4⟩
              exact ⟨s, rfl, hs, b3.below k4, k3.trans (k4.mono k3.size)⟩)
          have IT : Hid (∀ (z : Int) (W : World) (mm : Nat), 0 ≤ z → z ≤ 5000 → Bl w.heap.size W mm → Below w.heap.size w W → Calls Tryz.prog 107 #[.int .i64 z] W (fun e w4 => ∃ s : ByteArray, e = .returned (.string s) ∧ s.size ≤ 21 ∧ Bl w.heap.size w4 mm ∧ Below w.heap.size w w4)) := it
          clear it g1 G1
          go_wp2_with fail
          refine (bl_len _ _ _ hB).mono ?_
          rintro e w2 ⟨nl, rfl, h2⟩
          rw [h2]
          clear h2 w2
          by_cases hnl : (1 : Int) < nl
          · go_wp2_with fail
            refine (bl_byte _ _ 44 _ (by omega) hB (by omega)).mono ?_
            rintro e w3 ⟨rfl, b3, k3⟩
            replace k3 := hkb.trans k3
            go_wp2_with fail
            refine (IT.out v _ _ hv0 (by omega) b3 k3).mono ?_
            rintro e w4 ⟨s4, rfl, hs4, b4, k4⟩
            go_wp2_with fail
            refine (bl_string _ _ s4 _ b4 (by omega) (by omega)).mono ?_
            rintro e w5 ⟨rfl, b5, k5⟩
            replace k5 := k4.trans k5
            obtain ⟨d0, d2, d3, D5⟩ := FACTS.out w5 k5
            clear d2 d3 D5
            by_cases hvx : v < x
            · go_wp2_with fail
              refine (bl_string _ _ _ _ b5 (by decide) (by omega)).mono ?_
              rintro e w6 ⟨rfl, b6, k6⟩
              replace b6 := b6.mono (m' := m + 1 + 21 + 2) (by have : ByteArray.size { data := #[46, 46] } = 2 := rfl; omega)
              replace k6 := k5.trans k6
              go_wp2_with fail
              refine (IT.out x _ _ (by omega) (by omega) b6 k6).mono ?_
              rintro e w7 ⟨s7, rfl, hs7, b7, k7⟩
              go_wp2_with fail
              refine (bl_string _ _ s7 _ b7 (by omega) (by omega)).mono ?_
              rintro e w8 ⟨rfl, b8, k8⟩
              replace k8 := k7.trans k8
              obtain ⟨q0, q2, q3, Q5⟩ := FACTS.out w8 k8
              clear q2 q3 Q5
              go_wp2_with fail
              refine (bl_byte _ _ 125 _ (by omega) b8 (by omega)).mono ?_
              rintro e w10 ⟨rfl, b10, k10⟩
              go_wp2_with fail
              refine (bl_done _ _ _ b10).mono ?_
              rintro e w11 ⟨s11, rfl, k11⟩
              go_wp2_with fail
              go_ret
              exact ⟨_, rfl, Kp.of_below ((k8.trans k10).trans k11) _⟩

            · go_wp2_with fail
              refine (bl_byte _ _ 125 _ (by omega) b5 (by omega)).mono ?_
              rintro e w10 ⟨rfl, b10, k10⟩
              go_wp2_with fail
              refine (bl_done _ _ _ b10).mono ?_
              rintro e w11 ⟨s11, rfl, k11⟩
              go_wp2_with fail
              go_ret
              exact ⟨_, rfl, Kp.of_below ((k5.trans k10).trans k11) _⟩

          · go_wp2_with fail
            refine (IT.out v _ _ hv0 (by omega) hB hkb).mono ?_
            rintro e w4 ⟨s4, rfl, hs4, b4, k4⟩
            go_wp2_with fail
            refine (bl_string _ _ s4 _ b4 (by omega) (by omega)).mono ?_
            rintro e w5 ⟨rfl, b5, k5⟩
            replace k5 := k4.trans k5
            obtain ⟨d0, d2, d3, D5⟩ := FACTS.out w5 k5
            clear d2 d3 D5
            by_cases hvx : v < x
            · go_wp2_with fail
              refine (bl_string _ _ _ _ b5 (by decide) (by omega)).mono ?_
              rintro e w6 ⟨rfl, b6, k6⟩
              replace b6 := b6.mono (m' := m + 1 + 21 + 2) (by have : ByteArray.size { data := #[46, 46] } = 2 := rfl; omega)
              replace k6 := k5.trans k6
              go_wp2_with fail
              refine (IT.out x _ _ (by omega) (by omega) b6 k6).mono ?_
              rintro e w7 ⟨s7, rfl, hs7, b7, k7⟩
              go_wp2_with fail
              refine (bl_string _ _ s7 _ b7 (by omega) (by omega)).mono ?_
              rintro e w8 ⟨rfl, b8, k8⟩
              replace k8 := k7.trans k8
              obtain ⟨q0, q2, q3, Q5⟩ := FACTS.out w8 k8
              clear q2 q3 Q5
              go_wp2_with fail
              refine (bl_byte _ _ 125 _ (by omega) b8 (by omega)).mono ?_
              rintro e w10 ⟨rfl, b10, k10⟩
              go_wp2_with fail
              refine (bl_done _ _ _ b10).mono ?_
              rintro e w11 ⟨s11, rfl, k11⟩
              go_wp2_with fail
              go_ret
              exact ⟨_, rfl, Kp.of_below ((k8.trans k10).trans k11) _⟩

            · go_wp2_with fail
              refine (bl_byte _ _ 125 _ (by omega) b5 (by omega)).mono ?_
              rintro e w10 ⟨rfl, b10, k10⟩
              go_wp2_with fail
              refine (bl_done _ _ _ b10).mono ?_
              rintro e w11 ⟨s11, rfl, k11⟩
              go_wp2_with fail
              go_ret
              exact ⟨_, rfl, Kp.of_below ((k5.trans k10).trans k11) _⟩
end Go.Proofs.Qxb6500745aGreatDoor
