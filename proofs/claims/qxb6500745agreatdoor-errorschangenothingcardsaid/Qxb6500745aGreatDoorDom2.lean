import Derived.Test.Qxb6500745aGreatDoorDom1
namespace Go.Proofs.Qxb6500745aGreatDoor
open Go.RowKit

theorem set_words (ws : List Nat) (k z : Nat) : (ws.map uW).toArray.setIfInBounds k (uW z) = ((ws.set k z).map uW).toArray := by
  simp [List.map_set]

theorem Blk.ne {w : World} {b g : Nat} {T S : TypeId} {vs us : Array Value} (h : Blk w b T vs) (k : Blk w g S us) (hne : T ≠ S) : b ≠ g := by
  rintro rfl
  unfold Blk at *
  rw [h] at k
  simp at k
  exact hne k.2

theorem bits_small (op : BinOp) (x y : Nat) : ∃ z, z < W64 ∧ bits op IntKind.u64 (x : Int) (y : Int) = (z : Int) := by
  have key : ∀ t : Nat, ∃ z, z < W64 ∧ IntKind.u64.wrap (t : Int) = (z : Int) := fun t => ⟨t % W64, Nat.mod_lt _ (by decide), by
    have hW : W64 = 18446744073709551616 := rfl
    rw [hW]; simp [IntKind.wrap, IntKind.signed, IntKind.bits]⟩
  unfold bits
  cases op <;> first | exact key _ | exact ⟨0, by decide, rfl⟩

set_option maxHeartbeats 400000 in
theorem sameU_any (b1 b2 : Nat) (n m : Int) (w : World) (h1 : w.cell? ⟨b1, 0, none⟩ = some (.int .i64 n)) (h2 : w.cell? ⟨b2, 0, none⟩ = some (.int .i64 m)) :
    Calls Tryz.prog 103 #[.pointer (some ⟨b1, 0, none⟩), .pointer (some ⟨b2, 0, none⟩)] w fun e w' => e = .returned (.bool (n == m)) ∧ ∃ q, w' = w.drewN q := by
  go_enter Tryz.func103, Tryz.ntmps103
  go_wp2
  go_quiet (fail)
  go_wp2
  go_ret
  exact ⟨rfl, _, rfl⟩

theorem WordsAt.shape {w : World} {v : Value} {ws f : List Nat} (h : WordsAt w v ws f) : ∃ a, v = .slice a ws.length ws.length := by
  rcases h with ⟨rfl, rfl, _⟩ | ⟨g, rfl, _⟩
  · exact ⟨none, rfl⟩
  · exact ⟨_, rfl⟩

theorem WordsAt.cells {w : World} {a : Option Addr} {n m : Nat} {ws f : List Nat} (h : WordsAt w (.slice a n m) ws f) : WCells w a ws := by
  rcases h with ⟨h, rfl, _⟩ | ⟨g, h, hb, _⟩
  · simp at h; exact .inl ⟨h.1, rfl⟩
  · simp at h; exact .inr ⟨g, h.1, hb⟩

theorem WordsAt.get {w : World} {a : Option Addr} {n m : Nat} {ws f : List Nat} (h : WordsAt w (.slice a n m) ws f) (k : Nat) (hk : k < ws.length) :
    ∃ g, a = some ⟨g, 0, none⟩ ∧ f = [g] ∧ Blk w g 117 (ws.map uW).toArray ∧ w.cell? ⟨g, k, none⟩ = some (.int .u64 (ws[k] : Nat)) ∧ w.frozen? ⟨g, k, none⟩ = false := by
  rcases h with ⟨_, rfl, _⟩ | ⟨g, h, hb, hf⟩
  · simp at hk
  · simp at h
    exact ⟨g, h.1, hf, hb, by rw [hb.cell]; simp [hk, uW], hb.frozen k⟩

theorem WordsAt.other {w : World} {v : Value} {ws f : List Nat} (h : WordsAt w v ws f) {p : Addr} (hp : p.block ∉ f) (u : Value) : WordsAt (w.setCell p u) v ws f := by
  rcases h with h | ⟨g, h1, h2, rfl⟩
  · exact .inl h
  · exact .inr ⟨g, h1, h2.other (by simp at hp; exact Ne.symm hp) u, rfl⟩

theorem WordsAt.ne {w : World} {v : Value} {ws f : List Nat} (h : WordsAt w v ws f) {b : Nat} {T : TypeId} {vs : Array Value} (hb : Blk w b T vs) (hT : T ≠ 117) : b ∉ f := by
  rcases h with ⟨_, _, rfl⟩ | ⟨g, h1, h2, rfl⟩
  · simp
  · have := hb.ne h2 hT; simpa using this

theorem upd_two {w : World} {g : Nat} {v1 v2 : Value} {ws us f1 f2 : List Nat} (h1 : WordsAt w v1 ws f1) (h2 : WordsAt w v2 us f2) (hg : f1 = [g]) (k z : Nat) (hz : z < W64) (n : Nat)
    (hl1 : ws.length = n) (hl2 : us.length = n) (hw1 : ∀ x ∈ ws, x < W64) (hw2 : ∀ x ∈ us, x < W64) :
    ∃ (ws' us' : List Nat), WordsAt (w.setCell ⟨g, k, none⟩ (uW z)) v1 ws' f1 ∧ WordsAt (w.setCell ⟨g, k, none⟩ (uW z)) v2 us' f2 ∧
      ws'.length = n ∧ us'.length = n ∧ (∀ x ∈ ws', x < W64) ∧ (∀ x ∈ us', x < W64) := by
  subst hg
  rcases h1 with ⟨_, _, h⟩ | ⟨g1, e1, b1, h⟩
  · simp at h
  simp at h; subst h
  have hs : ∀ x ∈ ws.set k z, x < W64 := fun x hx => by
    rcases List.mem_or_eq_of_mem_set hx with h | rfl
    · exact hw1 x h
    · exact hz
  have c1 := b1.set k (uW z)
  rw [set_words] at c1
  have d1 : WordsAt (w.setCell ⟨g, k, none⟩ (uW z)) v1 (ws.set k z) [g] := .inr ⟨g, by rw [e1]; simp, c1, rfl⟩
  rcases h2 with ⟨e2, rfl, rfl⟩ | ⟨g2, e2, b2, rfl⟩
  · exact ⟨ws.set k z, [], d1, .inl ⟨e2, rfl, rfl⟩, by simpa using hl1, hl2, hs, hw2⟩
  by_cases e : g2 = g
  · subst e
    exact ⟨ws.set k z, ws.set k z, d1, .inr ⟨g2, by rw [e2]; simp [hl1, hl2], c1, rfl⟩, by simpa using hl1, by simpa using hl1, hs, hs⟩
  · exact ⟨ws.set k z, us, d1, .inr ⟨g2, e2, b2.other (p := ⟨g, k, none⟩) e _, rfl⟩, by simpa using hl1, hl2, hs, hw2⟩

def LoopI (w : World) (b1 n : Nat) (vs : Array Value) (v1 v2 : Value) (f1 f2 : List Nat) (wr : World) : Prop :=
  ∃ (ws us : List Nat), Blk wr b1 60 vs ∧ WordsAt wr v1 ws f1 ∧ WordsAt wr v2 us f2 ∧ ws.length = n ∧ us.length = n ∧ (∀ x ∈ ws, x < W64) ∧ (∀ x ∈ us, x < W64) ∧ Kp (b1 :: f1) w wr

set_option maxHeartbeats 400000 in
theorem union_core (b1 b2 n : Nat) (a1 a2 : Option Addr) (width cnt cnt2 : Int) (ws us f1 f2 : List Nat) (w : World)
    (hb1 : Blk w b1 60 #[.int .i64 width, .int .i64 cnt, .slice a1 n n]) (hb2 : Blk w b2 60 #[.int .i64 width, .int .i64 cnt2, .slice a2 n n])
    (hg1 : WordsAt w (.slice a1 n n) ws f1) (hg2 : WordsAt w (.slice a2 n n) us f2) (hl1 : Hid (ws.length = n)) (hl2 : Hid (us.length = n)) (hn : n ≤ 64)
    (hw1 : Hid (∀ x ∈ ws, x < W64)) (hw2 : Hid (∀ x ∈ us, x < W64)) :
    Calls Tryz.prog 77 #[.pointer (some ⟨b1, 0, none⟩), .pointer (some ⟨b2, 0, none⟩)] w fun e w' => ∃ (r : Bool) (ws' : List Nat), e = .returned (.tuple #[.bool r, .nilIface]) ∧
      Blk w' b1 60 #[.int .i64 width, .int .i64 (pcs ws' : Nat), .slice a1 n n] ∧ WordsAt w' (.slice a1 n n) ws' f1 ∧ ws'.length = n ∧ (∀ x ∈ ws', x < W64) ∧ Kp (b1 :: f1) w w' := by
  have hbf := hg1.ne hb1 (by decide)
  have c10 := hb1.cell 0
  have c20 := hb2.cell 0; have c22 := hb2.cell 2
  simp at c10 c20 c22
  go_enter Tryz.func77, Tryz.ntmps77
  go_wp2_with (go_at_call 103; refine (sameU_any _ _ _ _ _ c10 c20).mono ?_; rintro e w' ⟨rfl, q, rfl⟩)
  go_loopw [18] (fun i wr => ∃ k : Nat, k ≤ n ∧ i = .int .i64 k ∧ LoopI w b1 n #[.int .i64 width, .int .i64 cnt, .slice a1 n n] (.slice a1 n n) (.slice a2 n n) f1 f2 wr) (fun i _ => n - (intOf i).toNat)
  case atStart => exact ⟨0, Nat.zero_le _, rfl, ws, us, hb1, hg1, hg2, hl1.out, hl2.out, hw1.out, hw2.out, (Kp.refl _ _).drewN q⟩
  case round =>
    clear c10 c20 c22 hb1 hb2 hg1 hg2 hl1 hl2 hw1 hw2
    obtain ⟨k, hk, rfl, hI⟩ := hrel
    obtain ⟨vs, ts, i1, i2, i3, i4, i5, i6, i7, i8⟩ := hI
    have I4 : Hid (vs.length = n) := i4
    have I5 : Hid (ts.length = n) := i5
    clear i4 i5
    have d12 := i1.cell 2
    simp at d12
    by_cases hlt : k < n
    · have hk1 : k < vs.length := by rw [I4.out]; exact hlt
      have hk2 : k < ts.length := by rw [I5.out]; exact hlt
      obtain ⟨g1, rfl, hf1, _, e1, fz1⟩ := i2.get k hk1
      obtain ⟨g2, rfl, hf2, _, e2, _⟩ := i3.get k hk2
      obtain ⟨z, hz, hor⟩ := bits_small .or vs[k] ts[k]
      have hbg : b1 ≠ g1 := by rw [hf1] at hbf; simpa using hbf
      have I2 := upd_two i2 i3 hf1 k z hz n I4.out I5.out i6 i7
      have B1 := i1.other (p := ⟨g1, k, none⟩) hbg (uW z)
      have K8 := i8.setCell (p := ⟨g1, k, none⟩) (fun _ => by simp [hf1]) (uW z)
      clear i1 i2 i3 i6 i7 i8 hf1 hf2 hbf
      generalize vs[k] = x at *
      generalize ts[k] = y at *
      go_wp2
      go_roundw
      case rel =>
        obtain ⟨ws', us', j1, j2, j3, j4, j5, j6⟩ := I2
        exact ⟨k + 1, by omega, by go_num, ws', us', B1, j1, j2, j3, j4, j5, j6, K8⟩
      case measure => simp [intOf]; omega
    · have d11 := i1.cell 1
      have f11 := i1.frozen 1
      simp at d11
      go_wp2_with (go_at_call 102; refine (recount_core b1 cnt a1 n n vs _ I4 d11 d12 f11 i6 hn i2.cells).mono ?_; rintro e w' ⟨rfl, rfl⟩)
      go_ret2
      refine ⟨_, vs, rfl, i1.set 1 _, i2.other (p := ⟨b1, 1, none⟩) hbf _, I4.out, i6, i8.setCell (p := ⟨b1, 1, none⟩) (fun _ => by simp) _⟩

set_option maxHeartbeats 400000 in
theorem inter_core (b1 b2 n : Nat) (a1 a2 : Option Addr) (width cnt cnt2 : Int) (ws us f1 f2 : List Nat) (w : World)
    (hb1 : Blk w b1 60 #[.int .i64 width, .int .i64 cnt, .slice a1 n n]) (hb2 : Blk w b2 60 #[.int .i64 width, .int .i64 cnt2, .slice a2 n n])
    (hg1 : WordsAt w (.slice a1 n n) ws f1) (hg2 : WordsAt w (.slice a2 n n) us f2) (hl1 : Hid (ws.length = n)) (hl2 : Hid (us.length = n)) (hn : n ≤ 64)
    (hw1 : Hid (∀ x ∈ ws, x < W64)) (hw2 : Hid (∀ x ∈ us, x < W64)) :
    Calls Tryz.prog 78 #[.pointer (some ⟨b1, 0, none⟩), .pointer (some ⟨b2, 0, none⟩)] w fun e w' => ∃ (r : Bool) (ws' : List Nat), e = .returned (.tuple #[.bool r, .nilIface]) ∧
      Blk w' b1 60 #[.int .i64 width, .int .i64 (pcs ws' : Nat), .slice a1 n n] ∧ WordsAt w' (.slice a1 n n) ws' f1 ∧ ws'.length = n ∧ (∀ x ∈ ws', x < W64) ∧ Kp (b1 :: f1) w w' := by
  have hbf := hg1.ne hb1 (by decide)
  have c10 := hb1.cell 0
  have c20 := hb2.cell 0; have c22 := hb2.cell 2
  simp at c10 c20 c22
  go_enter Tryz.func78, Tryz.ntmps78
  go_wp2_with (go_at_call 103; refine (sameU_any _ _ _ _ _ c10 c20).mono ?_; rintro e w' ⟨rfl, q, rfl⟩)
  go_loopw [18] (fun i wr => ∃ k : Nat, k ≤ n ∧ i = .int .i64 k ∧ LoopI w b1 n #[.int .i64 width, .int .i64 cnt, .slice a1 n n] (.slice a1 n n) (.slice a2 n n) f1 f2 wr) (fun i _ => n - (intOf i).toNat)
  case atStart => exact ⟨0, Nat.zero_le _, rfl, ws, us, hb1, hg1, hg2, hl1.out, hl2.out, hw1.out, hw2.out, (Kp.refl _ _).drewN q⟩
  case round =>
    clear c10 c20 c22 hb1 hb2 hg1 hg2 hl1 hl2 hw1 hw2
    obtain ⟨k, hk, rfl, hI⟩ := hrel
    obtain ⟨vs, ts, i1, i2, i3, i4, i5, i6, i7, i8⟩ := hI
    have I4 : Hid (vs.length = n) := i4
    have I5 : Hid (ts.length = n) := i5
    clear i4 i5
    have d12 := i1.cell 2
    simp at d12
    by_cases hlt : k < n
    · have hk1 : k < vs.length := by rw [I4.out]; exact hlt
      have hk2 : k < ts.length := by rw [I5.out]; exact hlt
      obtain ⟨g1, rfl, hf1, _, e1, fz1⟩ := i2.get k hk1
      obtain ⟨g2, rfl, hf2, _, e2, _⟩ := i3.get k hk2
      obtain ⟨z, hz, hor⟩ := bits_small .and vs[k] ts[k]
      have hbg : b1 ≠ g1 := by rw [hf1] at hbf; simpa using hbf
      have I2 := upd_two i2 i3 hf1 k z hz n I4.out I5.out i6 i7
      have B1 := i1.other (p := ⟨g1, k, none⟩) hbg (uW z)
      have K8 := i8.setCell (p := ⟨g1, k, none⟩) (fun _ => by simp [hf1]) (uW z)
      clear i1 i2 i3 i6 i7 i8 hf1 hf2 hbf
      generalize vs[k] = x at *
      generalize ts[k] = y at *
      go_wp2
      go_roundw
      case rel =>
        obtain ⟨ws', us', j1, j2, j3, j4, j5, j6⟩ := I2
        exact ⟨k + 1, by omega, by go_num, ws', us', B1, j1, j2, j3, j4, j5, j6, K8⟩
      case measure => simp [intOf]; omega
    · have d11 := i1.cell 1
      have f11 := i1.frozen 1
      simp at d11
      go_wp2_with (go_at_call 102; refine (recount_core b1 cnt a1 n n vs _ I4 d11 d12 f11 i6 hn i2.cells).mono ?_; rintro e w' ⟨rfl, rfl⟩)
      go_ret2
      refine ⟨_, vs, rfl, i1.set 1 _, i2.other (p := ⟨b1, 1, none⟩) hbf _, I4.out, i6, i8.setCell (p := ⟨b1, 1, none⟩) (fun _ => by simp) _⟩

set_option maxHeartbeats 400000 in
theorem diff_core (b1 b2 n : Nat) (a1 a2 : Option Addr) (width cnt cnt2 : Int) (ws us f1 f2 : List Nat) (w : World)
    (hb1 : Blk w b1 60 #[.int .i64 width, .int .i64 cnt, .slice a1 n n]) (hb2 : Blk w b2 60 #[.int .i64 width, .int .i64 cnt2, .slice a2 n n])
    (hg1 : WordsAt w (.slice a1 n n) ws f1) (hg2 : WordsAt w (.slice a2 n n) us f2) (hl1 : Hid (ws.length = n)) (hl2 : Hid (us.length = n)) (hn : n ≤ 64)
    (hw1 : Hid (∀ x ∈ ws, x < W64)) (hw2 : Hid (∀ x ∈ us, x < W64)) :
    Calls Tryz.prog 79 #[.pointer (some ⟨b1, 0, none⟩), .pointer (some ⟨b2, 0, none⟩)] w fun e w' => ∃ (r : Bool) (ws' : List Nat), e = .returned (.tuple #[.bool r, .nilIface]) ∧
      Blk w' b1 60 #[.int .i64 width, .int .i64 (pcs ws' : Nat), .slice a1 n n] ∧ WordsAt w' (.slice a1 n n) ws' f1 ∧ ws'.length = n ∧ (∀ x ∈ ws', x < W64) ∧ Kp (b1 :: f1) w w' := by
  have hbf := hg1.ne hb1 (by decide)
  have c10 := hb1.cell 0
  have c20 := hb2.cell 0; have c22 := hb2.cell 2
  simp at c10 c20 c22
  go_enter Tryz.func79, Tryz.ntmps79
  go_wp2_with (go_at_call 103; refine (sameU_any _ _ _ _ _ c10 c20).mono ?_; rintro e w' ⟨rfl, q, rfl⟩)
  go_loopw [18] (fun i wr => ∃ k : Nat, k ≤ n ∧ i = .int .i64 k ∧ LoopI w b1 n #[.int .i64 width, .int .i64 cnt, .slice a1 n n] (.slice a1 n n) (.slice a2 n n) f1 f2 wr) (fun i _ => n - (intOf i).toNat)
  case atStart => exact ⟨0, Nat.zero_le _, rfl, ws, us, hb1, hg1, hg2, hl1.out, hl2.out, hw1.out, hw2.out, (Kp.refl _ _).drewN q⟩
  case round =>
    clear c10 c20 c22 hb1 hb2 hg1 hg2 hl1 hl2 hw1 hw2
    obtain ⟨k, hk, rfl, hI⟩ := hrel
    obtain ⟨vs, ts, i1, i2, i3, i4, i5, i6, i7, i8⟩ := hI
    have I4 : Hid (vs.length = n) := i4
    have I5 : Hid (ts.length = n) := i5
    clear i4 i5
    have d12 := i1.cell 2
    simp at d12
    by_cases hlt : k < n
    · have hk1 : k < vs.length := by rw [I4.out]; exact hlt
      have hk2 : k < ts.length := by rw [I5.out]; exact hlt
      obtain ⟨g1, rfl, hf1, _, e1, fz1⟩ := i2.get k hk1
      obtain ⟨g2, rfl, hf2, _, e2, _⟩ := i3.get k hk2
      obtain ⟨z, hz, hor⟩ := bits_small .andNot vs[k] ts[k]
      have hbg : b1 ≠ g1 := by rw [hf1] at hbf; simpa using hbf
      have I2 := upd_two i2 i3 hf1 k z hz n I4.out I5.out i6 i7
      have B1 := i1.other (p := ⟨g1, k, none⟩) hbg (uW z)
      have K8 := i8.setCell (p := ⟨g1, k, none⟩) (fun _ => by simp [hf1]) (uW z)
      clear i1 i2 i3 i6 i7 i8 hf1 hf2 hbf
      generalize vs[k] = x at *
      generalize ts[k] = y at *
      go_wp2
      go_roundw
      case rel =>
        obtain ⟨ws', us', j1, j2, j3, j4, j5, j6⟩ := I2
        exact ⟨k + 1, by omega, by go_num, ws', us', B1, j1, j2, j3, j4, j5, j6, K8⟩
      case measure => simp [intOf]; omega
    · have d11 := i1.cell 1
      have f11 := i1.frozen 1
      simp at d11
      go_wp2_with (go_at_call 102; refine (recount_core b1 cnt a1 n n vs _ I4 d11 d12 f11 i6 hn i2.cells).mono ?_; rintro e w' ⟨rfl, rfl⟩)
      go_ret2
      refine ⟨_, vs, rfl, i1.set 1 _, i2.other (p := ⟨b1, 1, none⟩) hbf _, I4.out, i6, i8.setCell (p := ⟨b1, 1, none⟩) (fun _ => by simp) _⟩

end Go.Proofs.Qxb6500745aGreatDoor
