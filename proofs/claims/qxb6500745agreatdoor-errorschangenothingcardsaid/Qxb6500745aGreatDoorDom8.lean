import Derived.Test.Qxb6500745aGreatDoorDom7
namespace Go.Proofs.Qxb6500745aGreatDoor
open Go.RowKit

theorem bits_small' (op : BinOp) (x y : Int) : ∃ z : Nat, z < W64 ∧ bits op IntKind.u64 x y = (z : Int) := by
  have key : ∀ t : Nat, ∃ z, z < W64 ∧ IntKind.u64.wrap (t : Int) = (z : Int) := fun t => ⟨t % W64, Nat.mod_lt _ (by decide), by
    have hW : W64 = 18446744073709551616 := rfl
    rw [hW]; simp [IntKind.wrap, IntKind.signed, IntKind.bits]⟩
  unfold bits
  cases op <;> first | exact key _ | exact ⟨0, by decide, rfl⟩

theorem upd_one {w : World} {g : Nat} {v1 : Value} {ws f1 : List Nat} (h1 : WordsAt w v1 ws f1) (hg : f1 = [g]) (k : Nat) (m : Int) (hz : ∃ z : Nat, z < W64 ∧ m = (z : Int)) (n : Nat)
    (hl1 : ws.length = n) (hw1 : ∀ x ∈ ws, x < W64) :
    ∃ (ws' : List Nat), WordsAt (w.setCell ⟨g, k, none⟩ (.int .u64 m)) v1 ws' f1 ∧ ws'.length = n ∧ (∀ x ∈ ws', x < W64) := by
  obtain ⟨z, hz, rfl⟩ := hz
  obtain ⟨ws', _, a, _, b, _, c, _⟩ := upd_two h1 h1 hg k z hz n hl1 hl1 hw1 hw1
  exact ⟨ws', a, b, c⟩

def LoopJ (w : World) (b1 n : Nat) (vs : Array Value) (v1 : Value) (f1 : List Nat) (wr : World) : Prop :=
  ∃ (ws : List Nat), Blk wr b1 60 vs ∧ WordsAt wr v1 ws f1 ∧ ws.length = n ∧ (∀ x ∈ ws, x < W64) ∧ Kp (b1 :: f1) w wr

theorem LoopJ.step {w wr : World} {b n g k : Nat} {vs : Array Value} {v1 : Value} {f1 ws : List Nat} {m : Int} (i1 : Blk wr b 60 vs) (i2 : WordsAt wr v1 ws f1) (i4 : ws.length = n) (i6 : ∀ x ∈ ws, x < W64) (i8 : Kp (b :: f1) w wr)
    (hf : f1 = [g]) (hbg : b ≠ g) (hm : ∃ z : Nat, z < W64 ∧ m = (z : Int)) : LoopJ w b n vs v1 f1 (wr.setCell ⟨g, k, none⟩ (.int .u64 m)) := by
  obtain ⟨ws', j1, j2, j3⟩ := upd_one i2 hf k m hm n i4 i6
  exact ⟨ws', i1.other (p := ⟨g, k, none⟩) hbg _, j1, j2, j3, i8.setCell (p := ⟨g, k, none⟩) (fun _ => by simp [hf]) _⟩

set_option maxHeartbeats 400000 in
theorem keepRange_out (b : Nat) (width lo hi : Int) (ev : Value) (w : World) (hc0 : w.cell? ⟨b, 0, none⟩ = some (.int .i64 width)) (hev : w.cell? ⟨2, 0, none⟩ = some ev) (hie : isErr ev)
  (ho : decide (0 ≤ lo ∧ lo < width) = false ∨ decide (0 ≤ hi ∧ hi < width) = false) :
    Calls Tryz.prog 73 #[.pointer (some ⟨b, 0, none⟩), .int .i64 lo, .int .i64 hi] w fun e w' => e = .returned (.tuple #[.bool false, ev]) ∧ w' = w.drew := by
  obtain ⟨a, rfl⟩ := hie
  have hi1 := inRange_any b width lo w hc0
  have hi2 := inRange_any b width hi w hc0
  by_cases h : decide (0 ≤ lo ∧ lo < width) = false
  · rw [h] at hi1
    clear ho h hi2
    go_enter Tryz.func73, Tryz.ntmps73
    go_wp2_with (go_at_call 99; refine hi1.mono ?_; rintro e w2 ⟨rfl, h2⟩; rw [h2]; clear h2 w2)
    go_region
    go_wp2
    go_ret2
    exact ⟨rfl, rfl⟩
  · rcases ho with ho | ho
    · exact absurd ho h
    have h' : decide (0 ≤ lo ∧ lo < width) = true := by simpa using h
    rw [h'] at hi1
    rw [ho] at hi2
    clear h h' ho
    go_enter Tryz.func73, Tryz.ntmps73
    go_wp2_with fail
    refine hi1.mono ?_; rintro e w2 ⟨rfl, h2⟩; rw [h2]; clear h2 w2
    go_wp2_with fail
    refine hi2.mono ?_; rintro e w2 ⟨rfl, h2⟩; rw [h2]; clear h2 w2
    go_wp2_with fail
    go_region
    go_wp2
    go_ret2
    exact ⟨rfl, rfl⟩

def PMod (w : World) (b n : Nat) (width : Int) (a : Option Addr) (f : List Nat) (e : Ending) (w' : World) : Prop := ∃ (r : Bool) (ws' : List Nat), e = .returned (.tuple #[.bool r, .nilIface]) ∧
      Blk w' b 60 #[.int .i64 width, .int .i64 (pcs ws' : Nat), .slice a n n] ∧ WordsAt w' (.slice a n n) ws' f ∧ ws'.length = n ∧ (∀ x ∈ ws', x < W64) ∧ Kp (b :: f) w w'

set_option maxHeartbeats 1000000 in
theorem keepRange_core (b n : Nat) (a : Option Addr) (width cnt lo hi : Int) (ws f : List Nat) (w : World)
    (hb : Blk w b 60 #[.int .i64 width, .int .i64 cnt, .slice a n n]) (hg : WordsAt w (.slice a n n) ws f) (hl : Hid (ws.length = n)) (hn : n ≤ 64) (hw : Hid (∀ x ∈ ws, x < W64))
    (hl0 : 0 ≤ lo) (hl1 : lo < width) (hh0 : 0 ≤ hi) (hh1 : hi < width) (hw4 : width ≤ 4096) :
    Calls Tryz.prog 73 #[.pointer (some ⟨b, 0, none⟩), .int .i64 lo, .int .i64 hi] w (PMod w b n width a f) := by
  have hbf := hg.ne hb (by decide)
  have c0 := hb.cell 0
  have c1 := hb.cell 1
  have c2 := hb.cell 2
  simp at c0 c1 c2
  have hi1 := inRange_any b width lo w c0
  have hi2 := inRange_any b width hi w c0
  rw [show decide (0 ≤ lo ∧ lo < width) = true by simp; omega] at hi1
  rw [show decide (0 ≤ hi ∧ hi < width) = true by simp; omega] at hi2
  by_cases hlh : hi < lo
  · go_enter Tryz.func73, Tryz.ntmps73
    go_wp2_with fail
    refine hi1.mono ?_; rintro e w2 ⟨rfl, h2⟩; rw [h2]; clear h2 w2
    go_wp2_with fail
    refine hi2.mono ?_; rintro e w2 ⟨rfl, h2⟩; rw [h2]; clear h2 w2
    go_wp2_with (go_at_call 71; refine (clear_core b n a width cnt ws f _ hb hg hl).mono ?_; rintro e w2 ⟨rfl, d1, d2, d3⟩)
    go_ret2
    exact ⟨_, List.replicate n 0, rfl, by rw [pcs_zero]; exact d1, d2, by simp, fun x hx => by rw [List.eq_of_mem_replicate hx]; decide, d3⟩
  · go_enter Tryz.func73, Tryz.ntmps73
    go_wp2_with fail
    refine hi1.mono ?_; rintro e w2 ⟨rfl, h2⟩; rw [h2]; clear h2 w2
    go_wp2_with fail
    refine hi2.mono ?_; rintro e w2 ⟨rfl, h2⟩; rw [h2]; clear h2 w2
    go_wp2_with fail
    go_loopw [44, 12] (fun i _ wr => ∃ k : Nat, k ≤ n ∧ i = .int .i64 k ∧ LoopJ w b n #[.int .i64 width, .int .i64 cnt, .slice a n n] (.slice a n n) f wr) (fun i _ _ => n - (intOf i).toNat)
    case atStart => exact ⟨0, Nat.zero_le _, rfl, ws, hb, hg, hl.out, hw.out, Kp.refl _ _⟩
    case round =>
      clear c0 c1 c2 hb hg hl hw hi1 hi2
      obtain ⟨k, hk, rfl, vs, i1, i2, i4, i6, i8⟩ := hrel
      have I4 : Hid (vs.length = n) := i4
      clear i4
      have d12 := i1.cell 2
      simp at d12
      by_cases hlt : k < n
      · have hk1 : k < vs.length := by rw [I4.out]; exact hlt
        obtain ⟨g, rfl, hf1, _, e1, fz1⟩ := i2.get k hk1
        have hbg : b ≠ g := by rw [hf1] at hbf; simpa using hbf
        have HF : Hid (f = [g]) := hf1
        have I6 : Hid (∀ x ∈ vs, x < W64) := i6
        clear i6 hf1 hbf
        generalize vs[k] = x at *
        go_wp2
        all_goals
          go_roundw
          case rel => exact ⟨k + 1, by omega, by go_num, LoopJ.step i1 i2 I4.out I6.out i8 HF.out hbg (bits_small' _ _ _)⟩
          case measure => simp [intOf]; omega
      · have d11 := i1.cell 1
        have f11 := i1.frozen 1
        simp at d11
        go_wp2_with (go_at_call 102; refine (recount_core b cnt a n n vs _ I4 d11 d12 f11 i6 hn i2.cells).mono ?_; rintro e w' ⟨rfl, rfl⟩)
        go_ret2
        exact ⟨_, vs, rfl, i1.set 1 _, i2.other (p := ⟨b, 1, none⟩) hbf _, I4.out, i6, i8.setCell (p := ⟨b, 1, none⟩) (fun _ => by simp) _⟩

set_option maxHeartbeats 400000 in
theorem keepOnly_out (b : Nat) (width v : Int) (ev : Value) (w : World) (hc0 : w.cell? ⟨b, 0, none⟩ = some (.int .i64 width)) (hev : w.cell? ⟨2, 0, none⟩ = some ev) (hie : isErr ev)
  (ho : decide (0 ≤ v ∧ v < width) = false) :
    Calls Tryz.prog 74 #[.pointer (some ⟨b, 0, none⟩), .int .i64 v] w fun e w' => e = .returned (.tuple #[.bool false, ev]) ∧ w' = w.drew := by
  have h := keepRange_out b width v v ev w hc0 hev hie (.inl ho)
  obtain ⟨a, rfl⟩ := hie
  clear ho
  go_enter Tryz.func74, Tryz.ntmps74
  go_wp2_with (go_at_call 73; refine h.mono ?_; rintro e w2 ⟨rfl, h2⟩; rw [h2]; clear h2 w2)
  go_ret2
  exact ⟨rfl, rfl⟩

set_option maxHeartbeats 400000 in
theorem keepOnly_core (b n : Nat) (a : Option Addr) (width cnt v : Int) (ws f : List Nat) (w : World)
    (hb : Blk w b 60 #[.int .i64 width, .int .i64 cnt, .slice a n n]) (hg : WordsAt w (.slice a n n) ws f) (hl : Hid (ws.length = n)) (hn : n ≤ 64) (hw : Hid (∀ x ∈ ws, x < W64))
    (hl0 : 0 ≤ v) (hl1 : v < width) (hw4 : width ≤ 4096) :
    Calls Tryz.prog 74 #[.pointer (some ⟨b, 0, none⟩), .int .i64 v] w (PMod w b n width a f) := by
  have h := keepRange_core b n a width cnt v v ws f w hb hg hl hn hw hl0 hl1 hl0 hl1 hw4
  clear hb hg hl hw
  go_enter Tryz.func74, Tryz.ntmps74
  go_wp2_with (go_at_call 73; refine h.mono ?_; rintro e w2 ⟨r, ws', rfl, h3⟩)
  go_ret2
  exact ⟨_, ws', rfl, h3⟩

theorem WordsAt.upd {w : World} {v : Value} {ws f : List Nat} {g : Nat} (h : WordsAt w v ws f) (hf : f = [g]) (k z : Nat) : WordsAt (w.setCell ⟨g, k, none⟩ (uW z)) v (ws.set k z) f := by
  subst hf
  rcases h with ⟨_, _, h⟩ | ⟨g1, e1, b1, h⟩
  · simp at h
  simp at h; subst h
  have c1 := b1.set k (uW z)
  rw [set_words] at c1
  exact .inr ⟨g, by rw [e1]; simp, c1, rfl⟩

theorem set_mid (x y : Nat) (vs : List Nat) : ∀ k : Nat, (List.replicate k x ++ y :: vs).set k x = List.replicate (k + 1) x ++ vs
  | 0 => by simp
  | k + 1 => by
    have := set_mid x y vs k
    simp only [List.replicate_succ, List.cons_append, List.set_cons_succ] at *
    rw [this]

theorem pc_all : pc 64 (W64 - 1) = 64 := by rw [W64_eq]; exact pc_ones 64 64 (Nat.le_refl _)
theorem pcs_ones (n : Nat) : pcs (List.replicate n (W64 - 1)) = 64 * n := by
  simp [pcs, pc_all]; omega

theorem fill_val (width : Int) (h0 : 0 ≤ width) : IntKind.u64.wrap (IntKind.u64.wrap (2 ^ (width % 64).toNat) - 1) = ((2 ^ (width.toNat % 64) - 1 : Nat) : Int) := by
  rw [bit_shl width h0]
  have hk : width.toNat % 64 < 64 := Nat.mod_lt _ (by omega)
  generalize width.toNat % 64 = k at hk
  have h2 : (2 : Nat) ^ k < 2 ^ 64 := Nat.pow_lt_pow_right (by omega) hk
  have h4 := Nat.two_pow_pos k
  generalize 2 ^ k = m at *
  simp [IntKind.wrap, IntKind.signed, IntKind.bits]
  omega

def PFill (w : World) (b n : Nat) (width : Int) (a : Option Addr) (f : List Nat) (e : Ending) (w' : World) : Prop := ∃ (ws' : List Nat), e = .returned (.tuple #[]) ∧
      Blk w' b 60 #[.int .i64 width, .int .i64 (pcs ws' : Nat), .slice a n n] ∧ WordsAt w' (.slice a n n) ws' f ∧ ws'.length = n ∧ (∀ x ∈ ws', x < W64) ∧ Kp (b :: f) w w'

set_option maxHeartbeats 400000 in
theorem fill_core (b n : Nat) (a : Option Addr) (width cnt : Int) (ws f : List Nat) (w : World)
    (hb : Blk w b 60 #[.int .i64 width, .int .i64 cnt, .slice a n n]) (hg : WordsAt w (.slice a n n) ws f) (hl : Hid (ws.length = n)) (hn : n ≤ 64) (hw : Hid (∀ x ∈ ws, x < W64)) (hcnt : Hid (cnt = (pcs ws : Nat)))
    (hw0 : 0 ≤ width) (hw4 : width ≤ 4096) (hnw : Hid ((n : Int) = (width + 63) / 64)) :
    Calls Tryz.prog 72 #[.pointer (some ⟨b, 0, none⟩)] w (PFill w b n width a f) := by
  have hbf := hg.ne hb (by decide)
  have c0 := hb.cell 0
  have c2 := hb.cell 2
  simp at c0 c2
  by_cases hz : width = 0
  · subst hz
    go_enter Tryz.func72, Tryz.ntmps72
    go_wp2
    go_end0
    exact ⟨ws, rfl, by rw [← hcnt.out]; exact hb, hg, hl.out, hw.out, Kp.refl _ _⟩
  · have hq : (width == 0) = false := by simpa using hz
    go_enter Tryz.func72, Tryz.ntmps72
    go_wp2
    go_loopw [14] (fun i wr => ∃ k : Nat, k ≤ n ∧ i = .int .i64 k ∧ ∃ vs : List Nat, Blk wr b 60 #[.int .i64 width, .int .i64 cnt, .slice a n n] ∧ WordsAt wr (.slice a n n) (List.replicate k (W64 - 1) ++ vs) f ∧ k + vs.length = n ∧ Kp (b :: f) w wr) (fun i _ => n - (intOf i).toNat)
    case atStart => exact ⟨0, Nat.zero_le _, rfl, ws, hb, by simpa using hg, by have := hl.out; omega, Kp.refl _ _⟩
    case round =>
      clear c0 c2 hb hg hl hw hcnt
      obtain ⟨k, hk, rfl, vs, i1, i2, i4, i8⟩ := hrel
      have I4 : Hid (k + vs.length = n) := i4
      clear i4
      have d10 := i1.cell 0
      have d12 := i1.cell 2
      simp at d10 d12
      by_cases hlt : k < n
      · have hk1 : k < (List.replicate k (W64 - 1) ++ vs).length := by simp; have := I4.out; omega
        obtain ⟨g, rfl, hf1, _, e1, fz1⟩ := i2.get k hk1
        have hbg : b ≠ g := by rw [hf1] at hbf; simpa using hbf
        have i3 := i2.upd hf1 k (W64 - 1)
        have HF : Hid (f = [g]) := hf1
        obtain ⟨y, vs', rfl⟩ : ∃ y vs', vs = y :: vs' := by
          cases vs with
          | nil => exfalso; have := I4.out; simp at this; omega
          | cons y vs' => exact ⟨y, vs', rfl⟩
        rw [set_mid] at i3
        have HI3 : Hid (WordsAt (wr.setCell ⟨g, k, none⟩ (uW (W64 - 1))) (.slice (some ⟨g, 0, none⟩) n n) (List.replicate (k + 1) (W64 - 1) ++ vs') f) := i3
        generalize (List.replicate k (W64 - 1) ++ y :: vs')[k] = x at *
        clear hf1 hbf i3
        go_wp2
        go_roundw
        case rel => exact ⟨k + 1, by omega, by go_num, vs', i1.other (p := ⟨g, k, none⟩) hbg _, HI3.out, by have := I4.out; simp at this; omega, i8.setCell (p := ⟨g, k, none⟩) (fun _ => by simp [HF.out]) _⟩
        case measure => simp [intOf]; omega
      · have hkn : k = n := by omega
        subst hkn
        have hv0 : vs = [] := List.eq_nil_of_length_eq_zero (by have := I4.out; omega)
        subst hv0
        rw [List.append_nil] at i2
        have hnn := hnw.out
        have HN := hnw
        clear hnw I4 hk hlt
        have d11 := i1.cell 1
        have f11 := i1.frozen 1
        simp at d11
        have hones : ∀ x ∈ List.replicate k (W64 - 1), x < W64 := fun x hx => by rw [List.eq_of_mem_replicate hx]; decide
        have HO : Hid (∀ x ∈ List.replicate k (W64 - 1), x < W64) := hones
        by_cases hr : width % 64 = 0
        · have hq2 : (width % 64 != 0) = false := by simpa using hr
          have hfin : width = ((pcs (List.replicate k (W64 - 1)) : Nat) : Int) := by rw [pcs_ones]; omega
          have HFI : Hid (width = ((pcs (List.replicate k (W64 - 1)) : Nat) : Int)) := hfin
          clear hfin hr hnn hones
          go_wp2
          go_end0
          exact ⟨_, rfl, by rw [← HFI.out]; exact i1.set 1 _, i2.other (p := ⟨b, 1, none⟩) hbf _, by simp, HO.out, i8.setCell (p := ⟨b, 1, none⟩) (fun _ => by simp) _⟩
        · have hq2 : (width % 64 != 0) = true := by simpa using hr
          have hv := fill_val width hw0
          have hk1 : k - 1 < (List.replicate k (W64 - 1)).length := by simp; omega
          obtain ⟨g, rfl, hf1, _, e1, fz1⟩ := i2.get (k - 1) hk1
          rw [List.getElem_replicate] at e1
          have hbg : b ≠ g := by rw [hf1] at hbf; simpa using hbf
          have hgb := Ne.symm hbg
          have hlt64 : 2 ^ (width.toNat % 64) - 1 < W64 := Nat.lt_of_le_of_lt (Nat.sub_le _ _) (pow_lt_W64 (width.toNat % 64) (Nat.mod_lt _ (by omega)))
          have i3 := i2.upd hf1 (k - 1) (2 ^ (width.toNat % 64) - 1)
          have hps := pcs_set (List.replicate k (W64 - 1)) (k - 1) (2 ^ (width.toNat % 64) - 1) hk1
          rw [pc_ones' (width.toNat % 64) 64 (by omega), pcs_ones, List.getElem_replicate, pc_all] at hps
          have hall : ∀ x ∈ (List.replicate k (W64 - 1)).set (k - 1) (2 ^ (width.toNat % 64) - 1), x < W64 := fun x hx => by
            rcases List.mem_or_eq_of_mem_set hx with h | rfl
            · exact hones x h
            · exact hlt64
          have HALL : Hid (∀ x ∈ (List.replicate k (W64 - 1)).set (k - 1) (2 ^ (width.toNat % 64) - 1), x < W64) := hall
          have hlen : ((List.replicate k (W64 - 1)).set (k - 1) (2 ^ (width.toNat % 64) - 1)).length = k := by simp
          generalize (List.replicate k (W64 - 1)).set (k - 1) (2 ^ (width.toNat % 64) - 1) = vs2 at *
          generalize 2 ^ (width.toNat % 64) - 1 = z at *
          have hfin : width = ((pcs vs2 : Nat) : Int) := by omega
          have HFI : Hid (width = ((pcs vs2 : Nat) : Int)) := hfin
          have HL : Hid (vs2.length = k) := hlen
          have hkk : ((k : Int) - 1).toNat = k - 1 := by omega
          have hk0 : 0 < k := by omega
          have HF : Hid (f = [g]) := hf1
          clear hfin hlen hall hones hps hnn hr hf1 hk1 hlt64
          have g1 : ∀ u, (wr.setCell ⟨g, k - 1, none⟩ u).cell? ⟨b, 1, none⟩ = some (.int .i64 cnt) := fun u => by
            have := (i1.other (p := ⟨g, k - 1, none⟩) hbg u).cell 1; simpa using this
          have g0 : ∀ u, (wr.setCell ⟨g, k - 1, none⟩ u).cell? ⟨b, 0, none⟩ = some (.int .i64 width) := fun u => by
            have := (i1.other (p := ⟨g, k - 1, none⟩) hbg u).cell 0; simpa using this
          have B1 := (i1.drew.other (p := ⟨g, k - 1, none⟩) hbg (uW z)).set 1 (.int .i64 width)
          have K1 := (i8.drew.setCell (p := ⟨g, k - 1, none⟩) (fun _ => by simp [HF.out]) (uW z)).setCell (p := ⟨b, 1, none⟩) (fun _ => by simp) (.int .i64 width)
          have W1 := WordsAt.other (p := ⟨b, 1, none⟩) i3 hbf (.int .i64 width)
          clear i1 i2 i3 i8
          go_wp2
          go_region
          all_goals go_wp2
          all_goals go_end0
          all_goals exact ⟨vs2, rfl, by rw [← HFI.out]; exact B1, W1, HL.out, HALL.out, K1⟩
end Go.Proofs.Qxb6500745aGreatDoor
