import Derived.Test.Qxb6500745aGreatDoorSeq2
namespace Go.Proofs.Qxb6500745aGreatDoor
open Go.RowKit Go.Shelf

attribute [local go_sem] Oper.semAt_some

set_option maxRecDepth 100000 in
set_option maxHeartbeats 1000000 in
theorem sval1_in (n : Nat) (hn : 2 ≤ n) (l Bs n₀ : Nat) (a : Option Addr) (k0 c : Nat) (zs : List Int) (f : List Nat) (hl : Hid (zs.length = k0)) (hk0 : k0 ≤ 2097152) (J Jx : List Int → World → Prop)
    (hY : ∀ pre x W, J pre W → pre.length < zs.length → YieldAt Fence.wide (n - 1) Tryz.prog l #[.int .i64 x] W fun e W' =>
      (e = .returned (.bool true) ∧ J (pre ++ [x]) W' ∧ Below n₀ W W') ∨ (e = .returned (.bool false) ∧ Jx (pre ++ [x]) W'))
    (W : World) (hBs : W.cell? ⟨Bs, 0, none⟩ = some (.slice a k0 c)) (hg : IRow W (.slice a k0 c) zs f) (hfl : ∀ x ∈ f, x < n₀) (h0 : J [] W) :
    CallsIn Fence.wide n Tryz.prog 93 #[.func (.yield l) #[] #[], .pointer (some ⟨Bs, 0, none⟩)] W fun e W' => (∃ v, e = .returned v) ∧
      ((∃ ys, ys = zs ∧ J ys W') ∨ (∃ pre, pre <+: zs ∧ Jx pre W')) := by
  refine callsIn_of_wp Tryz.func93 rfl trivial ?_ rfl
  simp only [Tryz.ntmps93, List.size_toArray, List.length_cons, List.length_nil, Nat.reduceAdd, Nat.reduceSub, Array.replicate_succ, Array.replicate_zero, List.push_toArray, List.append_toArray, List.nil_append, List.cons_append]
  gi_wp2
  gi_loopw [7, 4] (fun i _ wr => ∃ (k : Nat), k ≤ k0 ∧ i = .int .i64 k ∧ J (zs.take k) wr ∧ Below n₀ W wr)
    (fun i _ _ => k0 - (intOf i).toNat)
  case atStart =>
    exact ⟨0, Nat.zero_le _, rfl, by simpa using h0, Below.refl _ _⟩
  case round =>
    obtain ⟨k, hk, rfl, hJs, hnx⟩ := hrel
    by_cases hlt : k < k0
    · have hk1 : k < zs.length := by rw [hl.out]; exact hlt
      obtain ⟨g, rfl, hf, e1, _⟩ := hg.get k hk1
      have e2 := (hnx.cell (p := ⟨g, k, none⟩) (hfl g (by rw [hf]; simp))).trans e1
      have HTS : Hid (zs.take (k + 1) = zs.take k ++ [zs[k]]) := List.take_succ_eq_append_getElem hk1
      obtain ⟨fn, tmps, assign, body, hy, hR⟩ := hY (zs.take k) zs[k] wr hJs (by rw [List.length_take]; omega)
      clear hg hBs e1
      generalize zs[k] = x at *
      gi_wp2
      refine ⟨fun _ => by omega, hR.mono ?_⟩
      rintro e W3 (⟨rfl, hJ3, hk3⟩ | ⟨rfl, hJx3⟩)
      · gi_wp2
        go_roundw
        case rel => exact ⟨k + 1, by omega, by go_num, by rw [HTS.out]; exact hJ3, hnx.trans hk3⟩
        case measure => simp [intOf]; omega
      · gi_wp2
        refine bodyPost_ret (results_none rfl _ _ _) rfl ?_
        exact ⟨⟨_, rfl⟩, .inr ⟨_, by rw [← HTS.out]; exact List.take_prefix _ _, hJx3⟩⟩
    · have hkk : zs.take k = zs := List.take_of_length_le (by rw [hl.out]; omega)
      gi_wp2
      go_end0
      exact ⟨⟨_, rfl⟩, .inl ⟨_, rfl, by rw [← hkk]; exact hJs⟩⟩

theorem IRow.below {n₀ : Nat} {A B : World} {v : Value} {zs : List Int} {f : List Nat} (h : IRow A v zs f) (k : Below n₀ A B) (hf : ∀ x ∈ f, x < n₀) : IRow B v zs f := by
  rcases h with h | ⟨g, cap, cur, h1, rfl, h3, h4⟩
  · exact .inl h
  · exact .inr ⟨g, cap, cur, h1, rfl, (k.block g (hf g (by simp))).trans h3, h4⟩

theorem sval_stops (n : Nat) (hn : 2 ≤ n) (Bs n₀ : Nat) (a : Option Addr) (k0 c : Nat) (zs : List Int) (f : List Nat) (hl : zs.length = k0) (hk0 : k0 ≤ 2097152) (w : World) (hBs : Bs < w.heap.size) (hn₀ : n₀ ≤ w.heap.size)
    (hc : w.cell? ⟨Bs, 0, none⟩ = some (.slice a k0 c)) (hg : IRow w (.slice a k0 c) zs f) (hfl : ∀ x ∈ f, x < n₀) :
    SeqStopsK Fence.wide n Tryz.prog 93 #[.pointer (some ⟨Bs, 0, none⟩)] (fun x : Int => #[Value.int .i64 x]) (Below n₀) (fun ys => ys = zs) (fun pre => pre <+: zs) zs.length w := fun l J Jx W hW' _ _ hY h0 => by
  have hW1 := hW'.mono hn₀
  exact sval1_in n hn l Bs n₀ a k0 c zs f hl hk0 J Jx hY W ((hW'.cell (p := ⟨Bs, 0, none⟩) hBs).trans hc) (hg.below hW1 hfl) hfl h0

set_option maxRecDepth 100000 in
set_option maxHeartbeats 2000000 in

theorem appendSeq_core (Bs : Nat) (a : Option Addr) (k0 c n1 : Nat) (zs : List Int) (f : List Nat) (w : World) (hl : Hid (zs.length = k0)) (hk0 : k0 ≤ 2097152) (hn1 : n1 ≤ w.heap.size) (hBs : Bs < w.heap.size)
    (hc : w.cell? ⟨Bs, 0, none⟩ = some (.slice a k0 c)) (hg : IRow w (.slice a k0 c) zs f) (hfl : ∀ x ∈ f, x < n1) :
    Calls Tryz.prog 35 #[.slice none 0 0, .func (.func 93) #[] #[.pointer (some ⟨Bs, 0, none⟩)]] w (PRow n1 zs w) := by
  obtain ⟨i0, hi, hz0, hz1, hz2⟩ := info_parts info3
  have hlen : zs.length ≤ 2097152 := by rw [hl.out]; exact hk0
  refine (callsIn_wide (n := 5)).1 ?_
  refine callsIn_of_wp_marks Tryz.func35 rfl trivial ?_ rfl
  simp only [Tryz.ntmps35, List.size_toArray, List.length_cons, List.length_nil, Nat.reduceAdd, Nat.reduceSub, Array.replicate_succ, Array.replicate_zero, List.push_toArray, List.append_toArray, List.nil_append, List.cons_append]
  gi_wp2
  have bO := Boxed.new w 27 (.slice none 0 0)
  have hB0 : Below n1 w (w.alloc (.cells #[.slice none 0 0] 27)) := (Below.refl _ w).alloc hn1 _
  have hB1 : Below w.heap.size w (w.alloc (.cells #[.slice none 0 0] 27)) := (Below.refl _ w).alloc (Nat.le_refl _) _
  have h1 : 1 ≤ 5 := by omega
  refine wpIn_rangeFunc_ownG rfl h1 (gf := 93) (lb := #[.pointer (some ⟨Bs, 0, none⟩)]) rfl trivial (enters_of Tryz.func93 (by kernel_rfl) rfl)
    (sval_stops 4 (by omega) Bs n1 a k0 c zs f hl.out hk0 _ (by simp; omega) (by simp; omega) ((hB1.cell (p := ⟨Bs, 0, none⟩) hBs).trans hc) (hg.below hB0 hfl) hfl) belowK_t (belowK_b (by simp; omega)) (Below.refl _ _) (fun _ => rfl)
    (fun (pre : List Int) W => (∃ v, Boxed W w.heap.size 27 v ∧ W.ownsRow n1 3 1 v pre.length (pre.map (Value.int .i64)) ∧ True) ∧ Below n1 w W)
    (fun _ _ _ => False)
    (OwnFrom.and (Own.from (holdsRow_own n1 w.heap.size 27 3 1 (fun pre : List Int => pre.length) (fun pre : List Int => pre.map (Value.int .i64)) (fun _ _ => True)) _) (ownFrom_below hn1 (by simp; omega)))
    (fun _ _ _ _ _ hs _ _ => hs)
    ⟨⟨_, bO, World.ownsRow_nil _ _ _ _, trivial⟩, hB0⟩
    (fun x => { tmps := #[.slice none 0 0, .func (.func 93) #[] #[.pointer (some ⟨Bs, 0, none⟩)], .pointer (some ⟨w.heap.size, 0, none⟩), undef, .slice none 0 0, .int .i64 x, .func (.func 93) #[] #[.pointer (some ⟨Bs, 0, none⟩)], .int .i64 x, undef, undef, undef, undef, undef], defers := [] }) ?assign ?body ?done ?stop
  case assign =>
    intro l x W K hK
    gi_wp2
    exact hK
  case body =>
    rintro l pre x W ⟨⟨v, hv, hrow, _⟩, hB⟩ hlt
    have hc := hv.cell
    gi_wp2_with (gi_at_builtin; refine wpListIn_append_own _ rfl _ _ 27 rfl n1 3 i0 (.int .i64 0) 1 8 Tryz.underlying27 hi hz0 hz1 hz2 rfl (by decide) _ _ _ rfl (hrow.alloc _) ⟨W.heap.size, 0, none⟩ 1 1 [.int .i64 x] rfl rfl (cell_one_new _ _ _) (by simp [Value.oneCell']) (by simp [maxLen]; omega) (by omega) (by have := hB.size; simp; omega) ?_; intro v' w1 hown' hgrow _; obtain ⟨g', cap', rfl⟩ := ownsRow_succ hown'; obtain ⟨hv1, hv2, hr2, hk2, hb2⟩ := hv.appended (by decide) hrow (Nat.le_trans hn1 hB.size) (by omega) hown' hgrow; have hc1 := hv1.cell; have hf1 := hv1.frozen)
    exact ⟨hk2.from _, hb2, ⟨_, hv2, by simpa using hr2, trivial⟩, hB.trans hb2⟩
  case done =>
    rintro D ys W hD rfl ⟨⟨v, hv, hrow, _⟩, hB⟩ hK
    have hc := hv.cell
    gi_wp2
    refine ⟨by simp, .inl ⟨_, _, rfl, run_takeDeferred hK, ?_⟩⟩
    exact ⟨_, results_tmp rfl _ _ _, v, rfl, ownsRow_putObj hrow _ hK rfl, hB.trans (belowK_b (w := w) hn1 W D _ _ (by simp at hD; omega) hK rfl rfl)⟩
  case stop =>
    rintro D c pre W _ _ h _
    exact h.elim

set_option maxHeartbeats 400000 in
theorem collect_core (Bs : Nat) (a : Option Addr) (k0 c n1 : Nat) (zs : List Int) (f : List Nat) (w : World) (hl : Hid (zs.length = k0)) (hk0 : k0 ≤ 2097152) (hn1 : n1 ≤ w.heap.size) (hBs : Bs < w.heap.size)
    (hc : w.cell? ⟨Bs, 0, none⟩ = some (.slice a k0 c)) (hg : IRow w (.slice a k0 c) zs f) (hfl : ∀ x ∈ f, x < n1) :
    Calls Tryz.prog 17 #[.func (.func 93) #[] #[.pointer (some ⟨Bs, 0, none⟩)]] w (PRow n1 zs w) := by
  have h := appendSeq_core Bs a k0 c n1 zs f w hl hk0 hn1 hBs hc hg hfl
  clear hg
  go_enter Tryz.func17, Tryz.ntmps17
  go_wp2_with fail
  refine h.mono ?_
  rintro e w2 ⟨v, rfl, hr, hB⟩
  obtain ⟨f2, hr2, hf2⟩ := IRow.of_owns hr
  obtain ⟨a2, c2, rfl⟩ := hr2.shape
  go_wp2_with fail
  go_ret
  exact ⟨_, rfl, hr, hB⟩

set_option maxHeartbeats 400000 in
theorem setAll_core (b : Nat) (a : Option Addr) (k0 c : Nat) (w : World) (hc : w.cell? ⟨b, 0, none⟩ = some (.slice a k0 c)) :
    Calls Tryz.prog 18 #[.pointer (some ⟨b, 0, none⟩)] w fun e w' => e = .returned (.func (.func 93) #[] #[.pointer (some ⟨w.heap.size, 0, none⟩)]) ∧ w' = w.alloc (.cells #[.slice a k0 c] 27) := by
  go_enter Tryz.func18, Tryz.ntmps18
  go_wp2
  go_ret
  exact ⟨rfl, rfl⟩
end Go.Proofs.Qxb6500745aGreatDoor
