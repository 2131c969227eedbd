import Derived.Test.Qxb6500745aGreatDoorDom11
import Derived.Test.Qxb6500745aGreatDoorVals
import Derived.RangeFuncBox
import Derived.RangeFuncNested
import Derived.RangeFuncLeaves
import Derived.Shelf.Abstract
import Derived.OwnWalkIn
import Derived.TacticsInMore
import Derived.LoopNIn
import Derived.LoopIn
import Derived.Maps.AppendAt
namespace Go.Proofs.Qxb6500745aGreatDoor
open Go.RowKit Go.Shelf

attribute [local go_sem] Oper.semAt_some

theorem sub_one_u64 (x : Nat) (h0 : x ≠ 0) (hx : x < W64) : IntKind.u64.wrap ((x : Int) - 1) = ((x - 1 : Nat) : Int) := by
  rw [show (x : Int) - 1 = ((x - 1 : Nat) : Int) by omega]; exact wrap_u64 _ (by omega)

def KB (n₀ Bn : Nat) (W W' : World) : Prop := Below n₀ W W' ∧ W'.heap[Bn]? = W.heap[Bn]?
theorem KB.refl (n₀ Bn : Nat) (W : World) : KB n₀ Bn W W := ⟨Below.refl _ _, rfl⟩
theorem KB.trans {n₀ Bn : Nat} {A B C : World} (h : KB n₀ Bn A B) (k : KB n₀ Bn B C) : KB n₀ Bn A C := ⟨h.1.trans k.1, k.2.trans h.2⟩
theorem KB.b {n₀ Bn : Nat} {w : World} (hn : n₀ ≤ w.heap.size) (hB : Bn < w.heap.size) (W : World) (l : Nat) (o o' : Obj) (hl : w.heap.size ≤ l) (h : W.heap[l]? = some o) (hc : o.isCells = false) (hw : o.isWalk = false) : KB n₀ Bn W (W.putObj l o') :=
  ⟨belowK_b hn W l o o' hl h hc hw, (grownBy_putObj' W l o').block Bn (by have := (Array.getElem?_eq_some_iff.1 h).1; omega) (by simp; omega)⟩

set_option maxRecDepth 100000 in
set_option maxHeartbeats 1000000 in
theorem dall1_in (n : Nat) (hn : 2 ≤ n) (l Bn n₀ b k0 : Nat) (a : Option Addr) (ws f : List Nat) (hl : Hid (ws.length = k0)) (hk0 : k0 ≤ 64) (hW : Hid (∀ x ∈ ws, x < W64)) (J Jx : List Int → World → Prop)
    (hY : ∀ pre x W, J pre W → pre.length < (vals ws).length → YieldAt Fence.wide (n - 1) Tryz.prog l #[.int .i64 x] W fun e W' =>
      (e = .returned (.bool true) ∧ J (pre ++ [x]) W' ∧ KB n₀ Bn W W') ∨ (e = .returned (.bool false) ∧ Jx (pre ++ [x]) W'))
    (W : World) (hBn : W.cell? ⟨Bn, 0, none⟩ = some (.pointer (some ⟨b, 0, none⟩))) (hbl : b < n₀) (hfl : ∀ x ∈ f, x < n₀) (h5 : 5 < n₀) (hc : W.cell? ⟨b, 2, none⟩ = some (.slice a k0 k0)) (hg : WordsAt W (.slice a k0 k0) ws f)
    (hT : TabAt 5 Lib.deBruijn64tab W) (h0 : J [] W) :
    CallsIn Fence.wide n Tryz.prog 116 #[.func (.yield l) #[] #[], .pointer (some ⟨Bn, 0, none⟩)] W fun e W' => (∃ v, e = .returned v) ∧
      ((∃ ys, ys = vals ws ∧ J ys W') ∨ (∃ pre, pre <+: vals ws ∧ Jx pre W')) := by
  refine callsIn_of_wp Tryz.func116 rfl trivial ?_ rfl
  simp only [Tryz.ntmps116, List.size_toArray, List.length_cons, List.length_nil, Nat.reduceAdd, Nat.reduceSub, Array.replicate_succ, Array.replicate_zero, List.push_toArray, List.append_toArray, List.nil_append, List.cons_append]
  gi_wp2
  gi_loopw [10, 3, 4] (fun i _ _ wr => ∃ (k : Nat) (pre : List Int), k ≤ k0 ∧ i = .int .i64 k ∧ vals ws = pre ++ valsFrom k (ws.drop k) ∧ J pre wr ∧ KB n₀ Bn W wr)
    (fun i _ _ _ => k0 - (intOf i).toNat)
  case atStart =>
    exact ⟨0, [], Nat.zero_le _, rfl, by simp [vals], h0, KB.refl _ _ _⟩
  case round =>
    obtain ⟨k, pre, hk, rfl, hx, hJs, hnx⟩ := hrel
    have hc0 := (World.cell?_of_block (a := ⟨Bn, 0, none⟩) hnx.2).trans hBn
    have hc2 := (hnx.1.cell (p := ⟨b, 2, none⟩) hbl).trans hc
    have HX : Hid (vals ws = pre ++ valsFrom k (ws.drop k)) := hx
    clear hx
    by_cases hlt : k < k0
    · have hk1 : k < ws.length := by rw [hl.out]; exact hlt
      obtain ⟨g, rfl, hf, _, e1, _⟩ := hg.get k hk1
      have e2 := (hnx.1.cell (p := ⟨g, k, none⟩) (hfl g (by rw [hf]; simp))).trans e1
      have hxW := hW.out ws[k] (List.getElem_mem _)
      have hdr : ws.drop k = ws[k] :: ws.drop (k + 1) := List.drop_eq_getElem_cons hk1
      have HX2 : Hid (vals ws = pre ++ (wv k ws[k] ++ valsFrom (k + 1) (ws.drop (k + 1)))) := by have := HX.out; rw [hdr] at this; exact this
      have HXW : Hid (ws[k] < W64) := hxW
      clear e1 hxW hdr HX hg hc hBn
      generalize hxe : ws[k] = x0 at *
      clear hxe
      gi_wp2
      obtain ⟨wo, hwo⟩ : ∃ wo : World, wo = wr := ⟨_, rfl⟩
      gi_loopw [4] (fun u wi => ∃ (x : Nat) (pr : List Int), u = .int .u64 x ∧ x < W64 ∧ vals ws = pr ++ (wv k x ++ valsFrom (k + 1) (ws.drop (k + 1))) ∧ J pr wi ∧ KB n₀ Bn W wi)
        (fun u _ => pc 64 (intOf u).toNat)
      case atStart => exact ⟨x0, pre, rfl, HXW.out, HX2.out, hJs, hnx⟩
      case round =>
        clear HX2 HXW hJs hnx hc0 hc2 e2 hwo
        obtain ⟨x, pr, rfl, hxW, hx, hJs, hnx⟩ := hrel
        have HX : Hid (vals ws = pr ++ (wv k x ++ valsFrom (k + 1) (ws.drop (k + 1)))) := hx
        clear hx
        by_cases hx0 : x = 0
        · subst hx0
          clear hxW
          gi_wp2
          go_roundw
          case rel => exact ⟨k + 1, pr, by omega, by go_num, by have := HX.out; rw [wv_zero] at this; simpa using this, hJs, hnx⟩
          case measure => simp [intOf]; omega
        · have hTr : TabAt 5 Lib.deBruijn64tab wr := fun j hj => (hnx.1.cell (p := ⟨5, j, none⟩) h5).trans (hT j hj)
          have htz := tz_any x wr hxW hTr
          have hst := wv_step k x hx0 hxW
          have hcl := ctz_le x hxW
          have hpd := pc_drop1 x hx0 hxW
          have hdl := drop1_lt x hxW
          have hw1 := sub_one_u64 x hx0 hxW
          have hand : bits BinOp.and IntKind.u64 (x : Int) ((x - 1 : Nat) : Int) = ((drop1 x : Nat) : Int) := bits_and_u64_nat x (x - 1) (lt_lit hxW) (lt_lit (by omega))
          rw [← hw1] at hand
          have hne : ((x : Int) != 0) = true := by simpa using hx0
          have HST : Hid (vals ws = pr ++ (((k : Int) * 64 + (Lib.ctz 64 x : Nat)) :: (wv k (drop1 x) ++ valsFrom (k + 1) (ws.drop (k + 1))))) := by
            have := HX.out; rw [hst] at this; rw [this]; show _ = _; simp
          have HPD : Hid (pc 64 (drop1 x) + 1 = pc 64 x) := hpd
          have HDL : Hid (drop1 x < W64) := hdl
          obtain ⟨fn, tmps, assign, body, hy, hR⟩ := hY pr ((k : Int) * 64 + (Lib.ctz 64 x : Nat)) wr hJs (by rw [HST.out]; simp)
          clear hw1 hTr HX hst hpd hdl hxW hx0 hT
          generalize hdx : drop1 x = x1 at *
          clear hdx
          generalize Lib.ctz 64 x = c at *
          gi_wp2_with fail
          refine ⟨trivial, fun _ => by omega, ?_⟩
          refine (callsIn_wide.2 htz).mono ?_
          rintro e w2 ⟨rfl, h2⟩
          rw [h2]
          clear h2 w2
          gi_wp2
          refine ⟨fun _ => by omega, hR.mono ?_⟩
          rintro e W3 (⟨rfl, hJ3, hk3⟩ | ⟨rfl, hJx3⟩)
          · gi_wp2
            go_roundw
            case rel => exact ⟨x1, _, rfl, HDL.out, by rw [HST.out]; simp, hJ3, hnx.trans hk3⟩
            case measure => have := HPD.out; simp [intOf]; omega
          · gi_wp2
            refine bodyPost_ret (results_none rfl _ _ _) rfl ?_
            exact ⟨⟨_, rfl⟩, .inr ⟨_, by rw [HST.out]; simp, hJx3⟩⟩
    · have hkk : ws.drop k = [] := List.drop_of_length_le (by rw [hl.out]; omega)
      gi_wp2
      go_end0
      exact ⟨⟨_, rfl⟩, .inl ⟨pre, by have := HX.out; rw [hkk] at this; simpa [valsFrom] using this.symm, hJs⟩⟩

set_option maxHeartbeats 1000000 in
theorem dall_in (n : Nat) (p0 : Option Addr) (w : World) :
    CallsIn Fence.wide n Tryz.prog 98 #[.pointer p0] w fun e w' => e = .returned (.func (.func 116) #[] #[.pointer (some ⟨w.heap.size, 0, none⟩)]) ∧ w' = w.alloc (.cells #[.pointer p0] 43) := by
  refine callsIn_of_wp Tryz.func98 rfl trivial ?_ rfl
  simp only [Tryz.ntmps98, List.size_toArray, List.length_cons, List.length_nil, Nat.reduceAdd, Nat.reduceSub, Array.replicate_succ, Array.replicate_zero, List.push_toArray, List.append_toArray, List.nil_append, List.cons_append]
  gi_wp2
  go_ret
  exact ⟨rfl, rfl⟩

theorem tabAt_below {n₀ : Nat} {A B : World} {tab : List Nat} (h : TabAt 5 tab A) (k : Below n₀ A B) (h5 : 5 < n₀) : TabAt 5 tab B := fun j hj => (k.cell (p := ⟨5, j, none⟩) h5).trans (h j hj)

theorem WordsAt.below {n₀ : Nat} {A B : World} {v : Value} {ws f : List Nat} (h : WordsAt A v ws f) (k : Below n₀ A B) (hf : ∀ x ∈ f, x < n₀) : WordsAt B v ws f := by
  rcases h with h | ⟨g, h1, h2, rfl⟩
  · exact .inl h
  · exact .inr ⟨g, h1, (k.block g (hf g (by simp))).trans h2, rfl⟩

theorem dall_stops (n : Nat) (hn : 2 ≤ n) (Bn n₀ b k0 : Nat) (a : Option Addr) (ws f : List Nat) (hl : ws.length = k0) (hk0 : k0 ≤ 64) (hW : ∀ x ∈ ws, x < W64) (w : World) (hBn : Bn < w.heap.size) (hn₀ : n₀ ≤ w.heap.size)
    (hc : w.cell? ⟨Bn, 0, none⟩ = some (.pointer (some ⟨b, 0, none⟩))) (hbl : b < n₀) (hfl : ∀ x ∈ f, x < n₀) (h5 : 5 < n₀) (hc2 : w.cell? ⟨b, 2, none⟩ = some (.slice a k0 k0)) (hg : WordsAt w (.slice a k0 k0) ws f) (hT : TabAt 5 Lib.deBruijn64tab w) :
    SeqStopsK Fence.wide n Tryz.prog 116 #[.pointer (some ⟨Bn, 0, none⟩)] (fun x : Int => #[Value.int .i64 x]) (KB n₀ Bn) (fun ys => ys = vals ws) (fun pre => pre <+: vals ws) (vals ws).length w := fun l J Jx W hW' _ _ hY h0 => by
  have hW1 := hW'.mono hn₀
  exact dall1_in n hn l Bn n₀ b k0 a ws f hl hk0 hW J Jx hY W ((hW'.cell (p := ⟨Bn, 0, none⟩) hBn).trans hc) hbl hfl h5 ((hW1.cell (p := ⟨b, 2, none⟩) hbl).trans hc2) (hg.below hW1 hfl) (tabAt_below hT hW1 h5) h0

theorem info3 : (Tryz.prog.info? 3).map (fun i => (i.zero, i.size, i.bytes)) = some (some (.int .i64 0), 1, 8) := by kernel_rfl

def PRow (n1 : Nat) (zs : List Int) (w : World) (e : Ending) (W' : World) : Prop := ∃ v, e = .returned v ∧ W'.ownsRow n1 3 1 v zs.length (zs.map (Value.int .i64)) ∧ Below n1 w W'

set_option maxRecDepth 100000 in
set_option maxHeartbeats 2000000 in

theorem appendTo_core (b k0 n1 : Nat) (a : Option Addr) (ws f : List Nat) (a0 : Option Addr) (c0 : Nat) (w : World) (hl : Hid (ws.length = k0)) (hk0 : k0 ≤ 64) (hW : Hid (∀ x ∈ ws, x < W64)) (hbl : b < n1) (hfl : ∀ x ∈ f, x < n1) (h5 : 5 < n1) (hn1 : n1 ≤ w.heap.size)
    (hc2 : w.cell? ⟨b, 2, none⟩ = some (.slice a k0 k0)) (hg : WordsAt w (.slice a k0 k0) ws f) (hT : Hid (TabAt 5 Lib.deBruijn64tab w)) (hv0 : w.ownsRow n1 3 1 (.slice a0 0 c0) 0 []) :
    Calls Tryz.prog 55 #[.pointer (some ⟨b, 0, none⟩), .slice a0 0 c0] w (PRow n1 (vals ws) w) := by
  have hlen : (vals ws).length ≤ 4096 := by rw [vals_len]; have := pcs_le ws; have := hl.out; omega
  obtain ⟨i0, hi, hz0, hz1, hz2⟩ := info_parts info3
  refine (callsIn_wide (n := 5)).1 ?_
  refine callsIn_of_wp_marks Tryz.func55 rfl trivial ?_ rfl
  simp only [Tryz.ntmps55, List.size_toArray, List.length_cons, List.length_nil, Nat.reduceAdd, Nat.reduceSub, Array.replicate_succ, Array.replicate_zero, List.push_toArray, List.append_toArray, List.nil_append, List.cons_append]
  gi_wp2_with fail
  refine And.intro trivial ?_
  refine (dall_in _ _ _).mono ?_
  rintro e w' ⟨rfl, rfl⟩
  gi_wp2
  have bO := Boxed.new w 27 (.slice a0 0 c0)
  have bN := Boxed.new (w.alloc (.cells #[.slice a0 0 c0] 27)) 43 (.pointer (some ⟨b, 0, none⟩))
  rw [World.size_alloc] at bN
  have hB0 : Below n1 w ((w.alloc (.cells #[.slice a0 0 c0] 27)).alloc (.cells #[.pointer (some ⟨b, 0, none⟩)] 43)) := ((Below.refl _ w).alloc hn1 _).alloc (by simp; omega) _
  have h1 : 1 ≤ 5 := by omega
  refine wpIn_rangeFunc_ownG rfl h1 (gf := 116) (lb := #[.pointer (some ⟨w.heap.size + 1, 0, none⟩)]) rfl trivial (enters_of Tryz.func116 (by kernel_rfl) rfl)
    (dall_stops 4 (by omega) (w.heap.size + 1) n1 b k0 a ws f hl.out hk0 hW.out _ (by simp) (by simp; omega) bN.cell hbl hfl h5 ((hB0.cell (p := ⟨b, 2, none⟩) hbl).trans hc2) (hg.below hB0 hfl) (tabAt_below hT.out hB0 h5)) KB.trans (KB.b (by simp; omega) (by simp)) (Below.refl _ _) (fun _ => rfl)
    (fun (pre : List Int) W => (∃ v, Boxed W w.heap.size 27 v ∧ W.ownsRow n1 3 1 v pre.length (pre.map (Value.int .i64)) ∧ True) ∧ (Below n1 w W ∧ Boxed W (w.heap.size + 1) 43 (.pointer (some ⟨b, 0, none⟩))))
    (fun _ _ _ => False)
    (OwnFrom.and (Own.from (holdsRow_own n1 w.heap.size 27 3 1 (fun pre : List Int => pre.length) (fun pre : List Int => pre.map (Value.int .i64)) (fun _ _ => True)) _) (OwnFrom.and (ownFrom_below hn1 (by simp; omega)) (Own.from (boxed_own _ _ _) _)))
    (fun _ _ _ _ _ hs _ _ => hs)
    ⟨⟨_, bO.alloc _, (hv0.alloc _).alloc _, trivial⟩, hB0, bN⟩
    (fun x => { tmps := #[.pointer (some ⟨b, 0, none⟩), .slice a0 0 c0, undef, .pointer (some ⟨w.heap.size, 0, none⟩), .slice none 0 0, .int .i64 x, .pointer (some ⟨b, 0, none⟩), .func (.func 116) #[] #[.pointer (some ⟨w.heap.size + 1, 0, none⟩)], .int .i64 x, undef, undef, undef, undef, undef], defers := [] }) ?assign ?body ?done ?stop
  case assign =>
    intro l x W K hK
    gi_wp2
    exact hK
  case body =>
    rintro l pre x W ⟨⟨v, hv, hrow, _⟩, hB, hK2⟩ hlt
    have hc := hv.cell
    gi_wp2_with (gi_at_builtin; refine wpListIn_append_own _ rfl _ _ 27 rfl n1 3 i0 (.int .i64 0) 1 8 Tryz.underlying27 hi hz0 hz1 hz2 rfl (by decide) _ _ _ rfl (hrow.alloc _) ⟨W.heap.size, 0, none⟩ 1 1 [.int .i64 x] rfl rfl (cell_one_new _ _ _) (by simp [Value.oneCell']) (by simp [maxLen]; omega) (by omega) (by have := hB.size; simp; omega) ?_; intro v' w1 hown' hgrow _; obtain ⟨g', cap', rfl⟩ := ownsRow_succ hown'; obtain ⟨hv1, hv2, hr2, hk2, hb2⟩ := hv.appended (by decide) hrow (Nat.le_trans hn1 hB.size) (by omega) hown' hgrow; have hc1 := hv1.cell; have hf1 := hv1.frozen; have hbx := ((hK2.alloc _).kept hgrow (hK2.not_row (by decide) hrow)).other (B' := w.heap.size) (by omega) (.slice (some ⟨g', 0, none⟩) (pre.length + 1) cap'))
    exact ⟨hk2.from _, ⟨hb2, hbx.trans (show W.heap[w.heap.size + 1]? = _ from hK2).symm⟩, ⟨_, hv2, by simpa using hr2, trivial⟩, hB.trans hb2, hbx⟩
  case done =>
    rintro D ys W hD rfl ⟨⟨v, hv, hrow, _⟩, hB, _⟩ hK
    have hc := hv.cell
    gi_wp2
    refine ⟨by simp, .inl ⟨_, _, rfl, run_takeDeferred hK, ?_⟩⟩
    exact ⟨_, results_tmp rfl _ _ _, v, rfl, ownsRow_putObj hrow _ hK rfl, hB.trans (belowK_b (w := w) hn1 W D _ _ (by simp at hD; omega) hK rfl rfl)⟩
  case stop =>
    rintro D c pre W _ _ h _
    exact h.elim

end Go.Proofs.Qxb6500745aGreatDoor
