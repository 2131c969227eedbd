import Derived.Test.Qxb6500745aGreatDoorDom3
import Derived.Deep.RegionLaw
import Derived.Lib.SliceRun
import Derived.BigRegion
namespace Go.Proofs.Qxb6500745aGreatDoor
open Go.RowKit

theorem wpList_clear_run {P : Program} (w : World) {ops : Array Oper} {rest : List Oper} {o : Oper} {a : Act} {Q : Exit → Act → World → Prop} (hgd : o.guard = none) (d : Operand) (t : TypeId)
    (ho : o.op = .call { callee := .builtin .clear, args := #[d], argTypes := #[t] }) (v : Value) (hd : a.eval d = v) {v' : Value} {w' : World}
    (hr : (Builtin.clear_ #[t] o.type #[v]).run P w = .ok v' w') (h : wpList P ops Q rest (a.put o.dst v') w') : wpList P ops Q (o :: rest) a w :=
  wpList_plain hgd fun _ hK => by
    unfold Oper.wp execOp
    simp only [ho, resolve, invoke, builtin, Sem.run_bind, Sem.run_pure, Result.andThen_ok, List.map_toArray, List.map_cons, List.map_nil, hd, hr]
    exact hK _ _ h

theorem step_copy_run {P : Program} {ops : Array Oper} {o : Oper} {a : Act} {w : World} {K : Act → World → Prop} {Q : Exit → Act → World → Prop} {E : Prop}
    (hg : o.guard = none) (d s : Operand) (t t' : TypeId) (ho : o.op = .call { callee := .builtin .copy, args := #[d, s], argTypes := #[t, t'] }) (v u : Value) (hd : a.eval d = v) (hs : a.eval s = u) {v' : Value} {w' : World}
    (hr : (Builtin.copy_ #[t, t'] o.type #[v, u]).run P w = .ok v' w') (hK : K (a.put o.dst v') w') :
    if Region.wanted o (yielded ops a.tmps) = true then Oper.wp P o a w K Q else E := by
  have hw : Region.wanted o (yielded ops a.tmps) = true := by simp [Region.wanted, hg]
  rw [if_pos hw]
  unfold Oper.wp execOp
  simp only [ho, resolve, invoke, builtin, Sem.run_bind, Sem.run_pure, Result.andThen_ok, List.map_toArray, List.map_cons, List.map_nil, hd, hs, hr]
  exact hK

theorem putAll_whole (vs : Array Value) (us : List Value) (h : us.length = vs.size) : putAll vs 0 us = us.toArray := by
  apply Array.ext_getElem?
  intro i
  by_cases hi : i < vs.size
  · rw [putAll_at us vs 0 i hi, if_pos (by omega)]; simp
  · rw [Array.getElem?_eq_none (by rw [putAll_size]; omega), Array.getElem?_eq_none (by simp; omega)]

theorem size117 : (Tryz.prog.info? 117).map (·.size) = some 1 := by kernel_rfl
theorem zero117 (w : World) : (zeroValue 117).run Tryz.prog w = .ok (.int .u64 0) w := by kernel_rfl

theorem clear_words (w : World) (a : Option Addr) (n : Nat) (ws f : List Nat) (h : WordsAt w (.slice a n n) ws f) (hl : ws.length = n) (ty : TypeId) :
    ∃ w', (Builtin.clear_ #[58] ty #[.slice a n n]).run Tryz.prog w = .ok (.tuple #[]) w' ∧ WordsAt w' (.slice a n n) (List.replicate n 0) f ∧ Kp f w w' := by
  rcases Nat.eq_zero_or_pos n with h0 | hn
  · subst h0
    refine ⟨w, ?_, ?_, Kp.refl _ _⟩
    · cases a <;> simp [Builtin.clear_, run_underlying Tryz.underlying58]
    · have : ws = [] := List.eq_nil_of_length_eq_zero hl
      subst this; exact h
  · obtain ⟨g, rfl, rfl, hb, _, _⟩ := h.get 0 (by omega)
    refine ⟨w.setCells g 0 (List.replicate n (.int .u64 0)), ?_, ?_, Kp.setCells (fun _ => by simp) _ _ _ (Kp.refl _ _)⟩
    · refine Lib.run_clear_slice w 58 117 ty (.int .u64 0) Tryz.underlying58 zero117 rfl rfl g 0 n n hn (fun j hj => ?_) (fun j _ => ?_)
      · rw [hb.cell]; simp; omega
      · exact hb.frozen _
    · refine .inr ⟨g, by simp, ?_, rfl⟩
      have h1 := Blk.puts (List.replicate n (.int .u64 0)) w 0 _ hb
      rw [putAll_whole _ _ (by simp [hl])] at h1
      simpa [uW] using h1

set_option maxHeartbeats 400000 in
theorem clear_core (b n : Nat) (a : Option Addr) (width cnt : Int) (ws f : List Nat) (w : World)
    (hb : Blk w b 60 #[.int .i64 width, .int .i64 cnt, .slice a n n]) (hg : WordsAt w (.slice a n n) ws f) (hl : Hid (ws.length = n)) :
    Calls Tryz.prog 71 #[.pointer (some ⟨b, 0, none⟩)] w fun e w' => e = .returned (.tuple #[]) ∧
      Blk w' b 60 #[.int .i64 width, .int .i64 0, .slice a n n] ∧ WordsAt w' (.slice a n n) (List.replicate n 0) f ∧ Kp (b :: f) w w' := by
  have hbf := hg.ne hb (by decide)
  have c2 := hb.cell 2
  simp at c2
  obtain ⟨w1, hr, g1, k1⟩ := clear_words w a n ws f hg hl.out 0
  have hb1 := hb.kp k1 hbf
  have f1 := hb1.frozen 1
  have d1 := hb1.cell 1
  simp at d1
  go_enter Tryz.func71, Tryz.ntmps71
  go_wp2_with (at_builtin; refine wpList_clear_run _ rfl _ _ rfl _ rfl hr ?_)
  go_end0
  exact ⟨rfl, hb1.set 1 _, g1.other (p := ⟨b, 1, none⟩) hbf _, (k1.mono (fun x hx _ => by simp [hx])).setCell (p := ⟨b, 1, none⟩) (fun _ => by simp) _⟩

theorem copy_words (w : World) (a1 a2 : Option Addr) (n : Nat) (ws us f1 f2 : List Nat) (h1 : WordsAt w (.slice a1 n n) ws f1) (h2 : WordsAt w (.slice a2 n n) us f2) (hl1 : ws.length = n) (hl2 : us.length = n) (ty : TypeId) :
    ∃ v' w', (Builtin.copy_ #[58, 58] ty #[.slice a1 n n, .slice a2 n n]).run Tryz.prog w = .ok v' w' ∧ WordsAt w' (.slice a1 n n) us f1 ∧ Kp f1 w w' := by
  rcases Nat.eq_zero_or_pos n with h0 | hn
  · subst h0
    refine ⟨_, w, run_copy_none w 58 58 ty 117 a1 a2 0 0 0 0 Tryz.underlying58 size117 rfl, ?_, Kp.refl _ _⟩
    have e1 : ws = [] := List.eq_nil_of_length_eq_zero hl1
    have e2 : us = [] := List.eq_nil_of_length_eq_zero hl2
    subst e1; subst e2; exact h1
  · obtain ⟨g1, rfl, rfl, b1, _, _⟩ := h1.get 0 (by omega)
    obtain ⟨g2, rfl, rfl, b2, _, _⟩ := h2.get 0 (by omega)
    refine ⟨_, _, run_copy_cells w 58 58 ty 117 g1 0 n n ⟨g2, 0, none⟩ n n (us.map uW) Tryz.underlying58 size117 (by simp [hl2]) (fun j v hj => ?_) (fun j hj => ?_) (fun j _ => b1.frozen _) (fun v hv => ?_), ?_, Kp.setCells (fun _ => by simp) _ _ _ (Kp.refl _ _)⟩
    · rw [Addr.add_lit]
      rw [b2.cell]; simpa using hj
    · rw [b1.cell]; simp at hj ⊢; omega
    · obtain ⟨x, _, rfl⟩ := List.mem_map.1 hv; rfl
    · refine .inr ⟨g1, by simp [hl2], ?_, rfl⟩
      have h1 := Blk.puts (us.map uW) w 0 _ b1
      rwa [putAll_whole _ _ (by simp [hl1, hl2])] at h1

set_option maxHeartbeats 400000 in
theorem copyFrom_core (b1 b2 n : Nat) (a1 a2 : Option Addr) (width cnt cnt2 : Int) (ws us f1 f2 : List Nat) (w : World)
    (hb1 : Blk w b1 60 #[.int .i64 width, .int .i64 cnt, .slice a1 n n]) (hb2 : Blk w b2 60 #[.int .i64 width, .int .i64 cnt2, .slice a2 n n])
    (hg1 : WordsAt w (.slice a1 n n) ws f1) (hg2 : WordsAt w (.slice a2 n n) us f2) (hl1 : Hid (ws.length = n)) (hl2 : Hid (us.length = n)) :
    Calls Tryz.prog 76 #[.pointer (some ⟨b1, 0, none⟩), .pointer (some ⟨b2, 0, none⟩)] w fun e w' => e = .returned .nilIface ∧
      Blk w' b1 60 #[.int .i64 width, .int .i64 cnt2, .slice a1 n n] ∧ WordsAt w' (.slice a1 n n) us f1 ∧ Kp (b1 :: f1) w w' := by
  have hbf := hg1.ne hb1 (by decide)
  have hbf2 := hg1.ne hb2 (by decide)
  have c10 := hb1.cell 0; have c12 := hb1.cell 2
  have c20 := hb2.cell 0; have c22 := hb2.cell 2
  simp at c10 c12 c20 c22
  go_enter Tryz.func76, Tryz.ntmps76
  go_wp2_with (go_at_call 103; refine (sameU_any _ _ _ _ _ c10 c20).mono ?_; rintro e w' ⟨rfl, q, rfl⟩)
  obtain ⟨v', w1, hr, g1, k1⟩ := copy_words (w.drewN (q + 1)) a1 a2 n ws us f1 f2 hg1 hg2 hl1.out hl2.out 3
  have hB1 : Blk w1 b1 60 #[.int .i64 width, .int .i64 cnt, .slice a1 n n] := (hb1.drewN (q + 1)).kp k1 hbf
  have hB2 : Blk w1 b2 60 #[.int .i64 width, .int .i64 cnt2, .slice a2 n n] := (hb2.drewN (q + 1)).kp k1 hbf2
  have e1 := hB2.cell 1
  have e2 := hB1.cell 1
  have e3 := hB1.frozen 1
  simp at e1 e2
  go_region_law (refine step_copy_run rfl _ _ 58 58 rfl _ _ rfl rfl hr ?_)
  all_goals go_wp2
  all_goals go_ret
  all_goals exact ⟨rfl, hB1.set 1 _, g1.other (p := ⟨b1, 1, none⟩) hbf _, (Kp.trans (M := b1 :: f1) ((Kp.refl [] w).drewN (q + 1)) k1 (fun _ h => by cases h) (fun x hx _ => by simp [hx])).setCell (p := ⟨b1, 1, none⟩) (fun _ => by simp) _⟩

end Go.Proofs.Qxb6500745aGreatDoor
