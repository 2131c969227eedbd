import Derived.Test.Qxb6500745aGreatDoorMap1
namespace Go.Proofs.Qxb6500745aGreatDoor
open Go.RowKit Go.Maps

theorem mrow_shape {w : World} {B : Nat} {v : Value} {L : List Int} (h : w.ownsRow B 3 1 v L.length (L.map (Value.int .i64))) : ∃ a c, v = .slice a L.length c := by
  rcases h.2 with ⟨rfl, h0⟩ | ⟨g, cap, cur, rfl, _⟩
  · exact ⟨none, 0, by rw [h0]⟩
  · exact ⟨_, _, rfl⟩

theorem mrow_get {w : World} {B : Nat} {a : Option Addr} {n c : Nat} {L : List Int} (h : w.ownsRow B 3 1 (.slice a n c) L.length (L.map (Value.int .i64))) (j : Nat) (hj : j < L.length) : ∃ g, a = some ⟨g, 0, none⟩ ∧ w.cell? ⟨g, j, none⟩ = some (.int .i64 L[j]) ∧ B ≤ g := by
  rcases h.2 with ⟨_, h0⟩ | ⟨g, cap, cur, h1, h2, h3, h4, h5, h6, h7⟩
  · omega
  · simp at h1
    refine ⟨g, h1.1, ?_, h2⟩
    have e : cur.toList[j]? = some (.int .i64 L[j]) := by
      have := congrArg (fun l => l[j]?) h7
      simpa [List.getElem?_take, hj] using this
    simp [World.cell?, h3]
    simpa using e

theorem mrow_kp {w w' : World} {B : Nat} {v : Value} {n : Nat} {xs : List Value} {K : List Nat} (h : w.ownsRow B 3 1 v n xs) (k : Kp K w w') (hK : ∀ x ∈ K, x < B) : w'.ownsRow B 3 1 v n xs := by
  refine ⟨h.1, ?_⟩
  rcases h.2 with hn | ⟨g, cap, cur, rfl, hb, hgg, rest⟩
  · exact .inl hn
  · exact .inr ⟨g, cap, cur, rfl, hb, (k.block g (Array.getElem?_eq_some_iff.1 hgg).1 (fun e => by have := hK g e; omega)).trans hgg, rest⟩

def PMap (w : World) (n : Nat) (P : Int → Prop) (e : Ending) (w' : World) : Prop :=
  ∃ m zs, e = .returned (.map (some m)) ∧ MapAt w' m n zs ∧ (∀ x, x ∈ zs ↔ P x) ∧ w.heap.size ≤ m ∧ Kp [] w w'

structure MFI (w : World) (m n j : Nat) (P : Int → Prop) (wr : World) : Prop where
  ex : ∃ zs, MapAt wr m (n + j) zs ∧ ∀ x, x ∈ zs ↔ P x
  ge : w.heap.size ≤ m
  kp : Kp [] w wr

theorem MFI.put {w wr : World} {m n j : Nat} {P : Int → Prop} (h : MFI w m n j P wr) {x : Int} (hx : idIn x) (hn : n + j ≤ 1099511627776) :
    ∃ w', (Instr.mapUpdate 72 (.map (some m)) (.int .i64 x) (.bool true)).run Tryz.prog wr = .ok () w' ∧ MFI w m n (j + 1) (fun y => P y ∨ y = x) w' ∧ Kp [m] wr w' := by
  obtain ⟨zs, h1, h2⟩ := h.ex
  obtain ⟨w', hr, hm, hk⟩ := h1.put hx hn
  refine ⟨w', hr, ⟨⟨_, hm, fun y => ?_⟩, h.ge, h.kp.trans hk (by simp) (fun y hy hl => ?_)⟩, hk⟩
  · simp [h2 y, or_comm]
  · simp at hy; have := h.ge; omega

theorem MFI.skip {w wr : World} {m n j : Nat} {P : Int → Prop} (h : MFI w m n j P wr) : MFI w m n (j + 1) P wr := by
  obtain ⟨zs, h1, h2⟩ := h.ex
  exact ⟨⟨zs, h1.mono (by omega), h2⟩, h.ge, h.kp⟩

theorem MFI.congr {w wr : World} {m n j : Nat} {P Q : Int → Prop} (h : MFI w m n j P wr) (e : ∀ x, P x ↔ Q x) : MFI w m n j Q wr := by
  obtain ⟨zs, h1, h2⟩ := h.ex
  exact ⟨⟨zs, h1, fun x => (h2 x).trans (e x)⟩, h.ge, h.kp⟩

theorem mem_take_succ {L : List Int} {j : Nat} (hj : j < L.length) (x : Int) : x ∈ L.take (j + 1) ↔ x ∈ L.take j ∨ x = L[j] := by
  simp only [List.take_succ_eq_append_getElem hj, List.mem_append, List.mem_singleton]

set_option maxRecDepth 100000 in
set_option maxHeartbeats 2000000 in
theorem copy95 {w : World} {b n : Nat} {zs : List Int} (h : MapAt w b n zs) (hn : n ≤ 1073741824) (hs : ∀ B, SortC B) : Calls Tryz.prog 95 #[.map (some b)] w (PMap w n (· ∈ zs)) := by
  have hso := sorted47 (h.kp ((Kp.refl [] w).alloc (.map #[] 0)) (by simp)) (by omega) hs
  have hmk := @run_makeMap Tryz.prog
  have h0 : MFI w w.heap.size 0 0 (fun _ => False) (w.alloc (.map #[] 0)) := ⟨⟨[], MapAt.new w, by simp⟩, Nat.le_refl _, (Kp.refl _ _).alloc _⟩
  have HZ : Hid (∀ x ∈ zs, idIn x) := h.ids
  clear h
  obtain ⟨m, hm⟩ : ∃ m, m = w.heap.size := ⟨_, rfl⟩
  rw [← hm] at h0
  have HM : Hid (m = w.heap.size) := hm
  go_enter Tryz.func95, Tryz.ntmps95
  go_wp2_with fail
  rw [← hm]
  refine hso.mono ?_
  rintro e w1 ⟨v, L, rfl, hrow, hln, hnd, hle, hmem, hk⟩
  clear hso
  have h1 : MFI w m 0 0 (fun _ => False) w1 := by
    obtain ⟨zs, h1, h2⟩ := h0.ex
    exact ⟨⟨zs, h1.kp hk (by simp), h2⟩, h0.ge, h0.kp.step hk⟩
  have hrow : w1.ownsRow (m + 1) 3 1 v L.length (L.map (Value.int .i64)) := by
    refine ⟨hrow.1, ?_⟩
    rcases hrow.2 with hn | ⟨g, cap, cur, rfl, hb, rest⟩
    · exact .inl hn
    · exact .inr ⟨g, cap, cur, rfl, by simp at hb; omega, rest⟩
  obtain ⟨a, c, rfl⟩ := mrow_shape hrow
  have HR : Hid (w1.ownsRow (m + 1) 3 1 (.slice a L.length c) L.length (L.map (Value.int .i64))) := hrow
  have H1 : Hid (MFI w m 0 0 (fun _ => False) w1) := h1
  have HE : Hid (∀ x, x ∈ L ↔ x ∈ zs) := hmem
  generalize hl : L.length = l at *
  have HL : Hid (L.length = l) := hl
  clear hl hrow h1 h0 hmem hnd hle hk hm
  go_wp2_with fail
  go_loopw [10] (fun s wr => ∃ j : Nat, s = .int .i64 j ∧ j ≤ l ∧ MFI w m 0 j (fun x => x ∈ L.take j) wr ∧ wr.ownsRow (m + 1) 3 1 (.slice a l c) l (L.map (Value.int .i64))) (fun s _ => l - (intOf s).toNat)
  case atStart => exact ⟨0, rfl, Nat.zero_le _, H1.out.congr (by simp), HR.out⟩
  case round =>
    obtain ⟨j, rfl, hj, fi, row⟩ := hrel
    by_cases hjl : j < l
    · have hjL : j < L.length := by rw [HL.out]; exact hjl
      obtain ⟨g, rfl, hc, _⟩ := mrow_get (by rw [HL.out]; exact row) j hjL
      obtain ⟨x, hx⟩ : ∃ x, x = L[j] := ⟨_, rfl⟩
      obtain ⟨w2, hrun, fi2, hk2⟩ := fi.put (x := x) (by rw [hx]; exact HZ.out _ ((HE.out _).1 (List.getElem_mem _))) (by omega)
      have HF : Hid (MFI w m 0 (j + 1) (fun x => x ∈ L.take (j + 1)) w2) := fi2.congr (fun y => by rw [mem_take_succ hjL, hx])
      have HW : Hid (w2.ownsRow (m + 1) 3 1 (.slice (some ⟨g, 0, none⟩) l c) l (L.map (Value.int .i64))) := mrow_kp row hk2 (by simp)
      rw [← hx] at hc
      clear hx fi fi2 hk2 row
      go_wp2_with fail
      go_roundw
      case rel => exact ⟨j + 1, by go_num, by omega, HF.out, HW.out⟩
      case measure => simp [intOf]; omega
    · go_wp2_with fail
      go_ret
      have e : j = l := by omega
      subst e
      obtain ⟨us, u1, u2⟩ := fi.ex
      exact ⟨m, us, rfl, u1.mono (by omega), fun x => by rw [u2, ← HL.out, List.take_length]; exact HE.out x, fi.ge, fi.kp⟩

set_option maxRecDepth 100000 in
set_option maxHeartbeats 2000000 in
theorem union40 {w : World} {b b2 n n2 : Nat} {zs us : List Int} (h : MapAt w b n zs) (h' : MapAt w b2 n2 us) (hn : n ≤ 1073741824) (hn2 : n2 ≤ 1073741824) (hs : ∀ B, SortC B) : Calls Tryz.prog 40 #[.map (some b), .map (some b2)] w (PMap w (n + n2) (fun x => x ∈ zs ∨ x ∈ us)) := by
  have hco := copy95 h hn hs
  have HZ : Hid (∀ x ∈ us, idIn x) := h'.ids
  have H' : Hid (MapAt w b2 n2 us) := h'
  clear h h'
  go_enter Tryz.func40, Tryz.ntmps40
  go_wp2_with fail
  refine hco.mono ?_
  rintro e w0 ⟨m, vs, rfl, hm, hv, hge, hk0⟩
  clear hco
  have h0 : MFI w m n 0 (· ∈ zs) w0 := ⟨⟨vs, hm, hv⟩, hge, hk0⟩
  have hso := sorted47 (H'.out.kp hk0 (by simp)) (by omega) hs
  have hml := hm.lt
  clear hm hv hge hk0
  go_wp2_with fail
  refine hso.mono ?_
  rintro e w1 ⟨v, L, rfl, hrow, hln, hnd, hle, hmem, hk⟩
  clear hso
  have h1 : MFI w m n 0 (· ∈ zs) w1 := by
    obtain ⟨zs, h1, h2⟩ := h0.ex
    exact ⟨⟨zs, h1.kp hk (by simp), h2⟩, h0.ge, h0.kp.step hk⟩
  have hrow : w1.ownsRow (m + 1) 3 1 v L.length (L.map (Value.int .i64)) := by
    refine ⟨hrow.1, ?_⟩
    rcases hrow.2 with hn | ⟨g, cap, cur, rfl, hb, rest⟩
    · exact .inl hn
    · exact .inr ⟨g, cap, cur, rfl, by omega, rest⟩
  obtain ⟨a, c, rfl⟩ := mrow_shape hrow
  have HR : Hid (w1.ownsRow (m + 1) 3 1 (.slice a L.length c) L.length (L.map (Value.int .i64))) := hrow
  have H1 : Hid (MFI w m n 0 (· ∈ zs) w1) := h1
  have HE : Hid (∀ x, x ∈ L ↔ x ∈ us) := hmem
  generalize hl : L.length = l at *
  have HL : Hid (L.length = l) := hl
  clear hl hrow h1 h0 hmem hnd hle hk hml
  go_wp2_with fail
  go_loopw [13] (fun s wr => ∃ j : Nat, s = .int .i64 j ∧ j ≤ l ∧ MFI w m n j (fun x => x ∈ zs ∨ x ∈ L.take j) wr ∧ wr.ownsRow (m + 1) 3 1 (.slice a l c) l (L.map (Value.int .i64))) (fun s _ => l - (intOf s).toNat)
  case atStart => exact ⟨0, rfl, Nat.zero_le _, H1.out.congr (by simp), HR.out⟩
  case round =>
    obtain ⟨j, rfl, hj, fi, row⟩ := hrel
    by_cases hjl : j < l
    · have hjL : j < L.length := by rw [HL.out]; exact hjl
      obtain ⟨g, rfl, hc, _⟩ := mrow_get (by rw [HL.out]; exact row) j hjL
      obtain ⟨x, hx⟩ : ∃ x, x = L[j] := ⟨_, rfl⟩
      obtain ⟨w2, hrun, fi2, hk2⟩ := fi.put (x := x) (by rw [hx]; exact HZ.out _ ((HE.out _).1 (List.getElem_mem _))) (by omega)
      have HF : Hid (MFI w m n (j + 1) (fun x => x ∈ zs ∨ x ∈ L.take (j + 1)) w2) := fi2.congr (fun y => by rw [mem_take_succ hjL, hx, or_assoc])
      have HW : Hid (w2.ownsRow (m + 1) 3 1 (.slice (some ⟨g, 0, none⟩) l c) l (L.map (Value.int .i64))) := mrow_kp row hk2 (by simp)
      rw [← hx] at hc
      clear hx fi fi2 hk2 row
      go_wp2_with fail
      go_roundw
      case rel => exact ⟨j + 1, by go_num, by omega, HF.out, HW.out⟩
      case measure => simp [intOf]; omega
    · go_wp2_with fail
      go_ret
      have e : j = l := by omega
      subst e
      obtain ⟨us, u1, u2⟩ := fi.ex
      exact ⟨m, us, rfl, u1.mono (by omega), fun x => by rw [u2, ← HL.out, List.take_length, HE.out x], fi.ge, fi.kp⟩

set_option maxRecDepth 100000 in
set_option maxHeartbeats 2000000 in
theorem inter43 {w : World} {b b2 n n2 : Nat} {zs us : List Int} (h : MapAt w b n zs) (h' : MapAt w b2 n2 us) (hn : n ≤ 1073741824) (hs : ∀ B, SortC B) : Calls Tryz.prog 43 #[.map (some b), .map (some b2)] w (PMap w n (fun x => x ∈ zs ∧ x ∈ us)) := by
  have hso := sorted47 (h.kp ((Kp.refl [] w).alloc (.map #[] 0)) (by simp)) (by omega) hs
  have hmk := @run_makeMap Tryz.prog
  have h0 : MFI w w.heap.size 0 0 (fun _ => False) (w.alloc (.map #[] 0)) := ⟨⟨[], MapAt.new w, by simp⟩, Nat.le_refl _, (Kp.refl _ _).alloc _⟩
  have HZ : Hid (∀ x ∈ zs, idIn x) := h.ids
  have H' : Hid (MapAt w b2 n2 us) := h'
  have hbl := h'.lt
  clear h h'
  obtain ⟨m, hm⟩ : ∃ m, m = w.heap.size := ⟨_, rfl⟩
  rw [← hm] at h0 hbl
  go_enter Tryz.func43, Tryz.ntmps43
  go_wp2_with fail
  rw [← hm]
  refine hso.mono ?_
  rintro e w1 ⟨v, L, rfl, hrow, hln, hnd, hle, hmem, hk⟩
  clear hso
  have h1 : MFI w m 0 0 (fun _ => False) w1 := by
    obtain ⟨zs, h1, h2⟩ := h0.ex
    exact ⟨⟨zs, h1.kp hk (by simp), h2⟩, h0.ge, h0.kp.step hk⟩
  have hrow : w1.ownsRow (m + 1) 3 1 v L.length (L.map (Value.int .i64)) := by
    refine ⟨hrow.1, ?_⟩
    rcases hrow.2 with hn | ⟨g, cap, cur, rfl, hb, rest⟩
    · exact .inl hn
    · exact .inr ⟨g, cap, cur, rfl, by simp at hb; omega, rest⟩
  obtain ⟨a, c, rfl⟩ := mrow_shape hrow
  have HR : Hid (w1.ownsRow (m + 1) 3 1 (.slice a L.length c) L.length (L.map (Value.int .i64))) := hrow
  have H1 : Hid (MFI w m 0 0 (fun _ => False) w1) := h1
  have HE : Hid (∀ x, x ∈ L ↔ x ∈ zs) := hmem
  generalize hl : L.length = l at *
  have HL : Hid (L.length = l) := hl
  clear hl hrow h1 h0 hmem hnd hle hk hm
  go_wp2_with fail
  go_loopw [12] (fun s wr => ∃ j : Nat, s = .int .i64 j ∧ j ≤ l ∧ MFI w m 0 j (fun x => x ∈ L.take j ∧ x ∈ us) wr ∧ wr.ownsRow (m + 1) 3 1 (.slice a l c) l (L.map (Value.int .i64))) (fun s _ => l - (intOf s).toNat)
  case atStart => exact ⟨0, rfl, Nat.zero_le _, H1.out.congr (by simp), HR.out⟩
  case round =>
    obtain ⟨j, rfl, hj, fi, row⟩ := hrel
    by_cases hjl : j < l
    · have hjL : j < L.length := by rw [HL.out]; exact hjl
      obtain ⟨g, rfl, hc, _⟩ := mrow_get (by rw [HL.out]; exact row) j hjL
      obtain ⟨x, hx⟩ : ∃ x, x = L[j] := ⟨_, rfl⟩
      have hid : idIn x := by rw [hx]; exact HZ.out _ ((HE.out _).1 (List.getElem_mem _))
      have hlook := (H'.out.kp fi.kp (by simp)).look hid
      rw [← hx] at hc
      by_cases hin : x ∈ us
      · rw [show decide (x ∈ us) = true by simpa using hin] at hlook
        obtain ⟨w2, hrun, fi2, hk2⟩ := fi.put hid (by omega)
        have HF : Hid (MFI w m 0 (j + 1) (fun x => x ∈ L.take (j + 1) ∧ x ∈ us) w2) := fi2.congr (fun y => by
          rw [mem_take_succ hjL, ← hx]
          constructor
          · rintro (⟨h1, h2⟩ | rfl)
            · exact ⟨.inl h1, h2⟩
            · exact ⟨.inr rfl, hin⟩
          · rintro ⟨h1 | rfl, h2⟩
            · exact .inl ⟨h1, h2⟩
            · exact .inr rfl)
        have HW : Hid (w2.ownsRow (m + 1) 3 1 (.slice (some ⟨g, 0, none⟩) l c) l (L.map (Value.int .i64))) := mrow_kp row hk2 (by simp)
        clear hx fi fi2 hk2 row hin hid
        go_wp2_with fail
        go_roundw
        case rel => exact ⟨j + 1, by go_num, by omega, HF.out, HW.out⟩
        case measure => simp [intOf]; omega
      · rw [show decide (x ∈ us) = false by simpa using hin] at hlook
        have HF : Hid (MFI w m 0 (j + 1) (fun x => x ∈ L.take (j + 1) ∧ x ∈ us) wr) := fi.skip.congr (fun y => by
          rw [mem_take_succ hjL, ← hx]
          constructor
          · rintro ⟨h1, h2⟩
            exact ⟨.inl h1, h2⟩
          · rintro ⟨h1 | rfl, h2⟩
            · exact ⟨h1, h2⟩
            · exact absurd h2 hin)
        have HW : Hid (wr.ownsRow (m + 1) 3 1 (.slice (some ⟨g, 0, none⟩) l c) l (L.map (Value.int .i64))) := row
        clear hx fi row hin hid
        go_wp2_with fail
        go_roundw
        case rel => exact ⟨j + 1, by go_num, by omega, HF.out, HW.out⟩
        case measure => simp [intOf]; omega
    · go_wp2_with fail
      go_ret
      have e : j = l := by omega
      subst e
      obtain ⟨vs, u1, u2⟩ := fi.ex
      exact ⟨m, vs, rfl, u1.mono (by omega), fun x => by rw [u2, ← HL.out, List.take_length, HE.out x], fi.ge, fi.kp⟩

set_option maxRecDepth 100000 in
set_option maxHeartbeats 2000000 in
theorem diff46 {w : World} {b b2 n n2 : Nat} {zs us : List Int} (h : MapAt w b n zs) (h' : MapAt w b2 n2 us) (hn : n ≤ 1073741824) (hs : ∀ B, SortC B) : Calls Tryz.prog 46 #[.map (some b), .map (some b2)] w (PMap w n (fun x => x ∈ zs ∧ x ∉ us)) := by
  have hso := sorted47 (h.kp ((Kp.refl [] w).alloc (.map #[] 0)) (by simp)) (by omega) hs
  have hmk := @run_makeMap Tryz.prog
  have h0 : MFI w w.heap.size 0 0 (fun _ => False) (w.alloc (.map #[] 0)) := ⟨⟨[], MapAt.new w, by simp⟩, Nat.le_refl _, (Kp.refl _ _).alloc _⟩
  have HZ : Hid (∀ x ∈ zs, idIn x) := h.ids
  have H' : Hid (MapAt w b2 n2 us) := h'
  have hbl := h'.lt
  clear h h'
  obtain ⟨m, hm⟩ : ∃ m, m = w.heap.size := ⟨_, rfl⟩
  rw [← hm] at h0 hbl
  go_enter Tryz.func46, Tryz.ntmps46
  go_wp2_with fail
  rw [← hm]
  refine hso.mono ?_
  rintro e w1 ⟨v, L, rfl, hrow, hln, hnd, hle, hmem, hk⟩
  clear hso
  have h1 : MFI w m 0 0 (fun _ => False) w1 := by
    obtain ⟨zs, h1, h2⟩ := h0.ex
    exact ⟨⟨zs, h1.kp hk (by simp), h2⟩, h0.ge, h0.kp.step hk⟩
  have hrow : w1.ownsRow (m + 1) 3 1 v L.length (L.map (Value.int .i64)) := by
    refine ⟨hrow.1, ?_⟩
    rcases hrow.2 with hn | ⟨g, cap, cur, rfl, hb, rest⟩
    · exact .inl hn
    · exact .inr ⟨g, cap, cur, rfl, by simp at hb; omega, rest⟩
  obtain ⟨a, c, rfl⟩ := mrow_shape hrow
  have HR : Hid (w1.ownsRow (m + 1) 3 1 (.slice a L.length c) L.length (L.map (Value.int .i64))) := hrow
  have H1 : Hid (MFI w m 0 0 (fun _ => False) w1) := h1
  have HE : Hid (∀ x, x ∈ L ↔ x ∈ zs) := hmem
  generalize hl : L.length = l at *
  have HL : Hid (L.length = l) := hl
  clear hl hrow h1 h0 hmem hnd hle hk hm
  go_wp2_with fail
  go_loopw [12] (fun s wr => ∃ j : Nat, s = .int .i64 j ∧ j ≤ l ∧ MFI w m 0 j (fun x => x ∈ L.take j ∧ x ∉ us) wr ∧ wr.ownsRow (m + 1) 3 1 (.slice a l c) l (L.map (Value.int .i64))) (fun s _ => l - (intOf s).toNat)
  case atStart => exact ⟨0, rfl, Nat.zero_le _, H1.out.congr (by simp), HR.out⟩
  case round =>
    obtain ⟨j, rfl, hj, fi, row⟩ := hrel
    by_cases hjl : j < l
    · have hjL : j < L.length := by rw [HL.out]; exact hjl
      obtain ⟨g, rfl, hc, _⟩ := mrow_get (by rw [HL.out]; exact row) j hjL
      obtain ⟨x, hx⟩ : ∃ x, x = L[j] := ⟨_, rfl⟩
      have hid : idIn x := by rw [hx]; exact HZ.out _ ((HE.out _).1 (List.getElem_mem _))
      have hlook := (H'.out.kp fi.kp (by simp)).look hid
      rw [← hx] at hc
      by_cases hin : x ∈ us
      · rw [show decide (x ∈ us) = true by simpa using hin] at hlook
        have HF : Hid (MFI w m 0 (j + 1) (fun x => x ∈ L.take (j + 1) ∧ x ∉ us) wr) := fi.skip.congr (fun y => by
          rw [mem_take_succ hjL, ← hx]
          constructor
          · rintro ⟨h1, h2⟩
            exact ⟨.inl h1, h2⟩
          · rintro ⟨h1 | rfl, h2⟩
            · exact ⟨h1, h2⟩
            · exact absurd hin h2)
        have HW : Hid (wr.ownsRow (m + 1) 3 1 (.slice (some ⟨g, 0, none⟩) l c) l (L.map (Value.int .i64))) := row
        clear hx fi row hin hid
        go_wp2_with fail
        go_roundw
        case rel => exact ⟨j + 1, by go_num, by omega, HF.out, HW.out⟩
        case measure => simp [intOf]; omega
      · rw [show decide (x ∈ us) = false by simpa using hin] at hlook
        obtain ⟨w2, hrun, fi2, hk2⟩ := fi.put hid (by omega)
        have HF : Hid (MFI w m 0 (j + 1) (fun x => x ∈ L.take (j + 1) ∧ x ∉ us) w2) := fi2.congr (fun y => by
          rw [mem_take_succ hjL, ← hx]
          constructor
          · rintro (⟨h1, h2⟩ | rfl)
            · exact ⟨.inl h1, h2⟩
            · exact ⟨.inr rfl, hin⟩
          · rintro ⟨h1 | rfl, h2⟩
            · exact .inl ⟨h1, h2⟩
            · exact .inr rfl)
        have HW : Hid (w2.ownsRow (m + 1) 3 1 (.slice (some ⟨g, 0, none⟩) l c) l (L.map (Value.int .i64))) := mrow_kp row hk2 (by simp)
        clear hx fi fi2 hk2 row hin hid
        go_wp2_with fail
        go_roundw
        case rel => exact ⟨j + 1, by go_num, by omega, HF.out, HW.out⟩
        case measure => simp [intOf]; omega
    · go_wp2_with fail
      go_ret
      have e : j = l := by omega
      subst e
      obtain ⟨vs, u1, u2⟩ := fi.ex
      exact ⟨m, vs, rfl, u1.mono (by omega), fun x => by rw [u2, ← HL.out, List.take_length, HE.out x], fi.ge, fi.kp⟩

end Go.Proofs.Qxb6500745aGreatDoor
