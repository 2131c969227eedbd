import Derived.Test.Qxb6500745aGreatDoorBld
import Derived.Lib.ItoaLen
namespace Go.Proofs.Qxb6500745aGreatDoor
open Go.RowKit

def Bl (B : Nat) (w : World) (m : Nat) : Prop := ∃ l : List UInt8, l.length ≤ m ∧ Lib.IsBuilder 123 5 B B (Lib.byteCells l) w ∧ B < w.heap.size

theorem builderAt_below {B b : Nat} {p : Value} {bs : List Value} {w w' : World} (h : Lib.BuilderAt 123 5 B b p bs w) (k : Below w.heap.size w w') : Lib.BuilderAt 123 5 B b p bs w' := by
  obtain ⟨h1, v, h2, h3, h4⟩ := h
  refine ⟨h1, v, (k.block b (Array.getElem?_eq_some_iff.1 h2).1).trans h2, ?_, h4⟩
  refine ⟨h3.1, ?_⟩
  rcases h3.2 with h5 | ⟨g, cap, cur, a1, a2, a3, a4⟩
  · exact .inl h5
  · exact .inr ⟨g, cap, cur, a1, a2, (k.block g (Array.getElem?_eq_some_iff.1 a3).1).trans a3, a4⟩

theorem Bl.below {B m : Nat} {w w' : World} (h : Bl B w m) (k : Below w.heap.size w w') : Bl B w' m := by
  obtain ⟨l, h1, h2, h3⟩ := h
  exact ⟨l, h1, h2.elim (fun h => .inl (builderAt_below h k)) (fun h => .inr (builderAt_below h k)), Nat.lt_of_lt_of_le h3 k.size⟩

theorem Bl.mono {B m m' : Nat} {w : World} (h : Bl B w m) (hm : m ≤ m') : Bl B w m' := by
  obtain ⟨l, h1, h2, h3⟩ := h
  exact ⟨l, Nat.le_trans h1 hm, h2, h3⟩

theorem Bl.new (w : World) : Bl w.heap.size (w.alloc (.cells #[.pointer none, .slice none 0 0] 123)) 0 :=
  ⟨[], by simp, .inl ⟨Nat.le_refl _, _, heap_alloc_new w _, World.ownsRow_nil _ _ _ _, by simp [Value.ownBlock]⟩, by simp⟩

theorem bl_byte (B m : Nat) (c : Nat) (w : World) (hc : c < 256) (h : Bl B w m) (hm : m ≤ 1000000000) :
    Calls Tryz.prog 104 #[.pointer (some ⟨B, 0, none⟩), .int .u8 (c : Int)] w fun e w' => e = .returned .nilIface ∧ Bl B w' (m + 1) ∧ Below B w w' := by
  obtain ⟨l, h1, h2, h3⟩ := h
  refine (writeByte_any B B (Lib.byteCells l) (c : Int) w h2 (by rw [Lib.byteCells_length]; omega) (by omega)).mono ?_
  rintro e w' ⟨rfl, a, k⟩
  have e2 : (UInt8.ofNat c).toNat = c := UInt8.toNat_ofNat_of_lt' hc
  have e1 : Lib.byteCells l ++ [Value.int .u8 (c : Int)] = Lib.byteCells (l ++ [UInt8.ofNat c]) := by
    simp only [Lib.byteCells, List.map_append, List.map_cons, List.map_nil, e2]
  rw [e1] at a
  exact ⟨rfl, ⟨l ++ [UInt8.ofNat c], by rw [List.length_append]; show l.length + 1 ≤ _; omega, .inr a, Nat.lt_of_lt_of_le h3 k.size⟩, k⟩

theorem bl_string (B m : Nat) (s : ByteArray) (w : World) (h : Bl B w m) (hs : s.size ≤ 30) (hm : m ≤ 1000000000) :
    Calls Tryz.prog 106 #[.pointer (some ⟨B, 0, none⟩), .string s] w fun e w' => e = .returned (.tuple #[.int .i64 s.size, .nilIface]) ∧ Bl B w' (m + s.size) ∧ Below B w w' := by
  obtain ⟨l, h1, h2, h3⟩ := h
  refine (writeString_any B B (Lib.byteCells l) s w h2 (by rw [Lib.byteCells_length]; omega) (by omega)).mono ?_
  rintro e w' ⟨rfl, a, k⟩
  have e1 : Lib.byteCells l ++ Lib.strCells s = Lib.byteCells (l ++ s.data.toList) := by
    simp [Lib.byteCells, Lib.strCells]
  rw [e1] at a
  refine ⟨rfl, ⟨l ++ s.data.toList, ?_, .inr a, Nat.lt_of_lt_of_le h3 k.size⟩, k⟩
  have : s.data.toList.length = s.size := Array.length_toList
  simp only [List.length_append, this]; omega

theorem bl_done (B m : Nat) (w : World) (h : Bl B w m) :
    Calls Tryz.prog 108 #[.pointer (some ⟨B, 0, none⟩)] w fun e w' => ∃ s, e = .returned (.string s) ∧ Below B w w' := by
  obtain ⟨l, h1, h2, h3⟩ := h
  refine (Tryz.Builder_String_any B B l w h2 (by omega)).mono ?_
  rintro e w' ⟨rfl, k⟩
  exact ⟨_, rfl, k⟩

theorem bl_len (B m : Nat) (w : World) (h : Bl B w m) :
    Calls Tryz.prog 105 #[.pointer (some ⟨B, 0, none⟩)] w fun e w' => ∃ n : Nat, e = .returned (.int .i64 n) ∧ w' = w := by
  obtain ⟨l, h1, h2, h3⟩ := h
  refine (Tryz.Builder_Len B B _ w h2).mono ?_
  rintro e w' ⟨rfl, k⟩
  exact ⟨_, rfl, k⟩

theorem itoa_any {ea : Nat → Addr} (n : Int) (h0 : -9223372036854775808 ≤ n) (h1 : n ≤ 9223372036854775807) (w : World) (G : Glob ea w) :
    Calls Tryz.prog 107 #[.int .i64 n] w fun e w' => ∃ s : ByteArray, e = .returned (.string s) ∧ s.size ≤ 21 ∧ Below w.heap.size w w' := by
  refine (Any.strconv_Itoa Tryz.laysM171 n h0 h1 w ?_).mono ?_
  · obtain ⟨T, fz, hp⟩ := G.pow
    unfold Lib.TabIs World.var?
    rw [show Tryz.prog.globalNamed _ = some 6 by kernel_rfl]
    simp [hp]
  · rintro e w' ⟨rfl, k, os, rfl⟩
    refine ⟨_, rfl, ?_, ⟨rfl, rfl, rfl, by simp [Sort.grow], fun i hi => ?_⟩⟩
    · have := Lib.itoa_length_le n h0 h1; simpa [ByteArray.size] using this
    · show ((w.drewN k).heap ++ os)[i]? = _
      rw [Array.getElem?_append_left (by simpa using hi)]; rfl

def PStr (w : World) (e : Ending) (w' : World) : Prop := ∃ s, e = .returned (.string s) ∧ Kp [] w w'

set_option maxHeartbeats 1000000 in
theorem setString_core {ea : Nat → Addr} (b : Nat) (a : Option Addr) (k0 c : Nat) (zs : List Int) (f : List Nat) (w : World) (G : Glob ea w) (hb : w.cell? ⟨b, 0, none⟩ = some (.slice a k0 c)) (hbl : b < w.heap.size) (hg : IRow w (.slice a k0 c) zs f)
    (hl : Hid (zs.length = k0)) (hk0 : k0 ≤ 2097152) (hz : Hid (∀ x ∈ zs, 0 ≤ x ∧ x ≤ 1048575)) :
    Calls Tryz.prog 92 #[.pointer (some ⟨b, 0, none⟩)] w (PStr w) := by
  have hB := Bl.new w
  have hk0' : Below w.heap.size w (w.alloc (.cells #[.pointer none, .slice none 0 0] 123)) := (Below.refl _ w).alloc (Nat.le_refl _) _
  have hfl := hg.lt
  have HFL : Hid (∀ x ∈ f, x < w.heap.size) := hfl
  have hc0 := hb
  go_enter Tryz.func92, Tryz.ntmps92
  go_wp2_with fail
  refine (bl_byte _ _ 123 _ (by omega) hB (by omega)).mono ?_
  rintro e w1 ⟨rfl, h1, k1⟩
  replace hk0' := hk0'.trans k1
  have hc1 := (hk0'.cell (p := ⟨b, 0, none⟩) hbl).trans hb
  clear hB k1 hfl hc0
  go_wp2_with fail
  go_loopw [12] (fun i wr => ∃ k m : Nat, k ≤ k0 ∧ i = .int .i64 k ∧ m ≤ 1 + 25 * k ∧ Bl w.heap.size wr m ∧ Below w.heap.size w wr) (fun i _ => k0 - (intOf i).toNat)
  case atStart => exact ⟨0, 1, Nat.zero_le _, rfl, by omega, h1, hk0'⟩
  case round =>
    clear h1 hk0' hc1 hb
    obtain ⟨k, m, hk, rfl, hm, hB, hkb⟩ := hrel
    by_cases hlt : k < k0
    · have hk1 : k < zs.length := by rw [hl.out]; exact hlt
      obtain ⟨g, rfl, hf, e1, _⟩ := hg.get k hk1
      have e2 := (hkb.cell (p := ⟨g, k, none⟩) (HFL.out g (by rw [hf]; simp))).trans e1
      have hzk := hz.out zs[k] (List.getElem_mem _)
      clear e1
      generalize zs[k] = z at *
      obtain ⟨hz0, hz1⟩ := hzk
      have fin : ∀ (w3 : World) (m3 : Nat), Bl w.heap.size w3 m3 → m3 ≤ m + 1 → Below w.heap.size w w3 → Calls Tryz.prog 107 #[.int .i64 z] w3 (fun e w4 => ∃ s : ByteArray, e = .returned (.string s) ∧ s.size ≤ 21 ∧ Bl w.heap.size w4 m3 ∧ Below w.heap.size w w4) := fun w3 m3 b3 _ k3 =>
        (itoa_any z (by omega) (by omega) w3 (G.kp (Kp.of_below k3 []) (fun _ h => by cases h))).mono (by
          rintro e w4 ⟨s, rfl, hs, k4⟩
          exact ⟨s, rfl, hs, b3.below k4, k3.trans (k4.mono k3.size)⟩)
      by_cases h0k : 0 < k
      · go_wp2_with fail
        refine (bl_byte _ _ 44 _ (by omega) hB (by omega)).mono ?_
        rintro e w2 ⟨rfl, b2, k2⟩
        go_wp2_with fail
        refine (fin w2 _ b2 (by omega) (hkb.trans k2)).mono ?_
        rintro e w4 ⟨s, rfl, hs, b4, k4⟩
        go_wp2_with fail
        refine (bl_string _ _ s _ b4 (by omega) (by omega)).mono ?_
        rintro e w5 ⟨rfl, b5, k5⟩
        go_wp2_with fail
        go_roundw
        case rel => exact ⟨k + 1, _, by omega, by go_num, by omega, b5, k4.trans k5⟩
        case measure => simp [intOf]; omega
      · go_wp2_with fail
        refine (fin wr _ hB (by omega) hkb).mono ?_
        rintro e w4 ⟨s, rfl, hs, b4, k4⟩
        go_wp2_with fail
        refine (bl_string _ _ s _ b4 (by omega) (by omega)).mono ?_
        rintro e w5 ⟨rfl, b5, k5⟩
        go_wp2_with fail
        go_roundw
        case rel => exact ⟨k + 1, _, by omega, by go_num, by omega, b5, k4.trans k5⟩
        case measure => simp [intOf]; omega
    · go_wp2_with fail
      refine (bl_byte _ _ 125 _ (by omega) hB (by omega)).mono ?_
      rintro e w2 ⟨rfl, b2, k2⟩
      go_wp2_with fail
      refine (bl_done _ _ _ b2).mono ?_
      rintro e w3 ⟨s, rfl, k3⟩
      go_wp2_with fail
      go_ret
      exact ⟨_, rfl, Kp.of_below ((hkb.trans k2).trans k3) _⟩

end Go.Proofs.Qxb6500745aGreatDoor
