import Derived.Test.Qxb6500745aGreatDoorSet9
import Derived.Test.Qxb6500745aGreatDoorMap3
namespace Go.Proofs.Qxb6500745aGreatDoor
open Go.RowKit Go.Maps

theorem sortC_all (B : Nat) : SortC B := by
  intro v L W hr hl hB
  obtain ⟨f, hrow, hf⟩ := IRow.of_owns hr
  rcases hrow with ⟨rfl, rfl, rfl⟩ | ⟨g, cap, cur, rfl, rfl, h3, h4, h5, h6, h7⟩
  · refine (Any.sort_Ints_none Tryz.lays191 none 0 W).mono ?_
    rintro e w' ⟨rfl, rfl⟩
    exact ⟨rfl, [], [], List.Perm.refl _, List.Pairwise.nil, hr, Kp.refl _ _, by simp⟩
  · have hgB := hf g (by simp)
    refine (Tryz.sort_Ints g 0 cap L W (holds_row h3 h7) h3.lt (by omega)).mono ?_
    rintro e w' ⟨rfl, q, os, rfl⟩
    rw [Lib.putRow_eq_setCells (Value.int .i64) W g 0 L.toArray (L.mergeSort fun x y => decide (x ≤ y)) q (holds_row h3 h7) (by simp)]
    have hlen : L.length = (L.mergeSort fun x y => decide (x ≤ y)).length := by simp
    have hp : (L.mergeSort fun x y => decide (x ≤ y)).Perm L := List.mergeSort_perm _ _
    have hle := sort_le L
    generalize (L.mergeSort fun x y => decide (x ≤ y)) = ys at *
    have hb := Blk.puts (iV ys) (W.drewN q) 0 cur (h3.drewN q)
    have kg : Kp [] ((W.drewN q).setCells g 0 (iV ys)) (Sort.grow ((W.drewN q).setCells g 0 (iV ys)) os) := ⟨rfl, rfl, rfl, by simp [Sort.grow], fun i hi _ => by
      show (((W.drewN q).setCells g 0 (iV ys)).heap ++ os)[i]? = _
      rw [Array.getElem?_append_left hi]⟩
    have hir := IRow.kp (IRow.mk ys _ hlen hb (by omega) h5 (by rw [putAll_size]; exact h6) (fun k hk => by
      rw [putAll_at _ _ _ _ (by omega), if_pos (by simp [iV]; omega)]; simp)) kg (by simp)
    refine ⟨rfl, ys, [g], hp, hle, by rw [hlen] at *; exact hir.owns (by simpa using hgB), (Kp.setCells (fun _ => by simp) _ _ _ (Kp.dN W q).nil).trans kg (fun _ h _ => h) (fun _ h => by cases h), by simpa using hgB⟩

theorem asc_of {L : List Int} (h1 : L.Nodup) (h2 : L.Pairwise (· ≤ ·)) : L.Pairwise (· < ·) :=
  (List.pairwise_iff_getElem.2 fun i j hi hj hij => by
    have a1 := List.pairwise_iff_getElem.1 h1 i j hi hj hij
    have a2 := List.pairwise_iff_getElem.1 h2 i j hi hj hij
    omega)

theorem sorted_set {w : World} {b n : Nat} {vs zs : List Int} (h : MapAt w b n vs) (hn : n ≤ 1073741824) (he : ∀ x, x ∈ vs ↔ x ∈ zs) (hz : zs.Pairwise (· < ·)) : Calls Tryz.prog 47 #[.map (some b)] w (PFresh w zs) := by
  refine (sorted47 h (by omega) sortC_all).mono ?_
  rintro e w' ⟨v, L, rfl, hrow, _, hnd, hle, hmem, hk⟩
  have e : L = zs := asc_unique L zs (asc_of hnd hle) hz (fun x => (hmem x).trans (he x))
  subst e
  obtain ⟨f, hr, hf⟩ := IRow.of_owns hrow
  exact ⟨v, f, rfl, hr, fun x hx => by have := hf x hx; omega, hk⟩

theorem size_set {w : World} {b n : Nat} {vs zs : List Int} (h : MapAt w b n vs) (hn : n ≤ 1073741824) (he : ∀ x, x ∈ vs ↔ x ∈ zs) (hz : zs.Pairwise (· < ·)) : Calls Tryz.prog 53 #[.map (some b)] w fun e w' => e = .returned (.int .i64 (zs.length : Nat)) ∧ Kp [] w w' := by
  refine (size53 h hn sortC_all).mono ?_
  rintro e w' ⟨L, rfl, hnd, hle, hmem, hk⟩
  have e : L = zs := asc_unique L zs (asc_of hnd hle) hz (fun x => (hmem x).trans (he x))
  subst e
  exact ⟨rfl, hk⟩

def PAs (w : World) (n : Nat) (zs : List Int) (e : Ending) (w' : World) : Prop :=
  ∃ m, e = .returned (.tuple #[.map (some m), .bool true]) ∧ MapAt w' m n zs ∧ w.heap.size ≤ m ∧ Kp [] w w'

set_option maxRecDepth 100000 in
set_option maxHeartbeats 2000000 in
theorem asSet_any {ea : Nat → Addr} {w : World} {b : Nat} {zs ms : List Int} {fp fm : List Nat} {mv : Value} (G : Glob ea w) (h : SetAt w b zs fp) (ok : SetOk zs) (hm : IRow w mv ms fm) (hml : ms.length ≤ 8388608) (hid : ∀ x ∈ ms, idIn x) (hin : ∀ x ∈ zs, x ∈ ms) :
    Calls Tryz.prog 37 #[.pointer (some ⟨b, 0, none⟩), mv] w (PAs w ms.length zs) := by
  have hmk := @run_makeMap Tryz.prog
  have h0 : MFI w w.heap.size 0 0 (fun _ => False) (w.alloc (.map #[] 0)) := ⟨⟨[], MapAt.new w, by simp⟩, Nat.le_refl _, (Kp.refl _ _).alloc _⟩
  obtain ⟨a, c, rfl⟩ := hm.shape
  have HG : Hid (Glob ea w) := G
  have HS : Hid (SetAt w b zs fp ∧ SetOk zs) := ⟨h, ok⟩
  have HI : Hid ((∀ x ∈ ms, idIn x) ∧ ∀ x ∈ zs, x ∈ ms) := ⟨hid, hin⟩
  have HMS : Hid (IRow w (.slice a ms.length c) ms fm) := hm
  have HF : Hid (MFI w w.heap.size 0 0 (fun _ => False) (w.alloc (.map #[] 0))) := h0
  clear G h ok hm hid hin h0
  generalize hl : ms.length = l at *
  have HL : Hid (ms.length = l) := hl
  clear hl
  generalize hmm : w.heap.size = m at *
  have HM : Hid (w.heap.size = m) := hmm
  go_enter Tryz.func37, Tryz.ntmps37
  go_wp2_with fail
  clear hmm
  go_loopw [14] (fun s wr => ∃ j : Nat, s = .int .i64 j ∧ j ≤ l ∧ MFI w m 0 j (fun x => x ∈ ms.take j ∧ x ∈ zs) wr) (fun s _ => l - (intOf s).toNat)
  case atStart => exact ⟨0, rfl, Nat.zero_le _, HF.out.congr (by simp)⟩
  case round =>
    obtain ⟨j, rfl, hj, fi⟩ := hrel
    have HFI : Hid (MFI w m 0 j (fun x => x ∈ ms.take j ∧ x ∈ zs) wr) := fi
    by_cases hjl : j < l
    · have hjL : j < ms.length := by rw [HL.out]; exact hjl
      obtain ⟨g, rfl, _, hc, _⟩ := (HMS.out.kp fi.kp (by simp)).get j hjL
      obtain ⟨x, hx⟩ : ∃ x, x = ms[j] := ⟨_, rfl⟩
      rw [← hx] at hc
      have hidx : idIn x := by rw [hx]; exact HI.out.1 _ (List.getElem_mem _)
      have hhas := s_has (HG.out.kp fi.kp (by simp)) (HS.out.1.kp fi.kp (by simp)) HS.out.2 x
      have HX : Hid (x = ms[j] ∧ idIn x) := ⟨hx, hidx⟩
      clear fi hx hidx
      go_wp2_with fail
      refine hhas.mono ?_
      rintro e w2 (⟨_, rfl, hk2⟩ | ⟨hbad, _⟩)
      · clear hhas
        have fi2 : MFI w m 0 j (fun x => x ∈ ms.take j ∧ x ∈ zs) w2 := by
          obtain ⟨vs, v1, v2⟩ := HFI.out.ex
          exact ⟨⟨vs, v1.kp hk2 (by simp), v2⟩, HFI.out.ge, HFI.out.kp.step hk2⟩
        by_cases hz : x ∈ zs
        · rw [show zs.contains x = true by simpa using hz]
          obtain ⟨w3, hrun, fi3, hk3⟩ := fi2.put (x := x) HX.out.2 (by omega)
          have H3 : Hid (MFI w m 0 (j + 1) (fun x => x ∈ ms.take (j + 1) ∧ x ∈ zs) w3) := fi3.congr (fun y => by
            rw [mem_take_succ hjL, ← HX.out.1]
            constructor
            · rintro (⟨h1, h2⟩ | rfl)
              · exact ⟨.inl h1, h2⟩
              · exact ⟨.inr rfl, hz⟩
            · rintro ⟨h1 | rfl, h2⟩
              · exact .inl ⟨h1, h2⟩
              · exact .inr rfl)
          clear fi2 fi3 hk3 hk2 hz
          go_wp2_with fail
          go_roundw
          case rel => exact ⟨j + 1, by go_num, by omega, H3.out⟩
          case measure => simp [intOf]; omega
        · rw [show zs.contains x = false by simpa using hz]
          have H3 : Hid (MFI w m 0 (j + 1) (fun x => x ∈ ms.take (j + 1) ∧ x ∈ zs) w2) := fi2.skip.congr (fun y => by
            rw [mem_take_succ hjL, ← HX.out.1]
            constructor
            · rintro ⟨h1, h2⟩
              exact ⟨.inl h1, h2⟩
            · rintro ⟨h1 | rfl, h2⟩
              · exact ⟨h1, h2⟩
              · exact absurd h2 hz)
          clear fi2 hk2 hz
          go_wp2_with fail
          go_roundw
          case rel => exact ⟨j + 1, by go_num, by omega, H3.out⟩
          case measure => simp [intOf]; omega
      · exact absurd HX.out.2 hbad
    · have e : j = l := by omega
      subst e
      obtain ⟨vs, v1, v2⟩ := fi.ex
      have hvz : ∀ x, x ∈ vs ↔ x ∈ zs := fun x => by
        rw [v2, ← HL.out, List.take_length]
        exact ⟨fun h => h.2, fun h => ⟨HI.out.2 x h, h⟩⟩
      have hsz := size_set v1 (by omega) hvz HS.out.2.1
      have HV : Hid (MapAt wr m (0 + j) zs ∧ w.heap.size ≤ m) := ⟨v1.congr hvz, fi.ge⟩
      clear fi v1 v2 hvz
      go_wp2_with fail
      refine hsz.mono ?_
      rintro e w2 ⟨rfl, hk2⟩
      have hln := s_len (HS.out.1.kp (HFI.out.kp.step hk2) (by simp))
      clear hsz
      go_wp2_with fail
      refine hln.mono ?_
      rintro e w3 ⟨rfl, h3⟩
      rw [h3]; clear h3 w3 hln
      have HK2 : Hid (Kp [] wr w2) := hk2
      clear hk2
      go_wp2_with fail
      go_ret2
      exact ⟨m, by simp, (HV.out.1.mono (by omega)).kp HK2.out (by simp), HV.out.2, HFI.out.kp.step HK2.out⟩

end Go.Proofs.Qxb6500745aGreatDoor
