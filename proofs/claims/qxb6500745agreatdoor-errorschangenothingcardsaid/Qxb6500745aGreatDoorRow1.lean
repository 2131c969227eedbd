import Derived.Test.Qxb6500745aGreatDoorRow0
import Derived.SizedLaws
namespace Go.Proofs.Qxb6500745aGreatDoor
open Go.ChangeShapes Go.WideShapes Go.ChangeAt Go.WideMaps Go.WideElems Go.RowKit Go.Deep

theorem cell_lt {w : World} {a : Addr} {v : Value} (h : w.cell? a = some v) : a.block < w.heap.size := by
  obtain ⟨e, n, h1, _⟩ := World.shape?_of_cell? h
  unfold World.shape? at h1
  cases hh : w.heap[a.block]? with
  | none => simp [hh] at h1
  | some o => exact (Array.getElem?_eq_some_iff.1 hh).1

theorem bytes3 : Tryz.prog.bytesOf 3 = 8 := by kernel_rfl
theorem bytes29 : Tryz.prog.bytesOf 29 = 72 := by kernel_rfl
theorem reach_val : reachBytes = 140737488351232 := rfl

theorem xs_of_trod {H : Type} {enc : TypeId × Value → H} {W : World} {fuel : Nat} {c : Value} {x : DataW H × List MemPlace} (h : DataW.trod enc Tryz.prog W 0 (fun _ => true) true fuel 27 [c] = some x) (hw : ∀ n ∈ x.1.weights Tryz.prog 27, n ≤ reachBytes) : ∃ zs, XsAt W.heap.size W c zs ∧ zs.length ≤ 4611686018427387904 := by
  rcases open_ints Tryz.underlying27 Tryz.underlying3 cells3 h with ⟨hcs, _⟩ | ⟨a, len, cap, zs, hcs, _, hl, hm, hz, hx, hcell, _⟩
  · simp at hcs
    exact ⟨[], .inl ⟨rfl, none, 0, hcs⟩, by simp⟩
  · simp at hcs
    simp only [if_true] at hz
    have hlen : (zs.length) * 8 ≤ reachBytes := by
      refine hw _ ?_
      rw [hx]
      simp [DataW.weights, Tryz.underlying27, bytes3, lits]
      left; omega
    rw [reach_val] at hlen
    refine ⟨zs.take len, ?_, by simp; omega⟩
    by_cases h0 : len = 0
    · subst h0; exact .inl ⟨by simp, some a, cap, hcs⟩
    · have hc0 := hcell 0 (by omega)
      have hsp := World.cell?_spot hc0
      have hlt := cell_lt hc0
      obtain ⟨b, off, spot⟩ := a
      simp [Addr.add] at hsp hlt
      subst hsp
      refine .inr ⟨b, off, cap, by rw [hcs]; simp; omega, hlt, fun j hj => ?_⟩
      simp at hj
      have := hcell j (by omega)
      rw [Addr.add_lit] at this
      rw [this]
      have hj2 : j < zs.length := by omega
      simp [hj2]

theorem int1 {H : Type} {enc : TypeId × Value → H} {W : World} {t : TypeId} {fuel : Nat} {c : Value} {x : DataW H × List MemPlace} (ht : Tryz.prog.underlying t = some (.int .i64)) (h : DataW.trod enc Tryz.prog W 0 (fun _ => true) true fuel t [c] = some x) : ∃ n, c = .int .i64 n := by
  obtain ⟨n, e, _⟩ := DataW.trod_int ht h
  simp at e
  exact ⟨n, e⟩

set_option maxRecDepth 100000 in
theorem op_of_trod {H : Type} {enc : TypeId × Value → H} {W : World} {fuel b off : Nat} {cs : List Value} {x : DataW H × List MemPlace} (hc : W.cells? 0 ⟨b, off, none⟩ 7 = some cs) (h : DataW.trod enc Tryz.prog W 0 (fun _ => true) true fuel 29 cs = some x) (hw : ∀ n ∈ x.1.weights Tryz.prog 29, n ≤ reachBytes) : ∃ o, OpAt W.heap.size W b off o := by
  obtain ⟨_, hl, hcell⟩ := World.cells?_some hc
  obtain ⟨ys, n, _, hx, _, hyl, hf⟩ := DataW.trod_struct Tryz.underlying29 h
  match cs, hl with
  | [k0, k1, k2, k3, k4, k5, k6], _ =>
  have hyl' : ys.length = 7 := hyl
  match ys, hyl' with
  | [y0, y1, y2, y3, y4, y5, y6], _ =>
  have f0 := hf 0 _ rfl
  have f1 := hf 1 _ rfl
  have f2 := hf 2 _ rfl
  have f3 := hf 3 _ rfl
  have f4 := hf 4 _ rfl
  have f5 := hf 5 _ rfl
  have f6 := hf 6 _ rfl
  simp only [List.getElem?_cons_zero, List.getElem?_cons_succ] at f0 f1 f2 f3 f4 f5 f6
  obtain ⟨z0, rfl⟩ := int1 Tryz.underlying26 f0
  obtain ⟨z1, rfl⟩ := int1 Tryz.underlying3 f1
  obtain ⟨z2, rfl⟩ := int1 Tryz.underlying3 f2
  obtain ⟨z3, rfl⟩ := int1 Tryz.underlying3 f3
  obtain ⟨z4, rfl⟩ := int1 Tryz.underlying3 f4
  obtain ⟨z5, rfl⟩ := int1 Tryz.underlying3 f5
  obtain ⟨zs, hxs, hlen⟩ := xs_of_trod f6 (fun m hm => by
    refine hw m ?_
    rw [hx]
    simp [DataW.weights, Tryz.underlying29, DataW.weightsEach, hm])
  have g0 := hcell 0 (by omega)
  have g1 := hcell 1 (by omega)
  have g2 := hcell 2 (by omega)
  have g3 := hcell 3 (by omega)
  have g4 := hcell 4 (by omega)
  have g5 := hcell 5 (by omega)
  have g6 := hcell 6 (by omega)
  simp [Addr.add_lit] at g0 g1 g2 g3 g4 g5 g6
  exact ⟨⟨z0, z1, z2, z3, z4, z5, k6, zs⟩, g0, g1, g2, g3, g4, g5, g6, hxs, hlen⟩

theorem mem_weightsAll {H : Type} {P : Program} {e : TypeId} {d : DataW H} {n : Nat} : ∀ {l : List (DataW H)}, d ∈ l → n ∈ d.weights P e → n ∈ DataW.weightsAll P e l
  | x :: l, hd, hn => by
    simp only [DataW.weightsAll, List.mem_append]
    rcases List.mem_cons.1 hd with rfl | hd
    · exact .inl hn
    · exact .inr (mem_weightsAll hd hn)

theorem ops_of_trod {H : Type} {enc : TypeId × Value → H} {W : World} {fuel : Nat} {v : Value} {x : DataW H × List MemPlace} (h : DataW.trod enc Tryz.prog W 0 (fun _ => true) true fuel 22 [v] = some x) (hw : ∀ n ∈ x.1.weights Tryz.prog 22, n ≤ reachBytes) : ∃ ops, OpsAt W.heap.size W v ops := by
  rcases open_slice Tryz.underlying22 h with ⟨hcs, _⟩ | ⟨a, len, cap, m, n, D, Pl, hcs, _, hl, hm, hmm, hx, hel⟩
  · simp at hcs
    exact ⟨[], .inl ⟨rfl, none, 0, hcs⟩⟩
  · simp at hcs
    simp only [if_true] at hmm
    subst hmm
    rw [cells29] at hel
    have hlen : len ≤ 4611686018427387904 := by
      have : (len + (m - len)) * 72 ≤ reachBytes := by
        refine hw _ ?_
        rw [hx]
        simp [DataW.weights, Tryz.underlying22, bytes29]
      rw [reach_val] at this
      omega
    by_cases h0 : len = 0
    · subst h0; exact ⟨[], .inl ⟨rfl, some a, m, hcs⟩⟩
    · obtain ⟨c0, hc0, _⟩ := hel 0 (by omega)
      obtain ⟨_, hl0, hcell0⟩ := World.cells?_some hc0
      have hcz := hcell0 0 (by omega)
      rw [List.getElem?_eq_getElem (by omega)] at hcz
      have hsp := World.cell?_spot hcz
      have hlt := cell_lt hcz
      obtain ⟨b, off, spot⟩ := a
      simp [Addr.add] at hsp hlt
      subst hsp
      obtain ⟨f, hf⟩ := @choose_lt OpV ⟨⟨0, 0, 0, 0, 0, 0, .nilIface, []⟩⟩ len (fun i o => OpAt W.heap.size W b (off + i * 7) o) (fun i hi => by
        obtain ⟨cs', h1, h2⟩ := hel i (by omega)
        rw [Addr.add_lit] at h1
        refine op_of_trod h1 h2 (fun k hk => hw k ?_)
        rw [hx]
        simp only [DataW.weights, Tryz.underlying22, List.mem_cons, List.mem_append]
        exact .inr (.inl (mem_weightsAll (List.mem_map.2 ⟨i, List.mem_range.2 hi, rfl⟩) hk)))
      refine ⟨(List.range len).map f, .inr ⟨b, off, m, by rw [hcs]; simp, hlt, by simpa using hlen, fun i hi => ?_⟩⟩
      simp at hi
      simpa using hf i hi

end Go.Proofs.Qxb6500745aGreatDoor
