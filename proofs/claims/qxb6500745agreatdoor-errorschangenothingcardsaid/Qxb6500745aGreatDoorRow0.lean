import Derived.Test.Qxb6500745aGreatDoorTop0
import Derived.Test.Qxb6500745aGreatDoorRows
import Derived.ProofKit
import Derived.LaidMore
import Derived.LaidLaws
import Derived.OpenShut
import Derived.Carry
import Derived.Stop.Joined
import Derived.Deep.Slices
namespace Go.Proofs.Qxb6500745aGreatDoor
open Go.ChangeShapes Go.WideShapes Go.ChangeAt Go.WideMaps Go.WideElems Go.RowKit

theorem own : ownKnob Tryz.prog.godebug = none := by kernel_rfl
theorem laidOut : laidOutB Tryz.prog = true := by kernel_rfl
theorem cells3 : Tryz.prog.cellsOf 3 = 1 := by kernel_rfl
theorem cells26 : Tryz.prog.cellsOf 26 = 1 := by kernel_rfl
theorem cells27 : Tryz.prog.cellsOf 27 = 1 := by kernel_rfl
theorem cells29 : Tryz.prog.cellsOf 29 = 7 := by kernel_rfl
theorem cells9 : Tryz.prog.cellsOf 9 = 1 := by kernel_rfl
theorem cells112 : Tryz.prog.cellsOf 112 = 1 := by kernel_rfl
def laid8 : List (String × DataW Unit) := Rows.iDSetsStaySortedRow.laid
def nm8 (i : Nat) : String := (laid8.map (·.1)).getD i ("")
def errName : String := match (Rows.laid_e2e_api_ErrID : DataW Unit) with | .iface n _ => n | _ => ""
theorem gn0 : Tryz.prog.globalNamed (nm8 6) = some 0 := by kernel_rfl
theorem gn1 : Tryz.prog.globalNamed (nm8 3) = some 1 := by kernel_rfl
theorem gn2 : Tryz.prog.globalNamed (nm8 4) = some 2 := by kernel_rfl
theorem gn3 : Tryz.prog.globalNamed (nm8 5) = some 3 := by kernel_rfl
theorem gn4 : Tryz.prog.globalNamed (nm8 7) = some 4 := by kernel_rfl
theorem gn5 : Tryz.prog.globalNamed (nm8 1) = some 5 := by kernel_rfl
theorem gn6 : Tryz.prog.globalNamed (nm8 2) = some 6 := by kernel_rfl
theorem gn7 : Tryz.prog.globalNamed (nm8 0) = some 7 := by kernel_rfl
theorem gt0 : (Tryz.prog.globals[0]?).map (·.type) = some 37 := by kernel_rfl
theorem gt1 : (Tryz.prog.globals[1]?).map (·.type) = some 37 := by kernel_rfl
theorem gt2 : (Tryz.prog.globals[2]?).map (·.type) = some 37 := by kernel_rfl
theorem gt3 : (Tryz.prog.globals[3]?).map (·.type) = some 37 := by kernel_rfl
theorem gt4 : (Tryz.prog.globals[4]?).map (·.type) = some 37 := by kernel_rfl
theorem gt5 : (Tryz.prog.globals[5]?).map (·.type) = some 130 := by kernel_rfl
theorem gt6 : (Tryz.prog.globals[6]?).map (·.type) = some 160 := by kernel_rfl
theorem gt7 : (Tryz.prog.globals[7]?).map (·.type) = some 165 := by kernel_rfl
theorem row110 (u : TypeId) (h : Tryz.prog.typeName? 3 u = some errName) : u = 110 :=
  typeName_ptr_named (nm := "errors.errorString") (by kernel_rfl) (by kernel_rfl) (by decide) u (h.trans (congrArg some (by decide)))

theorem nums_of_trod {H : Type} {enc : TypeId × Value → H} {P : Program} {w : World} {base fuel n : Nat} {sp : Nat → Bool} {held : Bool} {t e : TypeId} {k : IntKind} {cs : List Value} {zs : List Int} {p : List MemPlace} (ht : P.underlying t = some (.array n e)) (he : P.underlying e = some (.int k)) (hc : P.cellsOf e = 1)
    (h : DataW.trod enc P w base sp held fuel t cs = some (.agg (zs.map fun z => .lit (.int k z)), p)) : zs.length = n ∧ ∀ i (hi : i < zs.length), cs[i]? = some (.int k zs[i]) := by
  obtain ⟨xs, m, _, hx, _, hn, hel⟩ := DataW.trod_array ht h
  simp only [Prod.mk.injEq, DataW.agg.injEq] at hx
  have hlen : zs.length = n := by have := congrArg List.length hx.1; simp at this; omega
  refine ⟨hlen, fun i hi => ?_⟩
  have h1 := hel i (by omega)
  rw [hc, Nat.mul_one] at h1
  have hxi : i < xs.length := by omega
  rw [List.getElem?_eq_getElem hxi] at h1
  obtain ⟨z, e1, e2, _⟩ := DataW.trod_int he h1
  have e3 : (xs.map (·.1))[i]? = some (.lit (.int k zs[i])) := by rw [← hx.1]; simp [hi]
  rw [List.getElem?_map, List.getElem?_eq_getElem hxi, e2] at e3
  simp at e3
  rw [e3] at e1
  have : (cs.drop i)[0]? = some (.int k zs[i]) := by
    have := congrArg (·[0]?) e1
    simpa [List.getElem?_take] using this
  simpa using this

theorem var_blk {P : Program} {w : World} {n : String} {g : Nat} {cs : Array Value} (hg : P.globalNamed n = some g) (h : w.var? P n = some cs) : ∃ T fz, w.heap[g]? = some (.cells cs T fz) := by
  simp only [World.var?, hg, Option.bind_some] at h
  split at h
  · rename_i c T fz hh
    simp at h
    subst h
    exact ⟨T, fz, hh⟩
  · cases h

set_option maxRecDepth 100000 in
theorem err_of_trod {W : World} {fuel g : Nat} {nm : String} {cs : Array Value} {text : List UInt8} {p ps : List MemPlace} (hg : Tryz.prog.globalNamed nm = some g) (hv : W.var? Tryz.prog nm = some cs) (h : DataW.trod (fun _ => ()) Tryz.prog W 0 (fun _ => true) false fuel 37 cs.toList = some (.iface errName (.ptr (.agg [.lit (.string text)])), p))
    (hrows : ∀ b off, MemPlace.cell b off ∈ ps → (∃ c t, W.heap[b]? = some (.cells c t (0, 0))) ∧ ∀ u v, W.cell? ⟨b, off, none⟩ = some (.iface u v) → Value.okWide Tryz.prog W .any 0 u v) (hin : ∀ x ∈ MemPlace.row ⟨g, 0, none⟩ cs.size, x ∈ ps) :
    ∃ a, W.cell? ⟨g, 0, none⟩ = some (.iface 110 (.pointer (some a))) := by
  obtain ⟨l⟩ := cs
  have ok : ∀ u v, l = [.iface u v] → Value.okWide Tryz.prog W .any 0 u v := fun u v e => by
    subst e
    exact (hrows g 0 (hin _ (by simp [MemPlace.row]))).2 u v (by simpa using World.var?_cell hg hv 0)
  obtain ⟨a, s, e, _⟩ := errorString_of_trod Tryz.underlying37 row110 Tryz.underlying110 Tryz.underlying112 rfl rfl Tryz.underlying9 cells112 cells9 h ok
  refine ⟨a, ?_⟩
  have := World.var?_cell hg hv 0
  simp at e
  subst e
  simpa using this

theorem datum64 : (Rows.laid_math_bits_deBruijn64tab : DataW Unit) = .agg ((Lib.deBruijn64tab.map (fun n : Nat => (n : Int))).map fun z => .lit (.int .u8 z)) := by kernel_rfl
theorem datumP : (Rows.laid_internal_strconv_uint64pow10 : DataW Unit) = .agg (Lib.pow10Tab.map fun z => .lit (.int .u64 z)) := by kernel_rfl

set_option maxRecDepth 100000 in
theorem glob_of_laid {W : World} (h : laidMetH Tryz.prog laid8 W) : ∃ ea, Glob ea W := by
  rw [MakeChecks.laidMetH_plain _ _ _ (by kernel_rfl)] at h
  obtain ⟨ps, ⟨g7, t7, s7, f7, p7, q7, hg7, ht7, hv7, hd7, ⟨g5, t5, s5, f5, p5, q5, hg5, ht5, hv5, hd5, ⟨g6, t6, s6, f6, p6, q6, hg6, ht6, hv6, hd6, ⟨g1, t1, s1, f1, p1, q1, hg1, ht1, hv1, hd1, ⟨g2, t2, s2, f2, p2, q2, hg2, ht2, hv2, hd2, ⟨g3, t3, s3, f3, p3, q3, hg3, ht3, hv3, hd3, ⟨g0, t0, s0, f0, p0, q0, hg0, ht0, hv0, hd0, ⟨g4, t4, s4, f4, p4, q4, hg4, ht4, hv4, hd4, hq4, e4⟩, e0⟩, e3⟩, e2⟩, e1⟩, e6⟩, e5⟩, e7⟩, hnd, hrows⟩ := h
  obtain rfl := Option.some.inj (gn7.symm.trans hg7)
  obtain rfl := Option.some.inj (gn5.symm.trans hg5)
  obtain rfl := Option.some.inj (gn6.symm.trans hg6)
  obtain rfl := Option.some.inj (gn1.symm.trans hg1)
  obtain rfl := Option.some.inj (gn2.symm.trans hg2)
  obtain rfl := Option.some.inj (gn3.symm.trans hg3)
  obtain rfl := Option.some.inj (gn0.symm.trans hg0)
  obtain rfl := Option.some.inj (gn4.symm.trans hg4)
  obtain rfl := Option.some.inj (gt7.symm.trans ht7)
  obtain rfl := Option.some.inj (gt5.symm.trans ht5)
  obtain rfl := Option.some.inj (gt6.symm.trans ht6)
  obtain rfl := Option.some.inj (gt1.symm.trans ht1)
  obtain rfl := Option.some.inj (gt2.symm.trans ht2)
  obtain rfl := Option.some.inj (gt3.symm.trans ht3)
  obtain rfl := Option.some.inj (gt0.symm.trans ht0)
  obtain rfl := Option.some.inj (gt4.symm.trans ht4)
  obtain ⟨a1, c1⟩ := err_of_trod hg1 hv1 hd1 hrows (fun x hx => by rw [e7, e5, e6, e1]; simp [hx])
  obtain ⟨a2, c2⟩ := err_of_trod hg2 hv2 hd2 hrows (fun x hx => by rw [e7, e5, e6, e1, e2]; simp [hx])
  obtain ⟨a3, c3⟩ := err_of_trod hg3 hv3 hd3 hrows (fun x hx => by rw [e7, e5, e6, e1, e2, e3]; simp [hx])
  obtain ⟨a0, c0⟩ := err_of_trod hg0 hv0 hd0 hrows (fun x hx => by rw [e7, e5, e6, e1, e2, e3, e0]; simp [hx])
  obtain ⟨a4, c4⟩ := err_of_trod hg4 hv4 hd4 hrows (fun x hx => by rw [e7, e5, e6, e1, e2, e3, e0, e4]; simp [hx])
  refine ⟨fun i => match i with | 0 => a0 | 1 => a1 | 2 => a2 | 3 => a3 | _ => a4, ?_, fun i hi => ?_, ?_, ?_⟩
  · obtain ⟨T, fz, hb⟩ := var_blk hg7 hv7
    have := (Array.getElem?_eq_some_iff.1 hb).1
    omega
  · match i, hi with
    | 0, _ => exact c0
    | 1, _ => exact c1
    | 2, _ => exact c2
    | 3, _ => exact c3
    | 4, _ => exact c4
  · have hd5' : DataW.trod (fun _ => ()) Tryz.prog W 0 (fun _ => true) false f5 130 s5.toList = some (Rows.laid_math_bits_deBruijn64tab, p5) := hd5
    rw [datum64] at hd5'
    have hn := nums_of_trod Tryz.underlying130 Tryz.underlying5 (by kernel_rfl) hd5'
    intro j hj
    rw [World.var?_cell hg5 hv5 j]
    have h2 := hn.2 j (by simpa using hj)
    rw [Array.getElem?_toList] at h2
    rw [h2]
    simp [hj]
  · have hd6' : DataW.trod (fun _ => ()) Tryz.prog W 0 (fun _ => true) false f6 160 s6.toList = some (Rows.laid_internal_strconv_uint64pow10, p6) := hd6
    have hcl : s6.toList.length = 20 := by
      obtain ⟨_, _, _, _, h, _⟩ := DataW.trod_array Tryz.underlying160 hd6'
      rw [h]; kernel_rfl
    rw [datumP] at hd6'
    have hn := nums_of_trod Tryz.underlying160 Tryz.underlying117 (by kernel_rfl) hd6'
    obtain ⟨T, fz, hb⟩ := var_blk hg6 hv6
    refine ⟨T, fz, ?_⟩
    rw [hb]
    have : s6.toList = Lib.pow10Tab.map (Value.int .u64) := by
      apply List.ext_getElem?
      intro i
      by_cases hi : i < Lib.pow10Tab.length
      · rw [hn.2 i hi]; simp [hi]
      · rw [List.getElem?_eq_none (by rw [hcl]; have := hn.1; omega), List.getElem?_eq_none (by simpa using hi)]
    rw [← this]

end Go.Proofs.Qxb6500745aGreatDoor
