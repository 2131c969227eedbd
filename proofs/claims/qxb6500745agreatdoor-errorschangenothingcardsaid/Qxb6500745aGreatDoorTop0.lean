import Derived.Test.Qxb6500745aGreatDoorMach4
namespace Go.Proofs.Qxb6500745aGreatDoor
open Go.RowKit

structure OpV where
  k : Int
  a : Int
  b : Int
  c : Int
  v : Int
  u : Int
  xs : Value
  zs : List Int

def OpV.cells (o : OpV) : Array Value := opCells o.k o.a o.b o.c o.v o.u o.xs

structure OpAt (B : Nat) (w : World) (b off : Nat) (o : OpV) : Prop where
  c0 : w.cell? ⟨b, off, none⟩ = some (.int .i64 o.k)
  c1 : w.cell? ⟨b, off + 1, none⟩ = some (.int .i64 o.a)
  c2 : w.cell? ⟨b, off + 2, none⟩ = some (.int .i64 o.b)
  c3 : w.cell? ⟨b, off + 3, none⟩ = some (.int .i64 o.c)
  c4 : w.cell? ⟨b, off + 4, none⟩ = some (.int .i64 o.v)
  c5 : w.cell? ⟨b, off + 5, none⟩ = some (.int .i64 o.u)
  c6 : w.cell? ⟨b, off + 6, none⟩ = some o.xs
  xs : XsAt B w o.xs o.zs
  len : o.zs.length ≤ 4611686018427387904

def OpsAt (B : Nat) (w : World) (v : Value) (ops : List OpV) : Prop :=
  (ops = [] ∧ ∃ a c, v = .slice a 0 c) ∨ ∃ b off c, v = .slice (some ⟨b, off, none⟩) ops.length c ∧ b < B ∧ ops.length ≤ 4611686018427387904 ∧ ∀ i (h : i < ops.length), OpAt B w b (off + i * 7) ops[i]

theorem OpAt.kp {B : Nat} {w w' : World} {b off : Nat} {o : OpV} (h : OpAt B w b off o) (k : Kp [] w w') (hb : b < B) (hB : B ≤ w.heap.size) : OpAt B w' b off o where
  c0 := by rw [k.cell (by show b < _; omega) (by simp)]; exact h.c0
  c1 := by rw [k.cell (by show b < _; omega) (by simp)]; exact h.c1
  c2 := by rw [k.cell (by show b < _; omega) (by simp)]; exact h.c2
  c3 := by rw [k.cell (by show b < _; omega) (by simp)]; exact h.c3
  c4 := by rw [k.cell (by show b < _; omega) (by simp)]; exact h.c4
  c5 := by rw [k.cell (by show b < _; omega) (by simp)]; exact h.c5
  c6 := by rw [k.cell (by show b < _; omega) (by simp)]; exact h.c6
  xs := h.xs.kp k hB (by simp)
  len := h.len

theorem OpsAt.kp {B : Nat} {w w' : World} {v : Value} {ops : List OpV} (h : OpsAt B w v ops) (k : Kp [] w w') (hB : B ≤ w.heap.size) : OpsAt B w' v ops := by
  rcases h with h | ⟨b, off, c, h1, h2, h3, h4⟩
  · exact .inl h
  · exact .inr ⟨b, off, c, h1, h2, h3, fun i hi => (h4 i hi).kp k h2 hB⟩

def SmallOps (ops : List OpV) : Prop := ops.length ≤ 65536 ∧ ∀ i (h : i < ops.length), ops[i].zs.length ≤ 65536

theorem OpsAt.shape {B : Nat} {w : World} {v : Value} {ops : List OpV} (h : OpsAt B w v ops) : ∃ a c, v = .slice a ops.length c ∧ ops.length ≤ 4611686018427387904 := by
  rcases h with ⟨rfl, a, c, rfl⟩ | ⟨b, off, c, rfl, _, h, _⟩
  · exact ⟨a, c, rfl, by simp⟩
  · exact ⟨_, c, rfl, h⟩

theorem OpsAt.get {B : Nat} {w : World} {a : Option Addr} {n c : Nat} {ops : List OpV} (h : OpsAt B w (.slice a n c) ops) (i : Nat) (hi : i < ops.length) : ∃ b off, a = some ⟨b, off, none⟩ ∧ b < B ∧ OpAt B w b (off + i * 7) ops[i] := by
  rcases h with ⟨rfl, _⟩ | ⟨b, off, c, h1, h2, h3, h4⟩
  · simp at hi
  · simp at h1; exact ⟨b, off, h1.1, h2, h4 i hi⟩

def PSmall (w : World) (ops : List OpV) (e : Ending) (w' : World) : Prop := ∃ r : Bool, e = .returned (.bool r) ∧ (r = true → SmallOps ops) ∧ w' = w

set_option maxHeartbeats 1000000 in
theorem small_any {B : Nat} {w : World} {v : Value} {ops : List OpV} (h : OpsAt B w v ops) : Calls Tryz.prog 6 #[v] w (PSmall w ops) := by
  obtain ⟨a, c, rfl, hl⟩ := h.shape
  generalize hn : ops.length = n at *
  have HN : Hid (ops.length = n) := hn
  clear hn
  by_cases hbig : n ≤ 65536
  · go_enter Tryz.func6, Tryz.ntmps6
    go_wp2_with fail
    go_loopw [3, 4] (fun s3 s4 wr => ∃ t i : Nat, s3 = .int .i64 t ∧ s4 = .int .i64 i ∧ i ≤ n ∧ t ≤ 65536 ∧ (∀ j (h : j < ops.length), j < i → ops[j].zs.length ≤ 65536) ∧ wr = w) (fun _ s4 _ => n - (intOf s4).toNat)
    case atStart => exact ⟨n, 0, rfl, rfl, Nat.zero_le _, hbig, fun _ _ h => by omega, rfl⟩
    case round =>
      obtain ⟨t, i, rfl, rfl, hi, ht, hall, rfl⟩ := hrel
      have HA : Hid (∀ j (h : j < ops.length), j < i → ops[j].zs.length ≤ 65536) := hall
      clear hall
      by_cases hin : i < n
      · obtain ⟨b, off, rfl, hb, ho⟩ := h.get i (by rw [HN.out]; exact hin)
        have e6 := ho.c6
        have el := ho.len
        obtain ⟨ax, cx, hxs⟩ := ho.xs.shape
        rw [hxs] at e6
        obtain ⟨m, hm⟩ : ∃ m, m = (ops[i]'(by rw [HN.out]; exact hin)).zs.length := ⟨_, rfl⟩
        rw [← hm] at e6 el
        have HO : Hid (∃ h : i < ops.length, m = ops[i].zs.length) := ⟨by rw [HN.out]; exact hin, hm⟩
        clear ho hxs hm
        by_cases hs : t + m ≤ 65536
        · go_wp2_with fail
          go_roundw
          case rel =>
            refine ⟨t + m, i + 1, by go_num, by go_num, by omega, hs, fun j hj hji => ?_, trivial⟩
            by_cases e : j = i
            · subst e; obtain ⟨_, h⟩ := HO.out; omega
            · exact HA.out j hj (by omega)
          case measure => simp [intOf]; omega
        · go_wp2_with fail
          go_ret
          exact ⟨false, rfl, by simp, rfl⟩
      · go_wp2_with fail
        go_ret
        exact ⟨true, rfl, fun _ => ⟨by rw [HN.out]; exact hbig, fun j hj => HA.out j hj (by rw [HN.out] at hj; omega)⟩, rfl⟩
  · go_enter Tryz.func6, Tryz.ntmps6
    go_wp2_with fail
    go_ret
    exact ⟨false, rfl, by simp, rfl⟩

structure TI (ea : Nat → Addr) (w : World) (mb : Nat) (pt : Nat → Nat) (D : Nat → DomV) (Z : Nat → List Int) (fp : Nat → List Nat) (wr : World) : Prop where
  g : Glob ea wr
  m : Mach wr mb pt D Z fp
  mb : w.heap.size ≤ mb
  fp : ∀ i, i < 8 → ∀ x ∈ fp i, w.heap.size ≤ x
  kp : Kp [] w wr

theorem TI.kp0 {ea : Nat → Addr} {w : World} {mb : Nat} {pt : Nat → Nat} {D : Nat → DomV} {Z : Nat → List Int} {fp : Nat → List Nat} {wr wr' : World} (h : TI ea w mb pt D Z fp wr) (k : Kp [] wr wr') : TI ea w mb pt D Z fp wr' :=
  ⟨h.g.kp k (by simp), h.m.kp0 k, h.mb, h.fp, h.kp.step k⟩

theorem TI.step {ea : Nat → Addr} {w : World} {mb : Nat} {pt : Nat → Nat} {D : Nat → DomV} {Z : Nat → List Int} {fp : Nat → List Nat} {wr wr' : World} (h : TI ea w mb pt D Z fp wr) (s : MStep wr mb fp wr') : ∃ pt' D' Z' fp', TI ea w mb pt' D' Z' fp' wr' := by
  obtain ⟨pt', D', Z', fp', L, m1, m2, m3, m4⟩ := s
  have hL : ∀ x ∈ L, w.heap.size ≤ x ∧ 8 ≤ x := fun x hx => by
    rcases m4 x hx with rfl | ⟨j, hj, hf⟩
    · exact ⟨h.mb, h.m.ge⟩
    · exact ⟨h.fp j hj x hf, (h.m.fge j hj x hf).1⟩
  have hs := h.kp.size
  refine ⟨pt', D', Z', fp', h.g.kp m3 (fun x hx => (hL x hx).2), m1, h.mb, fun i hi x hx => ?_, h.kp.trans m3 (by simp) (fun x hx hl => by have := (hL x hx).1; omega)⟩
  rcases m2 i hi x hx with ⟨j, hj, hf⟩ | hf
  · exact h.fp j hj x hf
  · omega

theorem newMachine_any {ea : Nat → Addr} {w : World} (G : Glob ea w) : Calls Tryz.prog 7 #[] w fun e w' => ∃ mb, e = .returned (bp mb) ∧ ∃ pt D Z fp, TI ea w mb pt D Z fp w' := by
  refine (newMachine_core w G.size).mono ?_
  rintro e w' ⟨mb, pt, D, Z, fp, rfl, m, h1, h2, k⟩
  exact ⟨mb, rfl, pt, D, Z, fp, G.kp k (by simp), m, h1, h2, k⟩

end Go.Proofs.Qxb6500745aGreatDoor
