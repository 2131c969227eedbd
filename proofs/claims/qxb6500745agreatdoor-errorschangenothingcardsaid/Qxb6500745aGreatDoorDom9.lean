import Derived.Test.Qxb6500745aGreatDoorDom8
namespace Go.Proofs.Qxb6500745aGreatDoor
open Go.RowKit

structure Glob (ea : Nat → Addr) (w : World) : Prop where
  size : 8 ≤ w.heap.size
  err : ∀ i, i < 5 → w.cell? ⟨i, 0, none⟩ = some (.iface 110 (.pointer (some (ea i))))
  tz : TabAt 5 Lib.deBruijn64tab w
  pow : ∃ T fz, w.heap[6]? = some (.cells (Lib.pow10Tab.map fun z => Value.int .u64 z).toArray T fz)

theorem Glob.kp {ea : Nat → Addr} {w w' : World} {L : List Nat} (h : Glob ea w) (k : Kp L w w') (hL : ∀ x ∈ L, 8 ≤ x) : Glob ea w' where
  size := Nat.le_trans h.size k.size
  err := fun i hi => (k.cell (p := ⟨i, 0, none⟩) (by have := h.size; show i < _; omega) (fun e => by have := hL i e; omega)).trans (h.err i hi)
  tz := fun j hj => (k.cell (p := ⟨5, j, none⟩) (by have := h.size; show 5 < _; omega) (fun e => by have := hL 5 e; omega)).trans (h.tz j hj)
  pow := by
    obtain ⟨T, fz, h1⟩ := h.pow
    exact ⟨T, fz, (k.block 6 (by have := h.size; omega) (fun e => by have := hL 6 e; omega)).trans h1⟩

theorem Glob.isErr {ea : Nat → Addr} (i : Nat) : isErr (.iface 110 (.pointer (some (ea i)))) := ⟨_, rfl⟩

def errV (ea : Nat → Addr) (i : Nat) : Value := .iface 110 (.pointer (some (ea i)))

def DMod (w : World) (b : Nat) (D : DomV) (fp : List Nat) (w' : World) : Prop := ∃ D', DomAt w' b D' fp ∧ DomOk D' ∧ D'.width = D.width ∧ Kp fp w w'

def POp2 (w : World) (b : Nat) (D : DomV) (fp : List Nat) (bad : Prop) (ev : Value) (e : Ending) (w' : World) : Prop :=
  (¬ bad ∧ ∃ r : Bool, e = .returned (.tuple #[.bool r, .nilIface]) ∧ DMod w b D fp w') ∨ (bad ∧ e = .returned (.tuple #[.bool false, ev]) ∧ Kp [] w w')

def POp3 (w : World) (bad : Prop) (ev : Value) (e : Ending) (w' : World) : Prop :=
  (¬ bad ∧ ∃ (r : Int) (ok : Bool), e = .returned (.tuple #[.int .i64 r, .bool ok, .nilIface]) ∧ Kp [] w w') ∨ (bad ∧ e = .returned (.tuple #[.int .i64 0, .bool false, ev]) ∧ Kp [] w w')

theorem Kp.dN (w : World) (q : Nat) : Kp [] w (w.drewN q) := (Kp.refl _ _).drewN q

theorem DMod.same {w w' : World} {b : Nat} {D : DomV} {fp : List Nat} (h : DomAt w b D fp) (ok : DomOk D) (k : Kp [] w w') : DMod w b D fp w' :=
  ⟨D, h.kp k (fun _ _ e => by cases e), ok, rfl, k.nil⟩

theorem DomAt.op {w : World} {b : Nat} {D : DomV} {fp : List Nat} (h : DomAt w b D fp) (ok : DomOk D) :
    ∃ a f, Blk w b 60 #[.int .i64 (D.width : Int), .int .i64 (D.count : Int), .slice a D.words.length D.words.length] ∧ WordsAt w (.slice a D.words.length D.words.length) D.words f ∧ fp = b :: f ∧ D.words.length ≤ 64 := by
  obtain ⟨v, f, h1, h2, rfl, h3, h4⟩ := h
  obtain ⟨a, rfl⟩ := h2.shape
  exact ⟨a, f, h1, h2, rfl, by have := ok.1; have := ok.2.1; omega⟩

theorem DMod.mk {w w' : World} {b : Nat} {D : DomV} {fp f : List Nat} {a : Option Addr} {ws' : List Nat} (h : DomAt w b D fp) (ok : DomOk D) (hf : fp = b :: f)
    (h1 : Blk w' b 60 #[.int .i64 (D.width : Int), .int .i64 ((pcs ws' : Nat) : Int), .slice a D.words.length D.words.length]) (h2 : WordsAt w' (.slice a D.words.length D.words.length) ws' f) (h3 : ws'.length = D.words.length) (h4 : ∀ x ∈ ws', x < W64) (k : Kp (b :: f) w w') : DMod w b D fp w' := by
  refine ⟨⟨D.width, pcs ws', ws'⟩, ⟨_, f, h1, h2, hf, h2.ne h1 (by decide), h.ge⟩, ⟨ok.1, by rw [h3]; exact ok.2.1, h4, rfl⟩, rfl, by rw [hf]; exact k⟩

def outR (D : DomV) (v : Int) : Prop := ¬ (0 ≤ v ∧ v < D.width)

theorem idx_ok {D : DomV} {v : Int} (ok : DomOk D) (h : ¬ outR D v) : 0 ≤ v ∧ v < D.width ∧ v / 64 < D.words.length ∧ (v / 64).toNat < D.words.length := by
  have := ok.2.1
  have h' := Decidable.not_not.1 h
  omega

theorem outR_dec {D : DomV} {v : Int} (h : outR D v) : decide (0 ≤ v ∧ v < (D.width : Int)) = false := decide_eq_false h

theorem bit_ok (v : Int) (h0 : 0 ≤ v) (x : Nat) (hx : x < W64) :
    IntKind.u64.wrap (2 ^ (v % 64).toNat) = ((2 ^ (v.toNat % 64) : Nat) : Int) ∧ bits BinOp.and IntKind.u64 (x : Int) ((2 ^ (v.toNat % 64) : Nat) : Int) = ((x &&& 2 ^ (v.toNat % 64) : Nat) : Int) ∧
    bits BinOp.or IntKind.u64 (x : Int) ((2 ^ (v.toNat % 64) : Nat) : Int) = ((x ||| 2 ^ (v.toNat % 64) : Nat) : Int) := by
  have hp := pow_lt_W64 (v.toNat % 64) (Nat.mod_lt _ (by omega))
  exact ⟨bit_shl v h0, bits_and_u64_nat _ _ hx hp, bits_or_u64_nat _ _ hx hp⟩

theorem andNot_bit (x k : Nat) (hx : x < W64) (hk : k < 64) : bits BinOp.andNot IntKind.u64 (x : Int) ((2 ^ k : Nat) : Int) = ((clr x k : Nat) : Int) := by
  have hW : W64 = 18446744073709551616 := rfl
  have hp := pow_lt_W64 k hk
  have h1 : (BitVec.ofInt 64 (x : Int)).toNat = x := by
    rw [BitVec.ofInt_natCast, BitVec.toNat_ofNat]; exact Nat.mod_eq_of_lt (by omega)
  have h2 : (BitVec.ofInt 64 ((2 ^ k : Nat) : Int)).toNat = 2 ^ k := by
    rw [BitVec.ofInt_natCast, BitVec.toNat_ofNat]; exact Nat.mod_eq_of_lt (by omega)
  show IntKind.u64.wrap ((BitVec.ofInt 64 (x : Int) &&& ~~~ BitVec.ofInt 64 ((2 ^ k : Nat) : Int)).toNat : Int) = _
  rw [BitVec.toNat_and, BitVec.toNat_not, h1, h2]
  have e : x &&& 2 ^ 64 - 1 - 2 ^ k = clr x k := by unfold clr; rw [W64_eq]
  rw [e]
  exact wrap_u64 _ (clr_lt x k hx)

theorem d_insert {ea : Nat → Addr} {w : World} {b : Nat} {D : DomV} {fp : List Nat} (G : Glob ea w) (h : DomAt w b D fp) (ok : DomOk D) (v : Int) :
    Calls Tryz.prog 61 #[.pointer (some ⟨b, 0, none⟩), .int .i64 v] w (POp2 w b D fp (outR D v) (errV ea 2)) := by
  obtain ⟨a, f, hb, hg, hf, hn⟩ := h.op ok
  have c0 := hb.cell 0; have c1 := hb.cell 1; have c2 := hb.cell 2
  simp at c0 c1 c2
  by_cases ho : outR D v
  · refine (insert_out b _ v _ w c0 (G.err 2 (by omega)) (Glob.isErr 2) (outR_dec ho)).mono ?_
    rintro e w' ⟨rfl, rfl⟩
    exact .inr ⟨ho, rfl, (Kp.refl _ _).drew⟩
  · obtain ⟨i0, i1, i2, i3⟩ := idx_ok ok ho
    obtain ⟨g, rfl, rfl, hbg, e1, fz⟩ := hg.get (v / 64).toNat i3
    have hx := ok.2.2.1 D.words[(v / 64).toNat] (List.getElem_mem _)
    obtain ⟨q1, q2, q3⟩ := bit_ok v i0 _ hx
    have hcnt := ok.2.2.2
    have hle := pcs_le D.words
    have hne := hb.ne hbg (by decide)
    refine (insert_in b g _ _ (D.width : Int) (D.count : Int) v D.words[(v / 64).toNat] _ _ _ w c0 c1 c2 hne (hb.frozen 1) i0 i1 (by have := ok.1; omega) i2 (by omega) (by omega) e1 fz q1 q2 q3).mono ?_
    rintro e w' (⟨_, rfl, rfl⟩ | ⟨ha, rfl, rfl⟩)
    · exact .inl ⟨ho, _, rfl, DMod.same h ok (Kp.refl _ _)⟩
    · refine .inl ⟨ho, _, rfl, ?_⟩
      have hbit : D.words[(v / 64).toNat].testBit (v.toNat % 64) = false := by
        rw [← and_bit]; simp [ha]
      have hk64 : v.toNat % 64 < 64 := Nat.mod_lt _ (by omega)
      have hp := pc_or_bit D.words[(v / 64).toNat] (v.toNat % 64) hk64 hbit
      have hs := pcs_set D.words (v / 64).toNat (D.words[(v / 64).toNat] ||| 2 ^ (v.toNat % 64)) i3
      have hw1 := (hg.upd rfl (v / 64).toNat (D.words[(v / 64).toNat] ||| 2 ^ (v.toNat % 64))).other (p := ⟨b, 1, none⟩) (by simpa using hne) (.int .i64 ((D.count : Int) + 1))
      have hb1 := (hb.other (p := ⟨g, (v / 64).toNat, none⟩) hne (uW (D.words[(v / 64).toNat] ||| 2 ^ (v.toNat % 64)))).set 1 (.int .i64 ((D.count : Int) + 1))
      refine DMod.mk h ok hf (ws' := D.words.set (v / 64).toNat (D.words[(v / 64).toNat] ||| 2 ^ (v.toNat % 64))) ?_ hw1 (by simp) ?_ (((Kp.refl _ _).setCell (fun _ => by simp) _).setCell (fun _ => by simp) _)
      · rw [show ((pcs (D.words.set (v / 64).toNat (D.words[(v / 64).toNat] ||| 2 ^ (v.toNat % 64))) : Nat) : Int) = (D.count : Int) + 1 by omega]
        exact hb1
      · intro x hx'
        rcases List.mem_or_eq_of_mem_set hx' with h' | rfl
        · exact ok.2.2.1 x h'
        · exact or_lt_W64 _ _ hx (pow_lt_W64 _ hk64)

theorem d_remove {ea : Nat → Addr} {w : World} {b : Nat} {D : DomV} {fp : List Nat} (G : Glob ea w) (h : DomAt w b D fp) (ok : DomOk D) (v : Int) :
    Calls Tryz.prog 62 #[.pointer (some ⟨b, 0, none⟩), .int .i64 v] w (POp2 w b D fp (outR D v) (errV ea 2)) := by
  obtain ⟨a, f, hb, hg, hf, hn⟩ := h.op ok
  have c0 := hb.cell 0; have c1 := hb.cell 1; have c2 := hb.cell 2
  simp at c0 c1 c2
  by_cases ho : outR D v
  · refine (remove_out b _ v _ w c0 (G.err 2 (by omega)) (Glob.isErr 2) (outR_dec ho)).mono ?_
    rintro e w' ⟨rfl, rfl⟩
    exact .inr ⟨ho, rfl, (Kp.refl _ _).drew⟩
  · obtain ⟨i0, i1, i2, i3⟩ := idx_ok ok ho
    obtain ⟨g, rfl, rfl, hbg, e1, fz⟩ := hg.get (v / 64).toNat i3
    have hx := ok.2.2.1 D.words[(v / 64).toNat] (List.getElem_mem _)
    obtain ⟨q1, q2, q3⟩ := bit_ok v i0 _ hx
    have hk64 : v.toNat % 64 < 64 := Nat.mod_lt _ (by omega)
    have q4 := andNot_bit D.words[(v / 64).toNat] (v.toNat % 64) hx hk64
    have hcnt := ok.2.2.2
    have hle := pcs_le D.words
    have hne := hb.ne hbg (by decide)
    refine (remove_in b g _ _ (D.width : Int) (D.count : Int) v D.words[(v / 64).toNat] _ _ _ w c0 c1 c2 hne (hb.frozen 1) i0 i1 (by have := ok.1; omega) i2 (by omega) (by omega) e1 fz q1 q2 q4).mono ?_
    rintro e w' (⟨_, rfl, rfl⟩ | ⟨ha, rfl, rfl⟩)
    · exact .inl ⟨ho, _, rfl, DMod.same h ok (Kp.refl _ _)⟩
    · refine .inl ⟨ho, _, rfl, ?_⟩
      have hbit : D.words[(v / 64).toNat].testBit (v.toNat % 64) = true := by
        rw [← and_bit]; simpa using ha
      have hp := pc_clr D.words[(v / 64).toNat] (v.toNat % 64) hk64 hbit
      have hs := pcs_set D.words (v / 64).toNat (clr D.words[(v / 64).toNat] (v.toNat % 64)) i3
      have hw1 := (hg.upd rfl (v / 64).toNat (clr D.words[(v / 64).toNat] (v.toNat % 64))).other (p := ⟨b, 1, none⟩) (by simpa using hne) (.int .i64 ((D.count : Int) - 1))
      have hb1 := (hb.other (p := ⟨g, (v / 64).toNat, none⟩) hne (uW (clr D.words[(v / 64).toNat] (v.toNat % 64)))).set 1 (.int .i64 ((D.count : Int) - 1))
      refine DMod.mk h ok hf (ws' := D.words.set (v / 64).toNat (clr D.words[(v / 64).toNat] (v.toNat % 64))) ?_ hw1 (by simp) ?_ (((Kp.refl _ _).setCell (fun _ => by simp) _).setCell (fun _ => by simp) _)
      · rw [show ((pcs (D.words.set (v / 64).toNat (clr D.words[(v / 64).toNat] (v.toNat % 64))) : Nat) : Int) = (D.count : Int) - 1 by omega]
        exact hb1
      · intro x hx'
        rcases List.mem_or_eq_of_mem_set hx' with h' | rfl
        · exact ok.2.2.1 x h'
        · exact clr_lt _ _ hx

theorem d_has {ea : Nat → Addr} {w : World} {b : Nat} {D : DomV} {fp : List Nat} (G : Glob ea w) (h : DomAt w b D fp) (ok : DomOk D) (v : Int) :
    Calls Tryz.prog 63 #[.pointer (some ⟨b, 0, none⟩), .int .i64 v] w (POp2 w b D fp (outR D v) (errV ea 2)) := by
  obtain ⟨a, f, hb, hg, hf, hn⟩ := h.op ok
  have c0 := hb.cell 0; have c1 := hb.cell 1; have c2 := hb.cell 2
  simp at c0 c1 c2
  by_cases ho : outR D v
  · refine (has_out b _ v _ w c0 (G.err 2 (by omega)) (Glob.isErr 2) (outR_dec ho)).mono ?_
    rintro e w' ⟨rfl, rfl⟩
    exact .inr ⟨ho, rfl, (Kp.refl _ _).drew⟩
  · obtain ⟨i0, i1, i2, i3⟩ := idx_ok ok ho
    obtain ⟨g, rfl, rfl, hbg, e1, fz⟩ := hg.get (v / 64).toNat i3
    have hx := ok.2.2.1 D.words[(v / 64).toNat] (List.getElem_mem _)
    obtain ⟨q1, q2, q3⟩ := bit_ok v i0 _ hx
    refine (has_in b g _ _ (D.width : Int) v D.words[(v / 64).toNat] _ _ w c0 c2 i0 i1 (by have := ok.1; omega) i2 e1 q1 q2).mono ?_
    rintro e w' ⟨rfl, rfl⟩
    exact .inl ⟨ho, _, rfl, DMod.same h ok (Kp.refl _ _)⟩
end Go.Proofs.Qxb6500745aGreatDoor
