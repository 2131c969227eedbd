import Derived.Test.Qxb6500745aGreatDoorBase
import Derived.Test.Qxb6500745aGreatDoorPc
import Derived.Laws.Bits64b
import Derived.BigQuiet
import Derived.RegionTactic
namespace Go.Proofs.Qxb6500745aGreatDoor
open Go.RowKit

structure DomV where
  width : Nat
  count : Nat
  words : List Nat

def DomOk (D : DomV) : Prop := D.width ≤ 4096 ∧ D.words.length = (D.width + 63) / 64 ∧ (∀ x ∈ D.words, x < W64) ∧ D.count = pcs D.words

def uW (x : Nat) : Value := .int .u64 (x : Int)

def WordsAt (w : World) (v : Value) (ws : List Nat) (fp : List Nat) : Prop :=
  (v = .slice none 0 0 ∧ ws = [] ∧ fp = []) ∨
  ∃ g, v = .slice (some ⟨g, 0, none⟩) ws.length ws.length ∧ Blk w g 117 (ws.map uW).toArray ∧ fp = [g]

def DomAt (w : World) (b : Nat) (D : DomV) (fp : List Nat) : Prop :=
  ∃ v f, Blk w b 60 #[.int .i64 (D.width : Int), .int .i64 (D.count : Int), v] ∧ WordsAt w v D.words f ∧ fp = b :: f ∧ b ∉ f ∧ ∀ x ∈ fp, 8 ≤ x

theorem WordsAt.kp {w w' : World} {v : Value} {ws fp L : List Nat} (h : WordsAt w v ws fp) (k : Kp L w w') (hd : ∀ x ∈ fp, x ∉ L) : WordsAt w' v ws fp := by
  rcases h with h | ⟨g, h1, h2, rfl⟩
  · exact .inl h
  · exact .inr ⟨g, h1, h2.kp k (hd g (by simp)), rfl⟩

theorem WordsAt.lt {w : World} {v : Value} {ws fp : List Nat} (h : WordsAt w v ws fp) : ∀ x ∈ fp, x < w.heap.size := by
  rcases h with ⟨_, _, rfl⟩ | ⟨g, h1, h2, rfl⟩
  · simp
  · intro x hx; simp at hx; subst hx; exact h2.lt

theorem DomAt.kp {w w' : World} {b : Nat} {D : DomV} {fp L : List Nat} (h : DomAt w b D fp) (k : Kp L w w') (hd : ∀ x ∈ fp, x ∉ L) : DomAt w' b D fp := by
  obtain ⟨v, f, h1, h2, rfl, h3, h4⟩ := h
  exact ⟨v, f, h1.kp k (hd b (by simp)), h2.kp k (fun x hx => hd x (by simp [hx])), rfl, h3, h4⟩

theorem DomAt.lt {w : World} {b : Nat} {D : DomV} {fp : List Nat} (h : DomAt w b D fp) : ∀ x ∈ fp, x < w.heap.size := by
  obtain ⟨v, f, h1, h2, rfl, h3, h4⟩ := h
  intro x hx
  rcases List.mem_cons.1 hx with rfl | hx
  · exact h1.lt
  · exact h2.lt x hx

theorem DomAt.ge {w : World} {b : Nat} {D : DomV} {fp : List Nat} (h : DomAt w b D fp) : ∀ x ∈ fp, 8 ≤ x := by
  obtain ⟨v, f, h1, h2, rfl, h3, h4⟩ := h
  exact h4

theorem inRange_any (b : Nat) (width v : Int) (w : World) (hc : w.cell? ⟨b, 0, none⟩ = some (.int .i64 width)) :
    Calls Tryz.prog 99 #[.pointer (some ⟨b, 0, none⟩), .int .i64 v] w fun e w' => e = .returned (.bool (decide (0 ≤ v ∧ v < width))) ∧ w' = w := by
  go_enter Tryz.func99, Tryz.ntmps99
  go_wp2
  all_goals go_ret
  · exact ⟨by simp [*], rfl⟩
  · exact ⟨by simp; omega, rfl⟩

def isErr (v : Value) : Prop := ∃ a, v = .iface 110 (.pointer (some a))

set_option maxHeartbeats 400000 in
theorem insert_out (b : Nat) (width v : Int) (ev : Value) (w : World) (hc0 : w.cell? ⟨b, 0, none⟩ = some (.int .i64 width)) (hev : w.cell? ⟨2, 0, none⟩ = some ev) (hie : isErr ev)
  (ho : decide (0 ≤ v ∧ v < width) = false) :
    Calls Tryz.prog 61 #[.pointer (some ⟨b, 0, none⟩), .int .i64 v] w fun e w' => e = .returned (.tuple #[.bool false, ev]) ∧ w' = w.drew := by
  obtain ⟨a, rfl⟩ := hie
  have hi := inRange_any b width v w hc0
  rw [ho] at hi
  clear ho
  go_enter Tryz.func61, Tryz.ntmps61
  go_wp2_with (go_at_call 99; refine hi.mono ?_; rintro e w' ⟨rfl, rfl⟩)
  go_region
  go_wp2
  go_ret2
  exact ⟨rfl, rfl⟩

theorem bit_shl (v : Int) (h0 : 0 ≤ v) : IntKind.u64.wrap (2 ^ (v % 64).toNat) = ((2 ^ (v.toNat % 64) : Nat) : Int) := by
  have e : (v % 64).toNat = v.toNat % 64 := by omega
  rw [e]
  have hk : v.toNat % 64 < 64 := Nat.mod_lt _ (by omega)
  generalize v.toNat % 64 = k at hk
  have h2 : (2 : Nat) ^ k < 2 ^ 64 := Nat.pow_lt_pow_right (by omega) hk
  have h3 : ((2 ^ k : Nat) : Int) = (2 : Int) ^ k := by simp
  rw [← h3]
  generalize 2 ^ k = m at h2
  simp [IntKind.wrap, IntKind.signed, IntKind.bits]
  omega

theorem lt_lit {x : Nat} (h : x < W64) : x < 18446744073709551616 := h

set_option maxHeartbeats 400000 in
theorem insert_in (b g n c : Nat) (width cnt v : Int) (x bit a o : Nat) (w : World) (hc0 : w.cell? ⟨b, 0, none⟩ = some (.int .i64 width))
  (hc1 : w.cell? ⟨b, 1, none⟩ = some (.int .i64 cnt)) (hc2 : w.cell? ⟨b, 2, none⟩ = some (.slice (some ⟨g, 0, none⟩) n c)) (hbg : b ≠ g)
  (hf1 : w.frozen? ⟨b, 1, none⟩ = false) (hb0 : 0 ≤ v) (hb1 : v < width) (hb2 : width ≤ 4096)
  (hn : v / 64 < n) (hcc : 0 ≤ cnt) (hcc2 : cnt ≤ 4096) (hx : w.cell? ⟨g, (v / 64).toNat, none⟩ = some (.int .u64 x))
  (hfx : w.frozen? ⟨g, (v / 64).toNat, none⟩ = false)
  (hbit : IntKind.u64.wrap (2 ^ (v % 64).toNat) = (bit : Int)) (ha : bits BinOp.and IntKind.u64 (x : Int) (bit : Int) = (a : Int)) (ho : bits BinOp.or IntKind.u64 (x : Int) (bit : Int) = (o : Int)) :
    Calls Tryz.prog 61 #[.pointer (some ⟨b, 0, none⟩), .int .i64 v] w fun e w' =>
     (a ≠ 0 ∧ e = .returned (.tuple #[.bool false, .nilIface]) ∧ w' = w) ∨
     (a = 0 ∧ e = .returned (.tuple #[.bool true, .nilIface]) ∧ w' = (w.setCell ⟨g, (v / 64).toNat, none⟩ (.int .u64 (o : Int))).setCell ⟨b, 1, none⟩ (.int .i64 (cnt + 1))) := by
  have hi := inRange_any b width v w hc0
  rw [show decide (0 ≤ v ∧ v < width) = true by simp; omega] at hi
  go_enter Tryz.func61, Tryz.ntmps61
  go_wp2_with (go_at_call 99; refine hi.mono ?_; rintro e w' ⟨rfl, rfl⟩)
  all_goals go_ret2
  · exact .inl ⟨by rename_i h; simpa using h, rfl, rfl⟩
  · exact .inr ⟨by rename_i h; simpa using h, rfl, rfl⟩

set_option maxHeartbeats 400000 in
theorem remove_out (b : Nat) (width v : Int) (ev : Value) (w : World) (hc0 : w.cell? ⟨b, 0, none⟩ = some (.int .i64 width)) (hev : w.cell? ⟨2, 0, none⟩ = some ev) (hie : isErr ev)
  (ho : decide (0 ≤ v ∧ v < width) = false) :
    Calls Tryz.prog 62 #[.pointer (some ⟨b, 0, none⟩), .int .i64 v] w fun e w' => e = .returned (.tuple #[.bool false, ev]) ∧ w' = w.drew := by
  obtain ⟨a, rfl⟩ := hie
  have hi := inRange_any b width v w hc0
  rw [ho] at hi
  clear ho
  go_enter Tryz.func62, Tryz.ntmps62
  go_wp2_with (go_at_call 99; refine hi.mono ?_; rintro e w' ⟨rfl, rfl⟩)
  go_region
  go_wp2
  go_ret2
  exact ⟨rfl, rfl⟩

set_option maxHeartbeats 400000 in
theorem remove_in (b g n c : Nat) (width cnt v : Int) (x bit a o : Nat) (w : World) (hc0 : w.cell? ⟨b, 0, none⟩ = some (.int .i64 width))
  (hc1 : w.cell? ⟨b, 1, none⟩ = some (.int .i64 cnt)) (hc2 : w.cell? ⟨b, 2, none⟩ = some (.slice (some ⟨g, 0, none⟩) n c)) (hbg : b ≠ g)
  (hf1 : w.frozen? ⟨b, 1, none⟩ = false) (hb0 : 0 ≤ v) (hb1 : v < width) (hb2 : width ≤ 4096)
  (hn : v / 64 < n) (hcc : 0 ≤ cnt) (hcc2 : cnt ≤ 4096) (hx : w.cell? ⟨g, (v / 64).toNat, none⟩ = some (.int .u64 x))
  (hfx : w.frozen? ⟨g, (v / 64).toNat, none⟩ = false)
  (hbit : IntKind.u64.wrap (2 ^ (v % 64).toNat) = (bit : Int)) (ha : bits BinOp.and IntKind.u64 (x : Int) (bit : Int) = (a : Int)) (ho : bits BinOp.andNot IntKind.u64 (x : Int) (bit : Int) = (o : Int)) :
    Calls Tryz.prog 62 #[.pointer (some ⟨b, 0, none⟩), .int .i64 v] w fun e w' =>
     (a = 0 ∧ e = .returned (.tuple #[.bool false, .nilIface]) ∧ w' = w) ∨
     (a ≠ 0 ∧ e = .returned (.tuple #[.bool true, .nilIface]) ∧ w' = (w.setCell ⟨g, (v / 64).toNat, none⟩ (.int .u64 (o : Int))).setCell ⟨b, 1, none⟩ (.int .i64 (cnt - 1))) := by
  have hi := inRange_any b width v w hc0
  rw [show decide (0 ≤ v ∧ v < width) = true by simp; omega] at hi
  go_enter Tryz.func62, Tryz.ntmps62
  go_wp2_with (go_at_call 99; refine hi.mono ?_; rintro e w' ⟨rfl, rfl⟩)
  all_goals go_ret2
  · exact .inl ⟨by rename_i h; simpa using h, rfl, rfl⟩
  · exact .inr ⟨by rename_i h; simpa using h, rfl, rfl⟩

set_option maxHeartbeats 400000 in
theorem has_out (b : Nat) (width v : Int) (ev : Value) (w : World) (hc0 : w.cell? ⟨b, 0, none⟩ = some (.int .i64 width)) (hev : w.cell? ⟨2, 0, none⟩ = some ev) (hie : isErr ev)
  (ho : decide (0 ≤ v ∧ v < width) = false) :
    Calls Tryz.prog 63 #[.pointer (some ⟨b, 0, none⟩), .int .i64 v] w fun e w' => e = .returned (.tuple #[.bool false, ev]) ∧ w' = w.drew := by
  obtain ⟨a, rfl⟩ := hie
  have hi := inRange_any b width v w hc0
  rw [ho] at hi
  clear ho
  go_enter Tryz.func63, Tryz.ntmps63
  go_wp2_with (go_at_call 99; refine hi.mono ?_; rintro e w' ⟨rfl, rfl⟩)
  go_region
  go_wp2
  go_ret2
  exact ⟨rfl, rfl⟩

set_option maxHeartbeats 400000 in
theorem has_in (b g n c : Nat) (width v : Int) (x bit a : Nat) (w : World) (hc0 : w.cell? ⟨b, 0, none⟩ = some (.int .i64 width))
  (hc2 : w.cell? ⟨b, 2, none⟩ = some (.slice (some ⟨g, 0, none⟩) n c))
  (hb0 : 0 ≤ v) (hb1 : v < width) (hb2 : width ≤ 4096)
  (hn : v / 64 < n) (hx : w.cell? ⟨g, (v / 64).toNat, none⟩ = some (.int .u64 x))
  (hbit : IntKind.u64.wrap (2 ^ (v % 64).toNat) = (bit : Int)) (ha : bits BinOp.and IntKind.u64 (x : Int) (bit : Int) = (a : Int)) :
    Calls Tryz.prog 63 #[.pointer (some ⟨b, 0, none⟩), .int .i64 v] w fun e w' =>
     e = .returned (.tuple #[.bool ((a : Int) != 0), .nilIface]) ∧ w' = w := by
  have hi := inRange_any b width v w hc0
  rw [show decide (0 ≤ v ∧ v < width) = true by simp; omega] at hi
  go_enter Tryz.func63, Tryz.ntmps63
  go_wp2_with (go_at_call 99; refine hi.mono ?_; rintro e w' ⟨rfl, rfl⟩)
  go_ret2
  exact ⟨rfl, rfl⟩

end Go.Proofs.Qxb6500745aGreatDoor
