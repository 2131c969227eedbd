import Derived.Test.Qxb6500745aGreatDoorMach1
namespace Go.Proofs.Qxb6500745aGreatDoor
open Go.RowKit

theorem Kp.same1 {a b : World} {x : Nat} {T : TypeId} {vs : Array Value} (k : Kp [x] a b) (h1 : Blk a x T vs) (h2 : Blk b x T vs) : Kp [] a b :=
  ⟨k.os, k.tape, k.output, k.size, fun y hy _ => by
    by_cases e : y = x
    · subst e; exact h2.trans h1.symm
    · exact k.block y hy (by simpa using e)⟩

theorem DNew.kp0 {w w1 w2 : World} {n b : Nat} (m : DNew w n b w1) (k : Kp [] w1 w2) : DNew w n b w2 := by
  obtain ⟨D, f, m1, m2, m3, m4, m5⟩ := m
  exact ⟨D, f, m1.kp k (by simp), m2, m3, m4, m5.step k⟩

set_option maxHeartbeats 1000000 in
theorem install_err (d : Value) (hd : d = .pointer none) (p : Value) (S T : Nat) (w : World) :
    Calls Tryz.prog 56 #[d, .iface 110 p, .pointer (some ⟨S, 0, none⟩), .pointer (some ⟨T, 0, none⟩)] w fun e w' => e = .returned (resV (.iface 110 p) false 0 (.slice none 0 0) ByteArray.empty) ∧ Kp [] w w' := by
  subst hd
  go_enter Tryz.func56, Tryz.ntmps56
  go_wp2_with fail
  refine bodyPost_ret (v := resV (.iface 110 p) false 0 (.slice none 0 0) ByteArray.empty) (by simp [results, Tryz.results56, go_sem, resV]; rfl) rfl ⟨rfl, ?_⟩
  exact (Kp.refl _ _).alloc _

set_option maxHeartbeats 1000000 in
theorem install_ok (b S T mb r : Nat) (hr : r < 4) (w : World) (b0 : Blk w S 24 #[.pointer (some ⟨mb, 0, none⟩)]) (b3 : Blk w T 3 #[.int .i64 r]) (pt : Nat → Nat) (bm : Blk w mb 48 (machCells pt)) :
    Calls Tryz.prog 56 #[.pointer (some ⟨b, 0, none⟩), .nilIface, .pointer (some ⟨S, 0, none⟩), .pointer (some ⟨T, 0, none⟩)] w fun e w' => e = .returned (resV .nilIface false 0 (.slice none 0 0) ByteArray.empty) ∧ ∃ wa, Kp [] w wa ∧ Kp [] (wa.setCell ⟨mb, r, none⟩ (bp b)) w' := by
  have q0 := (b0.alloc (.cells res0 39)).cell 0
  have q3 := (b3.alloc (.cells res0 39)).cell 0
  have qm := (bm.alloc (.cells res0 39)).cell r
  have qf := (bm.alloc (.cells res0 39)).frozen r
  rw [machCells_get _ _ (by omega)] at qm
  simp [res0] at q0 q3 qm qf
  have hmb := bm.lt
  have hne : w.heap.size ≠ mb := by omega
  clear b0 b3 bm
  go_enter Tryz.func56, Tryz.ntmps56
  go_wp2_with fail
  have BX : Blk (w.alloc (.cells res0 39)) w.heap.size 39 res0 := Blk.new w 39 res0
  have KX : Kp [] w (w.alloc (.cells res0 39)) := (Kp.refl _ _).alloc _
  unfold res0 at BX KX
  generalize hX : w.heap.size = X at *
  generalize w.alloc (Obj.cells #[Value.nilIface, Value.bool false, Value.int IntKind.i64 0, Value.slice none 0 0, Value.string { data := #[] }] 39) = W at *
  go_region
  have B2 := BX.other (p := ⟨mb, r, none⟩) hne (.pointer (some ⟨b, 0, none⟩))
  have r0 := B2.cell 0; have r1 := B2.cell 1; have r2 := B2.cell 2; have r3 := B2.cell 3; have r4 := B2.cell 4
  have z0 := B2.frozen 0; have z1 := B2.frozen 1; have z2 := B2.frozen 2; have z3 := B2.frozen 3; have z4 := B2.frozen 4
  simp at r0 r1 r2 r3 r4
  go_wp2_with fail
  refine bodyPost_ret (v := resV .nilIface false 0 (.slice none 0 0) ByteArray.empty) (by simp [results, Tryz.results56, go_sem, resV, r0, r1, r2, r3, r4]; rfl) rfl ⟨rfl, W, KX, ?_⟩
  refine (Kp.same1 (set5 _ X _ _ _ _ _) B2 ?_).drew
  have := ((((B2.set 0 .nilIface).set 1 (.bool false)).set 2 (.int .i64 0)).set 3 (.slice none 0 0)).set 4 (.string ⟨#[]⟩)
  simpa using this

theorem d_string {ea : Nat → Addr} {w : World} {b : Nat} {D : DomV} {fp : List Nat} (G : Glob ea w) (h : DomAt w b D fp) (ok : DomOk D) :
    Calls Tryz.prog 83 #[.pointer (some ⟨b, 0, none⟩)] w (PStr w) := by
  obtain ⟨a, f, hb, hg, hf, hn⟩ := h.op ok
  exact domString_core b D.words.length a (D.width : Int) (D.count : Int) D.words f w G hb hg rfl hn ok.2.2.1 (by omega) (by have := ok.1; omega) (show _ = _ by have := ok.2.1; omega)

theorem s_string {ea : Nat → Addr} {w : World} {b : Nat} {zs : List Int} {fp : List Nat} (G : Glob ea w) (h : SetAt w b zs fp) (ok : SetOk zs) :
    Calls Tryz.prog 92 #[.pointer (some ⟨b, 0, none⟩)] w (PStr w) := by
  obtain ⟨a, c, f, B, e1, z1, r1, n1, hf1⟩ := h.op
  exact setString_core b a zs.length c zs f w G e1 B.lt r1 rfl (by have := ok.len; omega) ok.2

end Go.Proofs.Qxb6500745aGreatDoor
