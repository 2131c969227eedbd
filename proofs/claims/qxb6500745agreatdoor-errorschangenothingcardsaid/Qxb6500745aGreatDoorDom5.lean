import Derived.Test.Qxb6500745aGreatDoorDom4
namespace Go.Proofs.Qxb6500745aGreatDoor
open Go.RowKit

theorem info117 : (Tryz.prog.info? 117).map (fun i => (i.zero, i.size, i.bytes)) = some (some (.int .u64 0), 1, 8) := by kernel_rfl

def zeroW (n : Nat) : Array Value := ((List.replicate n 0).map uW).toArray

theorem made_zero (n : Nat) : madeCells (Value.int .u64 0).cells (n * 1) = zeroW n := by
  apply Array.ext
  · simp [madeCells, zeroW]
  · intro i h1 h2
    simp [madeCells, zeroW, Value.cells, Nat.mod_one, uW]

theorem make_words (W : World) (L : Int) (h0 : 0 ≤ L) (h1 : L ≤ 4096) :
    (Instr.makeSlice 58 (.int .i64 L) (.int .i64 L)).run Tryz.prog W = .ok (.slice (some ⟨W.heap.size, 0, none⟩) L.toNat L.toNat) (W.alloc (.cells (zeroW L.toNat) 117)) := by
  obtain ⟨i, hi, hz, hs, hb⟩ := info_parts info117
  have h := run_make (P := Tryz.prog) W 58 117 i (.int .u64 0) Tryz.underlying58 hi hz .i64 .i64 L L h0 (Int.le_refl _) (by rw [hb]; omega) (by omega)
  rw [hs, made_zero] at h
  exact h

set_option maxHeartbeats 400000 in
theorem newEmpty_bad (width : Int) (a : Addr) (w : World) (h : (0 ≤ width ∧ width ≤ 4096) = False) (hev : w.cell? ⟨1, 0, none⟩ = some (.iface 110 (.pointer (some a)))) :
    Calls Tryz.prog 57 #[.int .i64 width] w fun e w' => e = .returned (.tuple #[.pointer none, .iface 110 (.pointer (some a))]) ∧ ∃ q, w' = w.drewN q := by
  by_cases h1 : width < 0
  · clear h
    go_enter Tryz.func57, Tryz.ntmps57
    go_wp2
    go_quiet (fail)
    go_wp2
    go_ret2
    exact ⟨rfl, _, rfl⟩
  · have h2 : 4096 < width := by simp at h; omega
    clear h
    go_enter Tryz.func57, Tryz.ntmps57
    go_wp2
    go_quiet (fail)
    go_wp2
    go_ret2
    exact ⟨rfl, _, rfl⟩

set_option maxHeartbeats 400000 in
theorem newEmpty_ok (width : Int) (w : World) (h0 : 0 ≤ width) (h1 : width ≤ 4096) :
    Calls Tryz.prog 57 #[.int .i64 width] w fun e w' => e = .returned (.tuple #[.pointer (some ⟨w.heap.size + 1, 0, none⟩), .nilIface]) ∧
      w' = (w.alloc (.cells (zeroW ((width + 64 - 1) / 64).toNat) 117)).alloc (.cells #[.int .i64 width, .int .i64 0, .slice (some ⟨w.heap.size, 0, none⟩) ((width + 64 - 1) / 64).toNat ((width + 64 - 1) / 64).toNat] 60) := by
  have hm := fun W => make_words W ((width + 64 - 1) / 64) (by omega) (by omega)
  go_enter Tryz.func57, Tryz.ntmps57
  go_wp2
  go_ret2
  exact ⟨rfl, rfl⟩

set_option maxHeartbeats 400000 in
theorem clone_core (b n : Nat) (a : Option Addr) (width cnt : Int) (ws f : List Nat) (w : World)
    (hb : Blk w b 60 #[.int .i64 width, .int .i64 cnt, .slice a n n]) (hg : WordsAt w (.slice a n n) ws f) (hl : Hid (ws.length = n)) (hn : n ≤ 64) :
    Calls Tryz.prog 75 #[.pointer (some ⟨b, 0, none⟩)] w fun e w' => e = .returned (.pointer (some ⟨w.heap.size + 1, 0, none⟩)) ∧
      Blk w' (w.heap.size + 1) 60 #[.int .i64 width, .int .i64 cnt, .slice (some ⟨w.heap.size, 0, none⟩) n n] ∧ WordsAt w' (.slice (some ⟨w.heap.size, 0, none⟩) n n) ws [w.heap.size] ∧ Kp [] w w' := by
  have c0 := hb.cell 0; have c1 := hb.cell 1; have c2 := hb.cell 2
  simp at c0 c1 c2
  have hm := fun W => make_words W (n : Int) (by omega) (by omega)
  simp only [Int.toNat_natCast] at hm
  have d0 := fun o => (hb.alloc o).cell 0
  have d1 := fun o => (hb.alloc o).cell 1
  have d2 := fun o => (hb.alloc o).cell 2
  simp at d0 d1 d2
  go_enter Tryz.func75, Tryz.ntmps75
  go_wp2
  go_region
  go_wp2
  obtain ⟨X, hX⟩ : ∃ X, X = ((w.alloc (Obj.cells (zeroW n) 117)).alloc (Obj.cells #[.int .i64 width, .int .i64 cnt, .slice (some ⟨w.heap.size, 0, none⟩) n n] 60)).drew := ⟨_, rfl⟩
  have x1 : Blk X (w.heap.size + 1) 60 #[.int .i64 width, .int .i64 cnt, .slice (some ⟨w.heap.size, 0, none⟩) n n] := by
    rw [hX]; have := Blk.new (w.alloc (Obj.cells (zeroW n) 117)) 60 #[.int .i64 width, .int .i64 cnt, .slice (some ⟨w.heap.size, 0, none⟩) n n]; simpa using this.drew
  have x2 : WordsAt X (.slice (some ⟨w.heap.size, 0, none⟩) n n) (List.replicate n 0) [w.heap.size] := .inr ⟨w.heap.size, by simp, by rw [hX]; exact ((Blk.new w 117 (zeroW n)).alloc _).drew, rfl⟩
  have x3 : Blk X b 60 #[.int .i64 width, .int .i64 cnt, .slice a n n] := by rw [hX]; exact ((hb.alloc _).alloc _).drew
  have x4 : Kp [] w X := by rw [hX]; exact (((Kp.refl _ _).alloc _).alloc _).drew
  have x5 : WordsAt X (.slice a n n) ws f := hg.kp x4 (by simp)
  rw [← hX]
  clear hX hm d0 d1 d2 c0 c1 c2
  have c2 := x3.cell 2
  have e2 := x1.cell 2
  simp at c2 e2
  obtain ⟨v', w1, hr, g1, k1⟩ := copy_words X.drew (some ⟨w.heap.size, 0, none⟩) a n (List.replicate n 0) ws _ f x2 x5 (by simp) hl.out 3
  go_region_law (refine step_copy_run rfl _ _ 58 58 rfl _ _ rfl rfl hr ?_)
  all_goals go_wp2
  all_goals go_ret
  all_goals exact ⟨rfl, x1.drew.kp k1 (by simp), g1, x4.trans (Kp.trans (M := [w.heap.size]) ((Kp.refl [] X).drew) k1 (fun _ h => by cases h) (fun x hx _ => by simpa using hx)) (fun _ h => by cases h) (fun x hx hlt => by simp at hx; omega)⟩
end Go.Proofs.Qxb6500745aGreatDoor
