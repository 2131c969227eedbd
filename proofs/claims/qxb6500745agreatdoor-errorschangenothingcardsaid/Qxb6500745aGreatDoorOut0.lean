import Derived.Test.Qxb6500745aGreatDoorMach5
namespace Go.Proofs.Qxb6500745aGreatDoor
open Go.RowKit

theorem inDom_any {w : World} {b p : Nat} {D : DomV} {fp : List Nat} (h : DomAt w b D fp) (ok : DomOk D) (hp : w.cell? ⟨p, 0, none⟩ = some (.pointer (some ⟨b, 0, none⟩))) (v : Int) :
    Calls Tryz.prog 21 #[.int .i64 v, .pointer (some ⟨p, 0, none⟩)] w fun e w' => e = .returned (.bool (decide (0 ≤ v ∧ v < D.width))) ∧ w' = w := by
  have hw := d_width h ok
  by_cases h0 : 0 ≤ v
  · go_enter Tryz.func21, Tryz.ntmps21
    go_wp2_with (go_at_call 22; refine hw.mono ?_; rintro e w2 ⟨rfl, h2⟩; rw [h2]; clear h2 w2)
    go_ret
    exact ⟨by simp [h0], rfl⟩
  · clear hw
    go_enter Tryz.func21, Tryz.ntmps21
    go_wp2_with fail
    go_ret
    exact ⟨by simp; omega, rfl⟩

theorem isID_any (v : Int) (w : World) :
    Calls Tryz.prog 23 #[.int .i64 v] w fun e w' => e = .returned (.bool (decide (0 ≤ v ∧ v ≤ 1048575))) ∧ w' = w := by
  by_cases h0 : 0 ≤ v
  · go_enter Tryz.func23, Tryz.ntmps23
    go_wp2_with fail
    go_ret
    exact ⟨by simp [h0], rfl⟩
  · go_enter Tryz.func23, Tryz.ntmps23
    go_wp2_with fail
    go_ret
    exact ⟨by simp; omega, rfl⟩

theorem offV_any {w : World} {p : Nat} {V : Int} (hp : w.cell? ⟨p, 4, none⟩ = some (.int .i64 V)) (x : Int) :
    Calls Tryz.prog 25 #[.int .i64 x, .pointer (some ⟨p, 0, none⟩)] w fun e w' => e = .returned (.bool (decide (¬ (0 ≤ x ∧ x < V)))) ∧ w' = w := by
  by_cases h0 : x < 0
  · go_enter Tryz.func25, Tryz.ntmps25
    go_wp2_with fail
    go_ret
    exact ⟨by simp; omega, rfl⟩
  · go_enter Tryz.func25, Tryz.ntmps25
    go_wp2_with fail
    go_ret
    refine ⟨?_, rfl⟩
    simp

theorem notID_any {w : World} {p : Nat} (hp : w.cell? ⟨p, 0, none⟩ = some (.func (.func 23) #[] #[])) (x : Int) :
    Calls Tryz.prog 26 #[.int .i64 x, .pointer (some ⟨p, 0, none⟩)] w fun e w' => e = .returned (.bool (!decide (0 ≤ x ∧ x ≤ 1048575))) ∧ w' = w := by
  have h := isID_any x w
  generalize decide (0 ≤ x ∧ x ≤ 1048575) = r at *
  go_enter Tryz.func26, Tryz.ntmps26
  go_wp2_with (go_at_call 23; refine h.mono ?_; rintro e w2 ⟨rfl, h2⟩; rw [h2]; clear h2 w2)
  go_ret
  exact ⟨rfl, rfl⟩

theorem contains_xs {B : Nat} {w : World} {v : Value} {zs : List Int} (hx : XsAt B w v zs) (hz : zs.length ≤ 65536) (p : Int → Bool) (g : Nat) (lb : Array Value) (eg : ∀ args w, (callFunc g args).run Tryz.prog w = .ok (.enter g args) w) (hp : PredAt Tryz.prog g lb (Value.int .i64) p w) :
    Calls Tryz.prog 24 #[v, .func (.func g) #[] lb] w fun e w' => e = .returned (.bool (zs.any p)) ∧ ∃ q, w' = w.drewN q := by
  rcases hx with ⟨rfl, a, c, rfl⟩ | ⟨b, off, c, rfl, _, hc⟩
  · refine (Tryz.slices_ContainsFunc_empty (α := Int) a c _ w).mono ?_
    rintro e w' ⟨rfl, rfl⟩
    exact ⟨rfl, 0, rfl⟩
  · have := Tryz.slices_ContainsFunc (Value.int .i64) p g lb eg b off zs.length c zs w hp (Nat.le_refl _) (by omega) (fun j hj => by rw [hc j hj]; simp [hj])
    rw [List.take_length] at this
    exact this

end Go.Proofs.Qxb6500745aGreatDoor
