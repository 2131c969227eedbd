import Derived.Test.Qxb6500745aGreatDoorSet7
namespace Go.Proofs.Qxb6500745aGreatDoor
open Go.RowKit

theorem s_intersectWith {w : World} {b1 b2 : Nat} {zs us : List Int} {fp1 fp2 : List Nat} (h1 : SetAt w b1 zs fp1) (ok1 : SetOk zs) (h2 : SetAt w b2 us fp2) (ok2 : SetOk us) (hd : (b1 = b2 ∧ zs = us) ∨ ∀ x ∈ fp2, x ∉ fp1) :
    Calls Tryz.prog 42 #[.pointer (some ⟨b1, 0, none⟩), .pointer (some ⟨b2, 0, none⟩)] w (PFilter w b1 zs us true fp1) := by
  have h := s_filter h1 ok1 h2 ok2 hd true
  clear h1 h2 ok1 ok2 hd
  go_enter Tryz.func42, Tryz.ntmps42
  go_wp2_with fail
  refine h.mono ?_
  rintro e w2 ⟨r, rfl, hr, hm⟩
  have HR : Hid (r = true ↔ zs.filter (fun x => us.contains x == true) ≠ zs) := hr
  clear hr
  go_wp2_with fail
  go_ret
  exact ⟨r, rfl, HR.out, hm⟩

theorem s_diffWith {w : World} {b1 b2 : Nat} {zs us : List Int} {fp1 fp2 : List Nat} (h1 : SetAt w b1 zs fp1) (ok1 : SetOk zs) (h2 : SetAt w b2 us fp2) (ok2 : SetOk us) (hd : (b1 = b2 ∧ zs = us) ∨ ∀ x ∈ fp2, x ∉ fp1) :
    Calls Tryz.prog 45 #[.pointer (some ⟨b1, 0, none⟩), .pointer (some ⟨b2, 0, none⟩)] w (PFilter w b1 zs us false fp1) := by
  have h := s_filter h1 ok1 h2 ok2 hd false
  clear h1 h2 ok1 ok2 hd
  go_enter Tryz.func45, Tryz.ntmps45
  go_wp2_with fail
  refine h.mono ?_
  rintro e w2 ⟨r, rfl, hr, hm⟩
  have HR : Hid (r = true ↔ zs.filter (fun x => us.contains x == false) ≠ zs) := hr
  clear hr
  go_wp2_with fail
  go_ret
  exact ⟨r, rfl, HR.out, hm⟩

theorem SNew.then {w w1 w2 : World} {zs' : List Int} {b : Nat} {fp : List Nat} (hf : ∀ x ∈ fp, w.heap.size ≤ x) (k1 : Kp [] w w1) (m : SMod w1 b zs' fp w2) : SNew w zs' b w2 := by
  obtain ⟨fp', s1, _, s3, s4⟩ := m
  have := k1.size
  exact ⟨fp', s1, fun x hx => by rcases s3 x hx with h | h; exact hf x h; omega, k1.trans s4 (by simp) (fun x hx hl => by have := hf x hx; omega)⟩

def PSet (w : World) (zs : List Int) (e : Ending) (w' : World) : Prop := ∃ b', e = .returned (.pointer (some ⟨b', 0, none⟩)) ∧ SNew w zs b' w'

theorem s_union {w : World} {b1 b2 : Nat} {zs us : List Int} {fp1 fp2 : List Nat} (hs : 8 ≤ w.heap.size) (h1 : SetAt w b1 zs fp1) (ok1 : SetOk zs) (h2 : SetAt w b2 us fp2) (ok2 : SetOk us) :
    Calls Tryz.prog 38 #[.pointer (some ⟨b1, 0, none⟩), .pointer (some ⟨b2, 0, none⟩)] w (PSet w (un zs us)) := by
  have hc := s_clone hs h1 ok1
  have h2' : Hid (SetAt w b2 us fp2) := h2
  clear h1 h2
  go_enter Tryz.func38, Tryz.ntmps38
  go_wp2_with fail
  refine hc.mono ?_
  rintro e w2 ⟨b, rfl, fp, s1, s2, s3⟩
  have hu := s_unionWith s1 ok1 (h2'.out.kp s3 (by simp)) ok2 (.inr (fun x hx hx2 => by have := h2'.out.lt x hx; have := s2 x hx2; omega))
  clear hc
  go_wp2_with fail
  refine hu.mono ?_
  rintro e w3 ⟨r, rfl, hr, hm⟩
  clear hr
  go_wp2_with fail
  go_ret
  exact ⟨b, rfl, SNew.then s2 s3 hm⟩

theorem s_intersect {w : World} {b1 b2 : Nat} {zs us : List Int} {fp1 fp2 : List Nat} (hs : 8 ≤ w.heap.size) (h1 : SetAt w b1 zs fp1) (ok1 : SetOk zs) (h2 : SetAt w b2 us fp2) (ok2 : SetOk us) :
    Calls Tryz.prog 41 #[.pointer (some ⟨b1, 0, none⟩), .pointer (some ⟨b2, 0, none⟩)] w (PSet w (zs.filter (fun x => us.contains x == true))) := by
  have hc := s_clone hs h1 ok1
  have h2' : Hid (SetAt w b2 us fp2) := h2
  clear h1 h2
  go_enter Tryz.func41, Tryz.ntmps41
  go_wp2_with fail
  refine hc.mono ?_
  rintro e w2 ⟨b, rfl, fp, s1, s2, s3⟩
  have hu := s_intersectWith s1 ok1 (h2'.out.kp s3 (by simp)) ok2 (.inr (fun x hx hx2 => by have := h2'.out.lt x hx; have := s2 x hx2; omega))
  clear hc
  go_wp2_with fail
  refine hu.mono ?_
  rintro e w3 ⟨r, rfl, hr, hm⟩
  clear hr
  go_wp2_with fail
  go_ret
  exact ⟨b, rfl, SNew.then s2 s3 hm⟩

theorem s_diff {w : World} {b1 b2 : Nat} {zs us : List Int} {fp1 fp2 : List Nat} (hs : 8 ≤ w.heap.size) (h1 : SetAt w b1 zs fp1) (ok1 : SetOk zs) (h2 : SetAt w b2 us fp2) (ok2 : SetOk us) :
    Calls Tryz.prog 44 #[.pointer (some ⟨b1, 0, none⟩), .pointer (some ⟨b2, 0, none⟩)] w (PSet w (zs.filter (fun x => us.contains x == false))) := by
  have hc := s_clone hs h1 ok1
  have h2' : Hid (SetAt w b2 us fp2) := h2
  clear h1 h2
  go_enter Tryz.func44, Tryz.ntmps44
  go_wp2_with fail
  refine hc.mono ?_
  rintro e w2 ⟨b, rfl, fp, s1, s2, s3⟩
  have hu := s_diffWith s1 ok1 (h2'.out.kp s3 (by simp)) ok2 (.inr (fun x hx hx2 => by have := h2'.out.lt x hx; have := s2 x hx2; omega))
  clear hc
  go_wp2_with fail
  refine hu.mono ?_
  rintro e w3 ⟨r, rfl, hr, hm⟩
  clear hr
  go_wp2_with fail
  go_ret
  exact ⟨b, rfl, SNew.then s2 s3 hm⟩

def PBool (w : World) (p : Prop) (e : Ending) (w' : World) : Prop := ∃ r : Bool, e = .returned (.bool r) ∧ (r = true ↔ p) ∧ ∃ q, w' = w.drewN q

set_option maxRecDepth 100000 in
set_option maxHeartbeats 2000000 in
theorem s_subset {w : World} {b1 b2 : Nat} {zs us : List Int} {fp1 fp2 : List Nat} (h1 : SetAt w b1 zs fp1) (ok1 : SetOk zs) (h2 : SetAt w b2 us fp2) (ok2 : SetOk us) :
    Calls Tryz.prog 50 #[.pointer (some ⟨b1, 0, none⟩), .pointer (some ⟨b2, 0, none⟩)] w (PBool w (∀ x ∈ zs, x ∈ us)) := by
  obtain ⟨a1, c1, f1, B1, e1, z1, r1, n1, hf1⟩ := h1.op
  obtain ⟨a2, c2, f2, B2, e2, z2, r2, n2, hf2⟩ := h2.op
  have hl1 := ok1.len
  have hl2 := ok2.len
  have hcom : ∀ q, Calls Tryz.prog 94 #[.slice a1 zs.length c1, .slice a2 us.length c2] (w.drewN q) fun e w' => e = .returned (.int .i64 (cc zs us : Nat)) ∧ ∃ q', w' = (w.drewN q).drewN q' := fun q =>
    common_row (r1.kp (Kp.dN w q) (by simp)) (r2.kp (Kp.dN w q) (by simp)) rfl rfl ok1.1 ok2.1 (by omega) (by omega)
  have hsym := cc_sym ok1.1 ok2.1
  have HA : Hid ((∀ x ∈ zs, x ∈ us) ↔ cc zs us = zs.length) := cc_all.symm
  have hcl := cc_le us zs
  rw [← hsym] at hcl
  clear h1 h2 n1 n2 r1 r2 B1 B2 z1 z2 hsym
  generalize cc zs us = k at *
  by_cases hle : zs.length ≤ us.length
  · by_cases hk : k = zs.length
    · have hq : ((k : Int) == (zs.length : Int)) = true := by simp [hk]
      have HR : Hid (∀ x ∈ zs, x ∈ us) := HA.out.2 hk
      clear hk
      go_enter Tryz.func50, Tryz.ntmps50
      go_wp2_with fail
      go_quiet ((go_at_call 94; refine Calls.quiet_of (hcom _)))
      go_wp2_with fail
      go_ret
      exact ⟨true, rfl, by simpa using HR.out, _, rfl⟩
    · have hq : ((k : Int) == (zs.length : Int)) = false := by simp; omega
      have HR : Hid (¬ ∀ x ∈ zs, x ∈ us) := fun h => hk (HA.out.1 h)
      clear hk
      go_enter Tryz.func50, Tryz.ntmps50
      go_wp2_with fail
      go_quiet ((go_at_call 94; refine Calls.quiet_of (hcom _)))
      go_wp2_with fail
      go_ret
      exact ⟨false, rfl, iff_of_false (by simp) HR.out, _, rfl⟩
  · have HR : Hid (¬ ∀ x ∈ zs, x ∈ us) := fun h => by have := HA.out.1 h; omega
    have hd : decide ((zs.length : Int) ≤ (us.length : Int)) = false := by simp; omega
    clear hcom
    go_enter Tryz.func50, Tryz.ntmps50
    go_wp2_with fail
    go_quiet (fail)
    go_wp2_with fail
    go_ret
    exact ⟨false, rfl, iff_of_false (by simp) HR.out, _, rfl⟩

set_option maxRecDepth 100000 in
set_option maxHeartbeats 1000000 in
theorem s_disjoint {w : World} {b1 b2 : Nat} {zs us : List Int} {fp1 fp2 : List Nat} (h1 : SetAt w b1 zs fp1) (ok1 : SetOk zs) (h2 : SetAt w b2 us fp2) (ok2 : SetOk us) :
    Calls Tryz.prog 52 #[.pointer (some ⟨b1, 0, none⟩), .pointer (some ⟨b2, 0, none⟩)] w (PBool w (∀ x ∈ zs, x ∉ us)) := by
  obtain ⟨a1, c1, f1, B1, e1, z1, r1, n1, hf1⟩ := h1.op
  obtain ⟨a2, c2, f2, B2, e2, z2, r2, n2, hf2⟩ := h2.op
  have hl1 := ok1.len
  have hl2 := ok2.len
  have hcom : ∀ q, Calls Tryz.prog 94 #[.slice a1 zs.length c1, .slice a2 us.length c2] (w.drewN q) fun e w' => e = .returned (.int .i64 (cc zs us : Nat)) ∧ ∃ q', w' = (w.drewN q).drewN q' := fun q =>
    common_row (r1.kp (Kp.dN w q) (by simp)) (r2.kp (Kp.dN w q) (by simp)) rfl rfl ok1.1 ok2.1 (by omega) (by omega)
  have HA : Hid ((∀ x ∈ zs, x ∉ us) ↔ cc zs us = 0) := cc_none.symm
  clear h1 h2 n1 n2 r1 r2 B1 B2 z1 z2
  generalize cc zs us = k at *
  by_cases hk : k = 0
  · have HR : Hid (∀ x ∈ zs, x ∉ us) := HA.out.2 hk
    subst hk
    go_enter Tryz.func52, Tryz.ntmps52
    go_wp2_with fail
    go_quiet ((go_at_call 94; refine Calls.quiet_of (hcom _)))
    go_wp2_with fail
    go_ret
    exact ⟨true, rfl, by simpa using HR.out, _, rfl⟩
  · have hq : ((k : Int) == 0) = false := by simp; omega
    have HR : Hid (¬ ∀ x ∈ zs, x ∉ us) := fun h => hk (HA.out.1 h)
    clear hk
    go_enter Tryz.func52, Tryz.ntmps52
    go_wp2_with fail
    go_quiet ((go_at_call 94; refine Calls.quiet_of (hcom _)))
    go_wp2_with fail
    go_ret
    exact ⟨false, rfl, iff_of_false (by simp) HR.out, _, rfl⟩

end Go.Proofs.Qxb6500745aGreatDoor
