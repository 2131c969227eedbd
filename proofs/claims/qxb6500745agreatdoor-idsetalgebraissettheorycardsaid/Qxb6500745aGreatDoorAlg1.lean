import Derived.Test.Qxb6500745aGreatDoorAlg0
import Derived.Laws.EntriesVeiled
namespace Go.Proofs.Qxb6500745aGreatDoor
open Go.RowKit Go.Maps

def fnV (k : Nat) : Value := .func (.func k) #[] #[]

structure AI (ea : Nat → Addr) (w : World) (p q m1 m2 mu mi md S n : Nat) (zs us : List Int) (v1 v2 : Value) (fp1 fp2 : List Nat) (W : World) : Prop where
  g : Glob ea W
  x : SetAt W p zs fp1
  y : SetAt W q us fp2
  a : MapAt W m1 n zs
  b : MapAt W m2 n us
  u : ∃ vs, MapAt W mu (n + n) vs ∧ ∀ x, x ∈ vs ↔ x ∈ zs ∨ x ∈ us
  i : ∃ vs, MapAt W mi n vs ∧ ∀ x, x ∈ vs ↔ x ∈ zs ∧ x ∈ us
  d : ∃ vs, MapAt W md n vs ∧ ∀ x, x ∈ vs ↔ x ∈ zs ∧ x ∉ us
  r1 : ∃ f, IRow W v1 zs f
  r2 : ∃ f, IRow W v2 us f
  f : Blk W S 80 #[fnV 38, fnV 39, .map (some mu), fnV 41, fnV 42, .map (some mi), fnV 44, fnV 45, .map (some md)]
  kp : Kp [] w W

theorem AI.quiet {ea : Nat → Addr} {w : World} {p q m1 m2 mu mi md S n : Nat} {zs us : List Int} {v1 v2 : Value} {fp1 fp2 : List Nat} {W W' : World} (h : AI ea w p q m1 m2 mu mi md S n zs us v1 v2 fp1 fp2 W) (k : Kp [] W W') : AI ea w p q m1 m2 mu mi md S n zs us v1 v2 fp1 fp2 W' where
  g := h.g.kp k (by simp)
  x := h.x.kp k (by simp)
  y := h.y.kp k (by simp)
  a := h.a.kp k (by simp)
  b := h.b.kp k (by simp)
  u := by obtain ⟨vs, h1, h2⟩ := h.u; exact ⟨vs, h1.kp k (by simp), h2⟩
  i := by obtain ⟨vs, h1, h2⟩ := h.i; exact ⟨vs, h1.kp k (by simp), h2⟩
  d := by obtain ⟨vs, h1, h2⟩ := h.d; exact ⟨vs, h1.kp k (by simp), h2⟩
  r1 := by obtain ⟨f, h1⟩ := h.r1; exact ⟨f, h1.kp k (by simp)⟩
  r2 := by obtain ⟨f, h1⟩ := h.r2; exact ⟨f, h1.kp k (by simp)⟩
  f := h.f.kp k (by simp)
  kp := h.kp.step k

theorem un_same {zs vs : List Int} {T : List Int} (hT : SetOk T) (hz : SetOk zs) (he : ∀ x, x ∈ vs ↔ x ∈ T) {r r2 : Bool} (h1 : r = true ↔ T ≠ zs) (h2 : r2 = true ↔ ∀ x, x ∈ zs ↔ x ∈ vs) : r = !r2 := by
  have h3 : (∀ x, x ∈ zs ↔ x ∈ vs) ↔ T = zs := ⟨fun h => asc_unique T zs hT.1 hz.1 (fun x => ((h x).trans (he x)).symm), fun h x => by rw [he x, h]⟩
  rw [h3] at h2
  cases r <;> cases r2 <;> simp_all

set_option maxRecDepth 100000 in
set_option maxHeartbeats 4000000 in
theorem algebra_any {ea : Nat → Addr} {w : World} {p q : Nat} {zs us ms : List Int} {fp1 fp2 fm : List Nat} {mv : Value} (G : Glob ea w) (h1 : SetAt w p zs fp1) (ok1 : SetOk zs) (h2 : SetAt w q us fp2) (ok2 : SetOk us) (hm : IRow w mv ms fm) (hml : ms.length ≤ 8388608) (hid : ∀ x ∈ ms, idIn x) (hi1 : ∀ x ∈ zs, x ∈ ms) (hi2 : ∀ x ∈ us, x ∈ ms) :
    Calls Tryz.prog 19 #[.pointer (some ⟨p, 0, none⟩), .pointer (some ⟨q, 0, none⟩), mv] w fun e w' => e = .returned (.bool true) ∧ Kp [] w w' := by
  obtain ⟨am, cm, rfl⟩ := hm.shape
  have hA := asSet_any G h1 ok1 hm hml hid hi1
  have hB := fun W (k : Kp [] w W) => asSet_any (G.kp k (by simp)) (h2.kp k (by simp)) ok2 (hm.kp k (by simp)) hml hid hi2
  have HH : Hid (Glob ea w ∧ SetAt w p zs fp1 ∧ SetOk zs ∧ SetAt w q us fp2 ∧ SetOk us) := ⟨G, h1, ok1, h2, ok2⟩
  clear G h1 ok1 h2 ok2 hm hid hi1 hi2
  generalize hn : ms.length = n at *
  clear hn
  go_enter Tryz.func19, Tryz.ntmps19
  go_wp2_with fail
  refine hA.mono ?_
  rintro e w1 ⟨m1, rfl, a1, _, k1⟩
  have hB' := hB w1 k1
  clear hA hB
  go_wp2_with fail
  refine hB'.mono ?_
  rintro e w2 ⟨m2, rfl, b2, _, k2⟩
  clear hB'
  have k02 := k1.step k2
  have hx := s_ids (HH.out.2.1.kp k02 (by simp)) HH.out.2.2.1
  go_wp2_with fail
  refine hx.mono ?_
  rintro e w3 ⟨v1, f1, rfl, r3, _, k3⟩
  clear hx
  have k03 := k02.step k3
  have hy := s_ids (HH.out.2.2.2.1.kp k03 (by simp)) HH.out.2.2.2.2
  obtain ⟨x1, c1, rfl⟩ := r3.shape
  go_wp2_with fail
  refine hy.mono ?_
  rintro e w4 ⟨v2, f2, rfl, r4, _, k4⟩
  clear hy
  obtain ⟨x2, c2, rfl⟩ := r4.shape
  have k04 := k03.step k4
  have a4 := a1.kp ((k2.step k3).step k4) (by simp)
  have b4 := b2.kp (k3.step k4) (by simp)
  have hu := union40 a4 b4 (by omega) (by omega) sortC_all
  go_wp2_with fail
  refine hu.mono ?_
  rintro e w5 ⟨mu, vu, rfl, u5, eu, _, k5⟩
  clear hu
  have hi := inter43 (a4.kp k5 (by simp)) (b4.kp k5 (by simp)) (by omega) sortC_all
  go_wp2_with fail
  refine hi.mono ?_
  rintro e w6 ⟨mi, vi, rfl, i6, ei, _, k6⟩
  clear hi
  have k46 := k5.step k6
  have hd := diff46 (a4.kp k46 (by simp)) (b4.kp k46 (by simp)) (by omega) sortC_all
  go_wp2_with fail
  refine hd.mono ?_
  rintro e w7 ⟨md, vd, rfl, d7, ed, _, k7⟩
  clear hd
  have k47 := k46.step k7
  obtain ⟨S, hS⟩ : ∃ S, S = w7.heap.size := ⟨_, rfl⟩
  have ai : AI ea w p q m1 m2 mu mi md S n zs us (.slice x1 zs.length c1) (.slice x2 us.length c2) fp1 fp2 (w7.alloc (.cells #[fnV 38, fnV 39, .map (some mu), fnV 41, fnV 42, .map (some mi), fnV 44, fnV 45, .map (some md)] 80)) := by
    have k8 := ((k47 : Kp [] w4 w7).alloc (.cells #[fnV 38, fnV 39, .map (some mu), fnV 41, fnV 42, .map (some mi), fnV 44, fnV 45, .map (some md)] 80))
    have k58 := ((k6.step k7).alloc (.cells #[fnV 38, fnV 39, .map (some mu), fnV 41, fnV 42, .map (some mi), fnV 44, fnV 45, .map (some md)] 80))
    have k68 := (k7.alloc (.cells #[fnV 38, fnV 39, .map (some mu), fnV 41, fnV 42, .map (some mi), fnV 44, fnV 45, .map (some md)] 80))
    have k78 := ((Kp.refl [] w7).alloc (.cells #[fnV 38, fnV 39, .map (some mu), fnV 41, fnV 42, .map (some mi), fnV 44, fnV 45, .map (some md)] 80))
    have k08 := k04.step k8
    exact ⟨HH.out.1.kp k08 (by simp), HH.out.2.1.kp k08 (by simp), HH.out.2.2.2.1.kp k08 (by simp), a4.kp k8 (by simp), b4.kp k8 (by simp), ⟨vu, u5.kp k58 (by simp), eu⟩, ⟨vi, i6.kp k68 (by simp), ei⟩, ⟨vd, d7.kp k78 (by simp), ed⟩, ⟨f1, r3.kp (k4.step k8) (by simp)⟩, ⟨f2, r4.kp k8 (by simp)⟩, by rw [hS]; exact Blk.new w7 80 _, k08⟩
  have HA : Hid (AI ea w p q m1 m2 mu mi md S n zs us (.slice x1 zs.length c1) (.slice x2 us.length c2) fp1 fp2 (w7.alloc (.cells #[fnV 38, fnV 39, .map (some mu), fnV 41, fnV 42, .map (some mi), fnV 44, fnV 45, .map (some md)] 80))) := ai
  clear ai a1 k1 b2 k2 k02 r3 k3 k03 r4 k4 k04 a4 b4 u5 eu k5 i6 ei k6 k46 d7 ed k7 k47
  simp only [fnV] at HA
  go_wp2_with fail
  rw [← hS]
  clear hS
  generalize w7.alloc (Obj.cells #[Value.func (Fn.func 38) #[] #[], Value.func (Fn.func 39) #[] #[], Value.map (some mu), Value.func (Fn.func 41) #[] #[], Value.func (Fn.func 42) #[] #[], Value.map (some mi), Value.func (Fn.func 44) #[] #[], Value.func (Fn.func 45) #[] #[], Value.map (some md)] 80) = W8 at *
  go_loopw [57] (fun s wr => ∃ i : Nat, s = .int .i64 i ∧ i ≤ 3 ∧ AI ea w p q m1 m2 mu mi md S n zs us (.slice x1 zs.length c1) (.slice x2 us.length c2) fp1 fp2 wr) (fun s _ => 3 - (intOf s).toNat)
  case atStart => exact ⟨0, rfl, Nat.zero_le _, HA.out⟩
  case round =>
    obtain ⟨i, rfl, hi, ai⟩ := hrel
    clear HA
    have okz := HH.out.2.2.1
    have oku := HH.out.2.2.2.2
    by_cases hi3 : i < 3
    · have hcase : i = 0 ∨ i = 1 ∨ i = 2 := by omega
      clear hi hi3
      rcases hcase with rfl | rfl | rfl
      · obtain ⟨vs, hvs, hve0⟩ := ai.u
        have okT : SetOk (un zs us) := un_ok okz oku
        have hve : ∀ x, x ∈ vs ↔ x ∈ (un zs us) := fun x => by rw [hve0]; rw [un_mem]
        obtain ⟨tw, htw⟩ : ∃ tw, tw = un zs us := ⟨_, rfl⟩
        have HT : Hid (tw = un zs us) := htw
        rw [← htw] at okT hve
        clear htw hve0
        have hlT := okT.len
        have e0 := ai.f.cell 0; have e1 := ai.f.cell 1; have e2 := ai.f.cell 2
        simp [fnV] at e0 e1 e2
        have ka : Kp [] wr (wr.alloc (.cells #[.func (.func 38) #[] #[], .func (.func 39) #[] #[], .map (some mu)] 80)) := (Kp.refl _ _).alloc _
        have hso := sorted_set (hvs.kp ka (by simp)) (by omega) hve okT.1
        obtain ⟨Tb, hTb⟩ : ∃ Tb, Tb = wr.heap.size := ⟨_, rfl⟩
        have bT : Blk (wr.alloc (.cells #[.func (.func 38) #[] #[], .func (.func 39) #[] #[], .map (some mu)] 80)) Tb 80 #[.func (.func 38) #[] #[], .func (.func 39) #[] #[], .map (some mu)] := by rw [hTb]; exact Blk.new wr 80 _
        have HAI : Hid (AI ea w p q m1 m2 mu mi md S n zs us (.slice x1 zs.length c1) (.slice x2 us.length c2) fp1 fp2 (wr.alloc (.cells #[.func (.func 38) #[] #[], .func (.func 39) #[] #[], .map (some mu)] 80))) := ai.quiet ka
        have HV : Hid (MapAt (wr.alloc (.cells #[.func (.func 38) #[] #[], .func (.func 39) #[] #[], .map (some mu)] 80)) mu (n + n) vs ∧ ∀ x, x ∈ vs ↔ x ∈ tw) := ⟨(hvs.mono (by omega)).kp ka (by simp), hve⟩
        have HOK : Hid (SetOk tw ∧ SetOk zs ∧ SetOk us) := ⟨okT, okz, oku⟩
        clear ai hvs hve okT okz oku ka
        go_wp2_with fail
        rw [← hTb]
        clear hTb e0 e1 e2
        generalize wr.alloc (Obj.cells #[Value.func (Fn.func 38) #[] #[], Value.func (Fn.func 39) #[] #[], Value.map (some mu)] 80) = W9 at *
        refine hso.mono ?_
        rintro e wa ⟨vt, ft, rfl, rt, _, ka⟩
        clear hso
        obtain ⟨ta, tc, rfl⟩ := rt.shape
        have bT := bT.kp ka (by simp)
        have aiA := HAI.out.quiet ka
        have hF := s_union (by have := aiA.g.size; omega) aiA.x HOK.out.2.1 aiA.y HOK.out.2.2
        rw [← HT.out] at hF
        have d0 := bT.cell 0
        simp at d0
        have HA1 : Hid (AI ea w p q m1 m2 mu mi md S n zs us (.slice x1 zs.length c1) (.slice x2 us.length c2) fp1 fp2 wa) := aiA
        clear aiA
        go_wp2_with fail
        refine hF.mono ?_
        rintro e wb ⟨b', rfl, fpn, sn, hfn, kb⟩
        clear hF d0
        have hids := s_ids sn HOK.out.1
        go_wp2_with fail
        refine hids.mono ?_
        rintro e wc ⟨vi', fi', rfl, ri, _, kc⟩
        clear hids
        obtain ⟨ia, ic, rfl⟩ := ri.shape
        have rt2 := rt.kp (kb.step kc) (by simp)
        have heq := equal_row ri rt2 rfl rfl (by omega) (by omega)
        rw [show (tw == tw) = true by simp] at heq
        go_wp2_with fail
        refine heq.mono ?_
        rintro e wd ⟨rfl, q1, hq1⟩
        have kd : Kp [] wc wd := by rw [hq1]; exact Kp.dN _ _
        clear heq hq1
        have hck := s_check (sn.kp (kc.step kd) (by simp)) HOK.out.1
        go_wp2_with fail
        refine hck.mono ?_
        rintro e we ⟨rfl, q2, hq2⟩
        have ke : Kp [] wd we := by rw [hq2]; exact Kp.dN _ _
        clear hck hq2
        have kae : Kp [] wa we := ((kb.step kc).step kd).step ke
        have aiE := HA1.out.quiet kae
        have hcl := s_clone (by have := aiE.g.size; omega) aiE.x HOK.out.2.1
        have HA2 : Hid (AI ea w p q m1 m2 mu mi md S n zs us (.slice x1 zs.length c1) (.slice x2 us.length c2) fp1 fp2 we ∧ Kp [] W9 we ∧ Blk we Tb 80 #[.func (.func 38) #[] #[], .func (.func 39) #[] #[], .map (some mu)] ∧ IRow we (.slice ta tw.length tc) tw ft) := ⟨aiE, ka.step kae, bT.kp kae (by simp), rt.kp kae (by simp)⟩
        clear aiE kae ke kd kc kb ka bT rt rt2 ri sn hfn HA1 HAI
        go_wp2_with fail
        refine hcl.mono ?_
        rintro e wf ⟨bw, rfl, fpw, sw, hfw, kf⟩
        clear hcl
        have aiF := HA2.out.1.quiet kf
        have hG := s_unionWith sw HOK.out.2.1 aiF.y HOK.out.2.2 (.inr (fun x hx hw => by have a1 := hfw x hw; have a2 := HA2.out.1.y.lt x hx; omega))
        have d1 := (HA2.out.2.2.1.kp kf (by simp)).cell 1
        simp at d1
        clear aiF
        go_wp2_with fail
        refine hG.mono ?_
        rintro e wg ⟨r, rfl, hr, fpg, sg, _, hfg, kg⟩
        rw [← HT.out] at sg hr
        clear hG d1
        have keg : Kp [] we wg := kf.trans kg (by simp) (fun x hx hl => by have := hfw x hx; omega)
        have hids := s_ids sg HOK.out.1
        clear sw hfw kf kg hfg
        go_wp2_with fail
        refine hids.mono ?_
        rintro e wh ⟨vh, fh, rfl, rh, _, kh⟩
        clear hids
        obtain ⟨ha, hc, rfl⟩ := rh.shape
        have heq := equal_row rh (HA2.out.2.2.2.kp (keg.step kh) (by simp)) rfl rfl (by omega) (by omega)
        rw [show (tw == tw) = true by simp] at heq
        go_wp2_with fail
        refine heq.mono ?_
        rintro e wi ⟨rfl, q1, hq1⟩
        have ki : Kp [] wh wi := by rw [hq1]; exact Kp.dN _ _
        clear heq hq1
        have hck := s_check (sg.kp (kh.step ki) (by simp)) HOK.out.1
        go_wp2_with fail
        refine hck.mono ?_
        rintro e wj ⟨rfl, q2, hq2⟩
        have kj : Kp [] wi wj := by rw [hq2]; exact Kp.dN _ _
        clear hck hq2
        have kej : Kp [] we wj := ((keg.step kh).step ki).step kj
        have aiJ := HA2.out.1.quiet kej
        have heq2 := equal49 aiJ.a (HV.out.1.kp (HA2.out.2.1.step kej) (by simp)) (by omega) (by omega) sortC_all
        have d2 := (HA2.out.2.2.1.kp kej (by simp)).cell 2
        simp at d2
        have HA3 : Hid (AI ea w p q m1 m2 mu mi md S n zs us (.slice x1 zs.length c1) (.slice x2 us.length c2) fp1 fp2 wj) := aiJ
        have HR : Hid (r = true ↔ tw ≠ zs) := hr
        clear aiJ kej kj ki kh keg rh sg HA2 hr
        go_wp2_with fail
        refine heq2.mono ?_
        rintro e wk ⟨r2, rfl, hr2, kk⟩
        have hrr := un_same HOK.out.1 HOK.out.2.1 HV.out.2 HR.out hr2
        have HA4 : Hid (AI ea w p q m1 m2 mu mi md S n zs us (.slice x1 zs.length c1) (.slice x2 us.length c2) fp1 fp2 wk) := HA3.out.quiet kk
        clear heq2 d2 hr2 kk HA3 HR HV
        rw [hrr]
        clear hrr
        cases r2
        · go_wp2_with fail
          go_roundw
          case rel => exact ⟨1, by go_num, by omega, HA4.out⟩
          case measure => simp [intOf]
        · go_wp2_with fail
          go_roundw
          case rel => exact ⟨1, by go_num, by omega, HA4.out⟩
          case measure => simp [intOf]
      · obtain ⟨vs, hvs, hve0⟩ := ai.i
        have okT : SetOk (zs.filter (fun x => us.contains x == true)) := filter_ok okz _
        have hve : ∀ x, x ∈ vs ↔ x ∈ (zs.filter (fun x => us.contains x == true)) := fun x => by rw [hve0]; simp
        obtain ⟨tw, htw⟩ : ∃ tw, tw = zs.filter (fun x => us.contains x == true) := ⟨_, rfl⟩
        have HT : Hid (tw = zs.filter (fun x => us.contains x == true)) := htw
        rw [← htw] at okT hve
        clear htw hve0
        have hlT := okT.len
        have e0 := ai.f.cell 3; have e1 := ai.f.cell 4; have e2 := ai.f.cell 5
        simp [fnV] at e0 e1 e2
        have ka : Kp [] wr (wr.alloc (.cells #[.func (.func 41) #[] #[], .func (.func 42) #[] #[], .map (some mi)] 80)) := (Kp.refl _ _).alloc _
        have hso := sorted_set (hvs.kp ka (by simp)) (by omega) hve okT.1
        obtain ⟨Tb, hTb⟩ : ∃ Tb, Tb = wr.heap.size := ⟨_, rfl⟩
        have bT : Blk (wr.alloc (.cells #[.func (.func 41) #[] #[], .func (.func 42) #[] #[], .map (some mi)] 80)) Tb 80 #[.func (.func 41) #[] #[], .func (.func 42) #[] #[], .map (some mi)] := by rw [hTb]; exact Blk.new wr 80 _
        have HAI : Hid (AI ea w p q m1 m2 mu mi md S n zs us (.slice x1 zs.length c1) (.slice x2 us.length c2) fp1 fp2 (wr.alloc (.cells #[.func (.func 41) #[] #[], .func (.func 42) #[] #[], .map (some mi)] 80))) := ai.quiet ka
        have HV : Hid (MapAt (wr.alloc (.cells #[.func (.func 41) #[] #[], .func (.func 42) #[] #[], .map (some mi)] 80)) mi (n + n) vs ∧ ∀ x, x ∈ vs ↔ x ∈ tw) := ⟨(hvs.mono (by omega)).kp ka (by simp), hve⟩
        have HOK : Hid (SetOk tw ∧ SetOk zs ∧ SetOk us) := ⟨okT, okz, oku⟩
        clear ai hvs hve okT okz oku ka
        go_wp2_with fail
        rw [← hTb]
        clear hTb e0 e1 e2
        generalize wr.alloc (Obj.cells #[Value.func (Fn.func 41) #[] #[], Value.func (Fn.func 42) #[] #[], Value.map (some mi)] 80) = W9 at *
        refine hso.mono ?_
        rintro e wa ⟨vt, ft, rfl, rt, _, ka⟩
        clear hso
        obtain ⟨ta, tc, rfl⟩ := rt.shape
        have bT := bT.kp ka (by simp)
        have aiA := HAI.out.quiet ka
        have hF := s_intersect (by have := aiA.g.size; omega) aiA.x HOK.out.2.1 aiA.y HOK.out.2.2
        rw [← HT.out] at hF
        have d0 := bT.cell 0
        simp at d0
        have HA1 : Hid (AI ea w p q m1 m2 mu mi md S n zs us (.slice x1 zs.length c1) (.slice x2 us.length c2) fp1 fp2 wa) := aiA
        clear aiA
        go_wp2_with fail
        refine hF.mono ?_
        rintro e wb ⟨b', rfl, fpn, sn, hfn, kb⟩
        clear hF d0
        have hids := s_ids sn HOK.out.1
        go_wp2_with fail
        refine hids.mono ?_
        rintro e wc ⟨vi', fi', rfl, ri, _, kc⟩
        clear hids
        obtain ⟨ia, ic, rfl⟩ := ri.shape
        have rt2 := rt.kp (kb.step kc) (by simp)
        have heq := equal_row ri rt2 rfl rfl (by omega) (by omega)
        rw [show (tw == tw) = true by simp] at heq
        go_wp2_with fail
        refine heq.mono ?_
        rintro e wd ⟨rfl, q1, hq1⟩
        have kd : Kp [] wc wd := by rw [hq1]; exact Kp.dN _ _
        clear heq hq1
        have hck := s_check (sn.kp (kc.step kd) (by simp)) HOK.out.1
        go_wp2_with fail
        refine hck.mono ?_
        rintro e we ⟨rfl, q2, hq2⟩
        have ke : Kp [] wd we := by rw [hq2]; exact Kp.dN _ _
        clear hck hq2
        have kae : Kp [] wa we := ((kb.step kc).step kd).step ke
        have aiE := HA1.out.quiet kae
        have hcl := s_clone (by have := aiE.g.size; omega) aiE.x HOK.out.2.1
        have HA2 : Hid (AI ea w p q m1 m2 mu mi md S n zs us (.slice x1 zs.length c1) (.slice x2 us.length c2) fp1 fp2 we ∧ Kp [] W9 we ∧ Blk we Tb 80 #[.func (.func 41) #[] #[], .func (.func 42) #[] #[], .map (some mi)] ∧ IRow we (.slice ta tw.length tc) tw ft) := ⟨aiE, ka.step kae, bT.kp kae (by simp), rt.kp kae (by simp)⟩
        clear aiE kae ke kd kc kb ka bT rt rt2 ri sn hfn HA1 HAI
        go_wp2_with fail
        refine hcl.mono ?_
        rintro e wf ⟨bw, rfl, fpw, sw, hfw, kf⟩
        clear hcl
        have aiF := HA2.out.1.quiet kf
        have hG := s_intersectWith sw HOK.out.2.1 aiF.y HOK.out.2.2 (.inr (fun x hx hw => by have a1 := hfw x hw; have a2 := HA2.out.1.y.lt x hx; omega))
        have d1 := (HA2.out.2.2.1.kp kf (by simp)).cell 1
        simp at d1
        clear aiF
        go_wp2_with fail
        refine hG.mono ?_
        rintro e wg ⟨r, rfl, hr, fpg, sg, _, hfg, kg⟩
        rw [← HT.out] at sg hr
        clear hG d1
        have keg : Kp [] we wg := kf.trans kg (by simp) (fun x hx hl => by have := hfw x hx; omega)
        have hids := s_ids sg HOK.out.1
        clear sw hfw kf kg hfg
        go_wp2_with fail
        refine hids.mono ?_
        rintro e wh ⟨vh, fh, rfl, rh, _, kh⟩
        clear hids
        obtain ⟨ha, hc, rfl⟩ := rh.shape
        have heq := equal_row rh (HA2.out.2.2.2.kp (keg.step kh) (by simp)) rfl rfl (by omega) (by omega)
        rw [show (tw == tw) = true by simp] at heq
        go_wp2_with fail
        refine heq.mono ?_
        rintro e wi ⟨rfl, q1, hq1⟩
        have ki : Kp [] wh wi := by rw [hq1]; exact Kp.dN _ _
        clear heq hq1
        have hck := s_check (sg.kp (kh.step ki) (by simp)) HOK.out.1
        go_wp2_with fail
        refine hck.mono ?_
        rintro e wj ⟨rfl, q2, hq2⟩
        have kj : Kp [] wi wj := by rw [hq2]; exact Kp.dN _ _
        clear hck hq2
        have kej : Kp [] we wj := ((keg.step kh).step ki).step kj
        have aiJ := HA2.out.1.quiet kej
        have heq2 := equal49 aiJ.a (HV.out.1.kp (HA2.out.2.1.step kej) (by simp)) (by omega) (by omega) sortC_all
        have d2 := (HA2.out.2.2.1.kp kej (by simp)).cell 2
        simp at d2
        have HA3 : Hid (AI ea w p q m1 m2 mu mi md S n zs us (.slice x1 zs.length c1) (.slice x2 us.length c2) fp1 fp2 wj) := aiJ
        have HR : Hid (r = true ↔ tw ≠ zs) := hr
        clear aiJ kej kj ki kh keg rh sg HA2 hr
        go_wp2_with fail
        refine heq2.mono ?_
        rintro e wk ⟨r2, rfl, hr2, kk⟩
        have hrr := un_same HOK.out.1 HOK.out.2.1 HV.out.2 HR.out hr2
        have HA4 : Hid (AI ea w p q m1 m2 mu mi md S n zs us (.slice x1 zs.length c1) (.slice x2 us.length c2) fp1 fp2 wk) := HA3.out.quiet kk
        clear heq2 d2 hr2 kk HA3 HR HV
        rw [hrr]
        clear hrr
        cases r2
        · go_wp2_with fail
          go_roundw
          case rel => exact ⟨2, by go_num, by omega, HA4.out⟩
          case measure => simp [intOf]
        · go_wp2_with fail
          go_roundw
          case rel => exact ⟨2, by go_num, by omega, HA4.out⟩
          case measure => simp [intOf]
      · obtain ⟨vs, hvs, hve0⟩ := ai.d
        have okT : SetOk (zs.filter (fun x => us.contains x == false)) := filter_ok okz _
        have hve : ∀ x, x ∈ vs ↔ x ∈ (zs.filter (fun x => us.contains x == false)) := fun x => by rw [hve0]; simp
        obtain ⟨tw, htw⟩ : ∃ tw, tw = zs.filter (fun x => us.contains x == false) := ⟨_, rfl⟩
        have HT : Hid (tw = zs.filter (fun x => us.contains x == false)) := htw
        rw [← htw] at okT hve
        clear htw hve0
        have hlT := okT.len
        have e0 := ai.f.cell 6; have e1 := ai.f.cell 7; have e2 := ai.f.cell 8
        simp [fnV] at e0 e1 e2
        have ka : Kp [] wr (wr.alloc (.cells #[.func (.func 44) #[] #[], .func (.func 45) #[] #[], .map (some md)] 80)) := (Kp.refl _ _).alloc _
        have hso := sorted_set (hvs.kp ka (by simp)) (by omega) hve okT.1
        obtain ⟨Tb, hTb⟩ : ∃ Tb, Tb = wr.heap.size := ⟨_, rfl⟩
        have bT : Blk (wr.alloc (.cells #[.func (.func 44) #[] #[], .func (.func 45) #[] #[], .map (some md)] 80)) Tb 80 #[.func (.func 44) #[] #[], .func (.func 45) #[] #[], .map (some md)] := by rw [hTb]; exact Blk.new wr 80 _
        have HAI : Hid (AI ea w p q m1 m2 mu mi md S n zs us (.slice x1 zs.length c1) (.slice x2 us.length c2) fp1 fp2 (wr.alloc (.cells #[.func (.func 44) #[] #[], .func (.func 45) #[] #[], .map (some md)] 80))) := ai.quiet ka
        have HV : Hid (MapAt (wr.alloc (.cells #[.func (.func 44) #[] #[], .func (.func 45) #[] #[], .map (some md)] 80)) md (n + n) vs ∧ ∀ x, x ∈ vs ↔ x ∈ tw) := ⟨(hvs.mono (by omega)).kp ka (by simp), hve⟩
        have HOK : Hid (SetOk tw ∧ SetOk zs ∧ SetOk us) := ⟨okT, okz, oku⟩
        clear ai hvs hve okT okz oku ka
        go_wp2_with fail
        rw [← hTb]
        clear hTb e0 e1 e2
        generalize wr.alloc (Obj.cells #[Value.func (Fn.func 44) #[] #[], Value.func (Fn.func 45) #[] #[], Value.map (some md)] 80) = W9 at *
        refine hso.mono ?_
        rintro e wa ⟨vt, ft, rfl, rt, _, ka⟩
        clear hso
        obtain ⟨ta, tc, rfl⟩ := rt.shape
        have bT := bT.kp ka (by simp)
        have aiA := HAI.out.quiet ka
        have hF := s_diff (by have := aiA.g.size; omega) aiA.x HOK.out.2.1 aiA.y HOK.out.2.2
        rw [← HT.out] at hF
        have d0 := bT.cell 0
        simp at d0
        have HA1 : Hid (AI ea w p q m1 m2 mu mi md S n zs us (.slice x1 zs.length c1) (.slice x2 us.length c2) fp1 fp2 wa) := aiA
        clear aiA
        go_wp2_with fail
        refine hF.mono ?_
        rintro e wb ⟨b', rfl, fpn, sn, hfn, kb⟩
        clear hF d0
        have hids := s_ids sn HOK.out.1
        go_wp2_with fail
        refine hids.mono ?_
        rintro e wc ⟨vi', fi', rfl, ri, _, kc⟩
        clear hids
        obtain ⟨ia, ic, rfl⟩ := ri.shape
        have rt2 := rt.kp (kb.step kc) (by simp)
        have heq := equal_row ri rt2 rfl rfl (by omega) (by omega)
        rw [show (tw == tw) = true by simp] at heq
        go_wp2_with fail
        refine heq.mono ?_
        rintro e wd ⟨rfl, q1, hq1⟩
        have kd : Kp [] wc wd := by rw [hq1]; exact Kp.dN _ _
        clear heq hq1
        have hck := s_check (sn.kp (kc.step kd) (by simp)) HOK.out.1
        go_wp2_with fail
        refine hck.mono ?_
        rintro e we ⟨rfl, q2, hq2⟩
        have ke : Kp [] wd we := by rw [hq2]; exact Kp.dN _ _
        clear hck hq2
        have kae : Kp [] wa we := ((kb.step kc).step kd).step ke
        have aiE := HA1.out.quiet kae
        have hcl := s_clone (by have := aiE.g.size; omega) aiE.x HOK.out.2.1
        have HA2 : Hid (AI ea w p q m1 m2 mu mi md S n zs us (.slice x1 zs.length c1) (.slice x2 us.length c2) fp1 fp2 we ∧ Kp [] W9 we ∧ Blk we Tb 80 #[.func (.func 44) #[] #[], .func (.func 45) #[] #[], .map (some md)] ∧ IRow we (.slice ta tw.length tc) tw ft) := ⟨aiE, ka.step kae, bT.kp kae (by simp), rt.kp kae (by simp)⟩
        clear aiE kae ke kd kc kb ka bT rt rt2 ri sn hfn HA1 HAI
        go_wp2_with fail
        refine hcl.mono ?_
        rintro e wf ⟨bw, rfl, fpw, sw, hfw, kf⟩
        clear hcl
        have aiF := HA2.out.1.quiet kf
        have hG := s_diffWith sw HOK.out.2.1 aiF.y HOK.out.2.2 (.inr (fun x hx hw => by have a1 := hfw x hw; have a2 := HA2.out.1.y.lt x hx; omega))
        have d1 := (HA2.out.2.2.1.kp kf (by simp)).cell 1
        simp at d1
        clear aiF
        go_wp2_with fail
        refine hG.mono ?_
        rintro e wg ⟨r, rfl, hr, fpg, sg, _, hfg, kg⟩
        rw [← HT.out] at sg hr
        clear hG d1
        have keg : Kp [] we wg := kf.trans kg (by simp) (fun x hx hl => by have := hfw x hx; omega)
        have hids := s_ids sg HOK.out.1
        clear sw hfw kf kg hfg
        go_wp2_with fail
        refine hids.mono ?_
        rintro e wh ⟨vh, fh, rfl, rh, _, kh⟩
        clear hids
        obtain ⟨ha, hc, rfl⟩ := rh.shape
        have heq := equal_row rh (HA2.out.2.2.2.kp (keg.step kh) (by simp)) rfl rfl (by omega) (by omega)
        rw [show (tw == tw) = true by simp] at heq
        go_wp2_with fail
        refine heq.mono ?_
        rintro e wi ⟨rfl, q1, hq1⟩
        have ki : Kp [] wh wi := by rw [hq1]; exact Kp.dN _ _
        clear heq hq1
        have hck := s_check (sg.kp (kh.step ki) (by simp)) HOK.out.1
        go_wp2_with fail
        refine hck.mono ?_
        rintro e wj ⟨rfl, q2, hq2⟩
        have kj : Kp [] wi wj := by rw [hq2]; exact Kp.dN _ _
        clear hck hq2
        have kej : Kp [] we wj := ((keg.step kh).step ki).step kj
        have aiJ := HA2.out.1.quiet kej
        have heq2 := equal49 aiJ.a (HV.out.1.kp (HA2.out.2.1.step kej) (by simp)) (by omega) (by omega) sortC_all
        have d2 := (HA2.out.2.2.1.kp kej (by simp)).cell 2
        simp at d2
        have HA3 : Hid (AI ea w p q m1 m2 mu mi md S n zs us (.slice x1 zs.length c1) (.slice x2 us.length c2) fp1 fp2 wj) := aiJ
        have HR : Hid (r = true ↔ tw ≠ zs) := hr
        clear aiJ kej kj ki kh keg rh sg HA2 hr
        go_wp2_with fail
        refine heq2.mono ?_
        rintro e wk ⟨r2, rfl, hr2, kk⟩
        have hrr := un_same HOK.out.1 HOK.out.2.1 HV.out.2 HR.out hr2
        have HA4 : Hid (AI ea w p q m1 m2 mu mi md S n zs us (.slice x1 zs.length c1) (.slice x2 us.length c2) fp1 fp2 wk) := HA3.out.quiet kk
        clear heq2 d2 hr2 kk HA3 HR HV
        rw [hrr]
        clear hrr
        cases r2
        · go_wp2_with fail
          go_roundw
          case rel => exact ⟨3, by go_num, by omega, HA4.out⟩
          case measure => simp [intOf]
        · go_wp2_with fail
          go_roundw
          case rel => exact ⟨3, by go_num, by omega, HA4.out⟩
          case measure => simp [intOf]
    · have e : i = 3 := by omega
      have HAI : Hid (AI ea w p q m1 m2 mu mi md S n zs us (.slice x1 zs.length c1) (.slice x2 us.length c2) fp1 fp2 wr) := ai
      have hsub := s_subset ai.x okz ai.y oku
      clear e ai
      go_wp2_with fail
      refine hsub.mono ?_
      rintro e wa ⟨r, rfl, hr, q1, hq1⟩
      have ka : Kp [] wr wa := by rw [hq1]; exact Kp.dN _ _
      clear hsub hq1
      have aiA := HAI.out.quiet ka
      have hsub2 := subset51 aiA.a aiA.b (by omega) sortC_all
      go_wp2_with fail
      refine hsub2.mono ?_
      rintro e wb ⟨r2, rfl, hr2, kb⟩
      have hrr : r = r2 := by rw [Bool.eq_iff_iff, hr, hr2]
      subst hrr
      have HB : Hid (AI ea w p q m1 m2 mu mi md S n zs us (.slice x1 zs.length c1) (.slice x2 us.length c2) fp1 fp2 wb) := aiA.quiet kb
      have hdis := s_disjoint HB.out.x okz HB.out.y oku
      clear hsub2 hr hr2 kb aiA ka HAI
      have hbb : (r != r) = false := by simp
      go_wp2_with fail
      refine hdis.mono ?_
      rintro e wc ⟨rd, rfl, hrd, q2, hq2⟩
      have kc : Kp [] wb wc := by rw [hq2]; exact Kp.dN _ _
      clear hdis hq2 hbb
      have aiC := HB.out.quiet kc
      have hint := inter43 aiC.a aiC.b (by omega) sortC_all
      go_wp2_with fail
      refine hint.mono ?_
      rintro e wd ⟨mi2, vi2, rfl, hmi, hmem, _, kd⟩
      clear hint
      have hsz := size_set hmi (by omega) (zs := zs.filter (fun x => us.contains x)) (fun x => by rw [hmem]; simp) (filter_ok okz _).1
      have HC : Hid (AI ea w p q m1 m2 mu mi md S n zs us (.slice x1 zs.length c1) (.slice x2 us.length c2) fp1 fp2 wd) := aiC.quiet kd
      clear aiC kd kc HB hmi hmem
      go_wp2_with fail
      refine hsz.mono ?_
      rintro e we ⟨rfl, ke⟩
      clear hsz
      have hrd2 : rd = decide (((zs.filter (fun x => us.contains x)).length : Int) = 0) := by
        rw [Bool.eq_iff_iff, hrd]
        simp
      have HE : Hid (AI ea w p q m1 m2 mu mi md S n zs us (.slice x1 zs.length c1) (.slice x2 us.length c2) fp1 fp2 we) := HC.out.quiet ke
      clear HC ke hrd
      generalize (((zs.filter (fun x => us.contains x)).length : Nat) : Int) = lf at *
      by_cases hlf : lf = 0
      · rw [show decide (lf = 0) = true by simpa using hlf] at hrd2
        subst hrd2 hlf
        have hids := s_ids HE.out.x okz
        go_wp2_with fail
        refine hids.mono ?_
        rintro e wf ⟨vf, ff, rfl, rf, _, kf⟩
        clear hids
        obtain ⟨af, cf, rfl⟩ := rf.shape
        obtain ⟨f1', rr1⟩ := HE.out.r1
        have hl1 := okz.len
        have hl2 := oku.len
        have heq := equal_row rf (rr1.kp kf (by simp)) rfl rfl (by omega) (by omega)
        rw [show (zs == zs) = true by simp] at heq
        go_wp2_with fail
        refine heq.mono ?_
        rintro e wg ⟨rfl, q3, hq3⟩
        have kg : Kp [] wf wg := by rw [hq3]; exact Kp.dN _ _
        clear heq hq3
        have HG : Hid (AI ea w p q m1 m2 mu mi md S n zs us (.slice x1 zs.length c1) (.slice x2 us.length c2) fp1 fp2 wg) := HE.out.quiet (kf.step kg)
        clear HE kf kg rr1 rf
        have hids := s_ids HG.out.y oku
        go_wp2_with fail
        refine hids.mono ?_
        rintro e wh ⟨vh, fh, rfl, rh, _, kh⟩
        clear hids
        obtain ⟨ah, ch, rfl⟩ := rh.shape
        obtain ⟨f2', rr2⟩ := HG.out.r2
        have heq := equal_row rh (rr2.kp kh (by simp)) rfl rfl (by omega) (by omega)
        rw [show (us == us) = true by simp] at heq
        have HK : Hid (Kp [] w wh) := HG.out.kp.step kh
        clear kh rr2 rh HG
        go_wp2_with fail
        refine heq.mono ?_
        rintro e wi ⟨rfl, q4, hq4⟩
        rw [hq4]; clear hq4 heq
        go_wp2_with fail
        go_ret
        exact ⟨rfl, HK.out.drewN q4⟩
      · rw [show decide (lf = 0) = false by simpa using hlf] at hrd2
        subst hrd2
        have hids := s_ids HE.out.x okz
        go_wp2_with fail
        refine hids.mono ?_
        rintro e wf ⟨vf, ff, rfl, rf, _, kf⟩
        clear hids
        obtain ⟨af, cf, rfl⟩ := rf.shape
        obtain ⟨f1', rr1⟩ := HE.out.r1
        have hl1 := okz.len
        have hl2 := oku.len
        have heq := equal_row rf (rr1.kp kf (by simp)) rfl rfl (by omega) (by omega)
        rw [show (zs == zs) = true by simp] at heq
        go_wp2_with fail
        refine heq.mono ?_
        rintro e wg ⟨rfl, q3, hq3⟩
        have kg : Kp [] wf wg := by rw [hq3]; exact Kp.dN _ _
        clear heq hq3
        have HG : Hid (AI ea w p q m1 m2 mu mi md S n zs us (.slice x1 zs.length c1) (.slice x2 us.length c2) fp1 fp2 wg) := HE.out.quiet (kf.step kg)
        clear HE kf kg rr1 rf
        have hids := s_ids HG.out.y oku
        go_wp2_with fail
        refine hids.mono ?_
        rintro e wh ⟨vh, fh, rfl, rh, _, kh⟩
        clear hids
        obtain ⟨ah, ch, rfl⟩ := rh.shape
        obtain ⟨f2', rr2⟩ := HG.out.r2
        have heq := equal_row rh (rr2.kp kh (by simp)) rfl rfl (by omega) (by omega)
        rw [show (us == us) = true by simp] at heq
        have HK : Hid (Kp [] w wh) := HG.out.kp.step kh
        clear kh rr2 rh HG
        go_wp2_with fail
        refine heq.mono ?_
        rintro e wi ⟨rfl, q4, hq4⟩
        rw [hq4]; clear hq4 heq
        go_wp2_with fail
        go_ret
        exact ⟨rfl, HK.out.drewN q4⟩

end Go.Proofs.Qxb6500745aGreatDoor
