/- Discord: open and fewest. -/
import Derived.Test.YtgmhelclofnpkaaZB
namespace Go.Proofs.Ytgmhelclofnpkaa
open Go.RowKit Go.Maps

/-- What an opened dispute gives. -/
def OpenR (d : Ds) (A B C : Option Addr) (cA cB cC : Nat) (w w' : World) (v : Value) (er : Int) : Prop :=
  (er = 3 ∧ v = .pointer none ∧ ∀ f sk, Dp.Box d [] f → Pl.ok f = true → Dp.guess d (Dp.ar d f) → Dp.inSk d sk → False) ∨
  (er = 0 ∧ ∃ Bf bs nb G, v = .pointer (some ⟨Bf, 0, none⟩) ∧ Own w' Bf (flC A B C cA cB cC d bs) ∧ MapV stT w' bs nb G ∧ nb < 100000000000 ∧ Dp.Told d w' G ∧ w.heap.size ≤ Bf ∧ w.heap.size ≤ bs ∧ ∃ s, stT.wf s ∧ (G s).isSome = true)
set_option maxRecDepth 100000 in
set_option maxHeartbeats 16000000 in
theorem dopenW (d : Ds) (A B C : Option Addr) (cA cB cC : Nat) (w : World) (hd : Hid (Dp.Ok d)) (hA : Rd 2 w A (d.P.map ptrow)) (hB : RdI w B d.O) (hC : Rd 5 w C (d.l.map wkrow)) :
    Calls Try.prog 70 #[dsV A B C cA cB cC d, .bool true] w fun e w' => ∃ (v : Value) (er : Int), e = .returned (.tuple #[v, .int .i64 er]) ∧ Hid (OpenR d A B C cA cB cC w w' v er) ∧ Below w.heap.size w w' := by
  have hmm := @run_makeMap Try.prog
  have HA := Lib.hid hA
  have HB := Lib.hid hB
  have HC := Lib.hid hC
  clear hA hB hC
  have o0 : Own (w.alloc (.cells #[.slice A d.P.length cA, .slice B d.O.length cB, .int .i64 d.u, .int .i64 d.h.full, .int .i64 d.h.read, .int .i64 d.h.slip, .int .i64 d.h.skew, .int .i64 d.h.circ, .int .i64 d.h.lo, .int .i64 d.h.hi, .int .i64 d.h.wrong, .slice C d.l.length cC] 56)) w.heap.size (dsC A B C cA cB cC d) := Own.new' _ _ rfl rfl
  have oB : Below w.heap.size w (w.alloc (.cells #[.slice A d.P.length cA, .slice B d.O.length cB, .int .i64 d.u, .int .i64 d.h.full, .int .i64 d.h.read, .int .i64 d.h.slip, .int .i64 d.h.skew, .int .i64 d.h.circ, .int .i64 d.h.lo, .int .i64 d.h.hi, .int .i64 d.h.wrong, .slice C d.l.length cC] 56)) := by (repeat' (first | (with_reducible exact Below.refl _ _) | (with_reducible assumption) | (with_reducible refine Below.drew ?_) | (with_reducible refine below_drewN ?_ _) | (with_reducible refine Below.setCell ?_ ?_ _) | (with_reducible refine Below.alloc ?_ ?_ _) | (refine Below.trans ?_ (Below.mono (by with_reducible assumption) ?_)) | omega | (exact Below.size (by with_reducible assumption)) | (simp; done) | (simp; omega)))
  have O0 := Lib.hid o0
  obtain ⟨l0, c0, f0⟩ := o0
  go_enter Try.func70, Try.ntmps70
  go_wp2_with fail
  refine (dCheckW d A B C cA cB cC _ hd (HA.out.below oB (Nat.le_refl _)) (show RdI _ B d.O from HB.out.below oB (Nat.le_refl _)) (HC.out.below oB (Nat.le_refl _))).mono ?_
  rintro e w1 ⟨rfl, hb1⟩
  have o1 := O0.out.below hb1 O0.out.lt
  have hB1 := oB.trans (hb1.mono oB.size)
  clear O0 l0 c0 f0 hb1 oB
  have O1 := Lib.hid o1
  obtain ⟨l0, c0, f0⟩ := o1
  obtain ⟨W3, hW3⟩ : ∃ W3, W3 = ((w1.alloc (Obj.map #[] 0)).alloc (Obj.cells #[.slice A d.P.length cA, .slice B d.O.length cB, .int .i64 d.u, .int .i64 d.h.full, .int .i64 d.h.read, .int .i64 d.h.slip, .int .i64 d.h.skew, .int .i64 d.h.circ, .int .i64 d.h.lo, .int .i64 d.h.hi, .int .i64 d.h.wrong, .slice C d.l.length cC, .map (some w1.heap.size)] 160)).alloc (Obj.map #[] 0) := ⟨_, rfl⟩
  have b3 : Below w1.heap.size w1 W3 := by rw [hW3]; (repeat' (first | (with_reducible exact Below.refl _ _) | (with_reducible assumption) | (with_reducible refine Below.drew ?_) | (with_reducible refine below_drewN ?_ _) | (with_reducible refine Below.setCell ?_ ?_ _) | (with_reducible refine Below.alloc ?_ ?_ _) | (refine Below.trans ?_ (Below.mono (by with_reducible assumption) ?_)) | omega | (exact Below.size (by with_reducible assumption)) | (simp; done) | (simp; omega)))
  have hz3 : W3.heap.size = w1.heap.size + 3 := by rw [hW3]; simp
  have hz1 := hB1.size
  have f3 : Own W3 (w1.heap.size + 1) (flC A B C cA cB cC d w1.heap.size) := by rw [hW3]; exact (Own.new' _ _ (by simp) rfl).alloc _
  have m3 : MapV kdT W3 (w1.heap.size + 1 + 1) 0 (fun _ => none) := by
    rw [hW3]
    have := MapV.made kdT ((w1.alloc (Obj.map #[] 0)).alloc (Obj.cells #[.slice A d.P.length cA, .slice B d.O.length cB, .int .i64 d.u, .int .i64 d.h.full, .int .i64 d.h.read, .int .i64 d.h.slip, .int .i64 d.h.skew, .int .i64 d.h.circ, .int .i64 d.h.lo, .int .i64 d.h.hi, .int .i64 d.h.wrong, .slice C d.l.length cC, .map (some w1.heap.size)] 160))
    simpa using this
  have s3 : MapV stT W3 w1.heap.size 0 (fun _ => none) := by
    rw [hW3]
    exact ((MapV.made stT w1).kept (World.grownBy_alloc _ _ none) (by simp)).kept (World.grownBy_alloc _ _ none) (by simp)
  have hB3 := hB1.trans (b3.mono hB1.size)
  have hl1 := O1.out.lt
  have hAb : ∀ b off, A = some ⟨b, off, none⟩ → b ≠ w1.heap.size + 1 + 1 := fun b off e => by
    have h3 : 0 < d.P.length := by
      have h2 := hd.out.ok
      unfold Pl.ok at h2
      simp only [Bool.and_eq_true, btw_iff] at h2
      omega
    obtain ⟨b', off', e', hb', _⟩ := rd_p2 HA.out (i := 0) (p := d.P[0]) (by simp)
    rw [e] at e'
    cases e'
    omega
  have hBb : ∀ b off, B = some ⟨b, off, none⟩ → b ≠ w1.heap.size + 1 + 1 := fun b off e => by
    have h3 : 0 < d.O.length := by
      rw [hd.out.ol]
      have h2 := hd.out.ok
      unfold Pl.ok at h2
      simp only [Bool.and_eq_true, btw_iff] at h2
      omega
    obtain ⟨b', off', e', hb', _⟩ := RdI.elem HB.out (i := 0) (x := d.O[0]) (by simp)
    rw [e] at e'
    cases e'
    omega
  have hFl : FlH d A B C cA cB cC w1.heap.size (w1.heap.size + 1) (w1.heap.size + 1 + 1) W3 := ⟨f3, by omega, HA.out.below hB3 (Nat.le_refl _), hAb, show RdI W3 B d.O from HB.out.below hB3 (Nat.le_refl _), hBb⟩
  have hpow : 25 ^ d.P.length ≤ 244140625 := Nat.le_trans (Nat.pow_le_pow_right (by decide) hd.out.six) (by decide)
  have hcall := fieldsW d A B C cA cB cC w1.heap.size (w1.heap.size + 1) (w1.heap.size + 1 + 1) hd d.P.length [] none 0 0 (fun _ => none) (fun _ => False) W3 (by simp) (Nat.zero_le _) (fun _ => rfl) (fun b off e => by cases e) hFl (Rd.nil _ _ _) m3 (by omega) ⟨fun z v e => (by cases e), fun f (h : False) => h.elim⟩
  have hcall2 : Calls Try.prog 102 #[.pointer (some ⟨w1.heap.size + 1, 0, none⟩), .map (some (w1.heap.size + 1 + 1)), .int .u64 0, .slice none 0 0] W3 _ := hcall
  have HCALL := Lib.hid hcall2
  have S3 := Lib.hid s3
  have F3 := Lib.hid f3
  have O3 := Lib.hid (O1.out.below b3 O1.out.lt)
  clear hcall hcall2 hFl m3 s3 f3 b3
  go_wp2_with fail
  rw [← hW3]
  clear hW3 l0 c0 f0 O1
  refine HCALL.out.mono ?_
  rintro e w4 ⟨rfl, F, hM4, hF4, hG4⟩
  obtain ⟨nb, hnb⟩ : ∃ nb, 0 + 25 ^ d.P.length = nb := ⟨_, rfl⟩
  rw [hnb] at hM4
  have hnb2 : nb ≤ 244140625 := by omega
  have hz4 := hG4.size
  have o4 := O3.out.grown hG4 (by first | (simp; done) | (simp; omega))
  have f4 := F3.out.grown hG4 (by first | (simp; done) | (simp; omega))
  have s4 := S3.out.kept hG4 (by first | (simp; done) | (simp; omega))
  have hB4 : Below w.heap.size w w4 := hB3.grown hG4 (by omega) (fun k e => by cases e; omega)
  have hW4 := Lib.hid hF4
  have M4 := Lib.hid hM4
  clear O3 F3 S3 HCALL hG4 hB3 hpow hnb hM4 hF4
  go_wp2_with (first | (at_range; go_must (refine wp_rangeV w4 kdT rfl _ _ rfl Try.underlying161 (w1.heap.size + 1 + 1) nb F rfl M4.out ?_); intro W0 cnt hr0 hb0 hz0 hcn))
  have o5 := o4.below hb0 o4.lt
  have f5 := f4.below hb0 f4.lt
  have s5 := s4.kept (grown_of_below hb0) (by simp)
  have hB0 := hB4.trans (hb0.mono hB4.size)
  have HFW : Hid (∀ z v, F z = some v → ∃ f, Dp.Box d [] f ∧ Pl.ok f = true ∧ z = Dp.key d f ∧ ∃ b cap, v = .slice (some ⟨b, 0, none⟩) f.length cap ∧ b < W0.heap.size ∧ b ≠ w1.heap.size ∧ b ≠ w4.heap.size ∧ Rd 2 W0 (some ⟨b, 0, none⟩) (f.map ptrow)) := fun z v e => by
    obtain ⟨f, h1, h2, h3, b, cap, h4, h5, h6⟩ := hW4.out.sound z v e
    have hbx : Dp.Box d [] f := h1.resolve_left id
    have hfl : 0 < f.length := by
      have := hbx.1
      have h2 := hd.out.ok
      unfold Pl.ok at h2
      simp only [Bool.and_eq_true, btw_iff] at h2
      omega
    obtain ⟨b', off', e', hb', _⟩ := rd_p2 h6 (i := 0) (p := f[0]) (by simp)
    cases e'
    refine ⟨f, hbx, h2, h3, b, cap, h4, by omega, ?_, by omega, h6.below hb0 (Nat.le_refl _)⟩
    exact h6.noMap (F := fun _ => none) ⟨.int .i64 f[0].1, [.int .i64 f[0].2], by simp [List.getElem?_map, List.getElem?_eq_getElem hfl, ptrow]⟩ s4
  have HALL := Lib.hid (fun f (h : Dp.Box d [] f) (k : Pl.ok f = true) => hW4.out.all f (Or.inr h) k)
  have hbr : w1.heap.size + 3 ≤ w4.heap.size := by omega
  have O5 := Lib.hid o5
  have F5 := Lib.hid f5
  have S5 := Lib.hid s5
  have R0 := Lib.hid hr0
  have HB0 := Lib.hid hB0
  clear o4 f4 s4 hB4 hb0 o5 f5 s5 hB0 M4 hW4 hAb hBb hr0
  have hh := hd.out.wh
  have hskb := hh.k.skew
  have hlob := hh.k.lo
  have hhib := hh.k.hi
  obtain ⟨sN, hsN⟩ : ∃ sN : Nat, d.h.skew = sN := ⟨d.h.skew.toNat, by omega⟩
  obtain ⟨m, hm⟩ : ∃ m, d.l.length = m := ⟨_, rfl⟩
  have hm8 : m ≤ 8 := by have := hh.n; omega
  clear hh
  go_frame
  have hsk20 : sN ≤ 20 := by omega
  have hsl : d.h.skew ≤ sN := by omega
  have hsg : (sN : Int) ≤ d.h.skew := by omega
  have hlm : d.l.length ≤ 8 := by omega
  have hz00 := HB0.out.size
  clear hsN hm hm8
  go_loopg [11] cnt (fun K yy wr => ∃ (left : Nat × Int → Bool) (q : Nat) (G : Nat × Nat × Int → Option Value), RngV kdT wr (w1.heap.size + 1 + 1) w4.heap.size nb F left K ∧ MapV stT wr w1.heap.size q G ∧ Hid (q + K * 41 ≤ cnt * 41) ∧ Hid (Dp.ToldS d F G (fun z _ => left z = false ∧ kdT.wf z)) ∧ Kp2 w1.heap.size w4.heap.size W0 wr)
  case atStart => exact ⟨_, 0, _, R0.out, S5.out, by show _ ≤ _; omega, (Dp.ToldS.none d F).weak (fun z sk h1 h2 _ _ => by
    have := h1.1
    rw [h2] at this; cases this), Kp2.refl _ _ _⟩
  case round =>
    obtain ⟨left, q, G, hrg, hst, hq, hts, hkp⟩ := hrel
    have HKP := Lib.hid hkp
    have HST := Lib.hid hst
    have hzk := hkp.size
    clear hkp hst
    go_wp2_with (at_next; refine wp_nextV wr kdT rfl _ rfl (w1.heap.size + 1 + 1) w4.heap.size nb F left _ rfl hrg ?_ ?_)
    · intro hc0 hl0
      have hT : Hid (Dp.ToldS d F G (fun z _ => kdT.wf z)) := hts.out.weak (fun z sk h1 _ _ _ => ⟨hl0 z.1 z.2 h1, h1⟩)
      obtain ⟨c, hcq, hlen, hc1⟩ := HST.out.len (mt := 158) Try.underlying158
      have HC1 := Lib.hid hc1
      have hBw : Below w.heap.size w wr := HB0.out.trans (HKP.out.below (Below.refl _ _) (by omega) (by omega) (by omega))
      have fW := F5.out.kp2 HKP.out (by omega) (by omega)
      have HBW := Lib.hid hBw
      have FW := Lib.hid fW
      obtain ⟨lf, cf, gf⟩ := fW
      have hq2 : q ≤ 244140625 * 41 := by have := hq.out; omega
      have hwf : Hid (∀ f sk, Dp.Box d [] f → Pl.ok f = true → stT.wf (Dp.stK d f sk) ∧ kdT.wf (Dp.key d f)) := fun f sk h1 h2 => by
        have hl8 : f.length ≤ 8 := by have := h1.1; have := hd.out.six; omega
        exact ⟨st_wf (d := d) (z := Dp.key d f) (Dp.mk_lt hl8) (Dp.ar_bd hd.out.un h2) (by omega), kd_wf hd.out.un h2 hl8⟩
      by_cases hc : c = 0
      · subst hc
        have hno := Lib.hid (HC1.out.1 rfl)
        clear hc1 hrg hcq hBw
        go_wp2
        go_ret2
        refine ⟨_, 3, rfl, Or.inl ⟨rfl, rfl, fun f sk h1 h2 h3 h4 => ?_⟩, HBW.out⟩
        have hw := hwf.out f sk h1 h2
        have e := hT.out.all (Dp.key d f) sk hw.2 (HALL.out f h1 h2) h3 h4
        rw [show G (Dp.stZ d (Dp.key d f) sk) = none from hno.out _ hw.1] at e
        cases e
      · have hcb : ((c : Int) == 0) = false := by simp; omega
        clear hc1 hrg hBw
        go_wp2
        go_ret2
        refine ⟨_, 0, rfl, Or.inr ⟨rfl, _, w1.heap.size, q, G, rfl, FW.out, HST.out, by omega, ⟨fun s v e => ?_, fun f sk h1 h2 h3 h4 => ?_⟩, by omega, by omega, ?_⟩, HBW.out⟩
        · obtain ⟨z, sk, h1, h2, h3, h4⟩ := hT.out.sound s v e
          obtain ⟨f, k1, k2, k3, b, cap, k4, k5, k6, k7, k8⟩ := HFW.out z v h1
          subst k3
          exact ⟨f, sk, b, cap, k1, k2, h2, h3, h4, k4, k8.kp2 HKP.out (fun c off e => by cases e; exact ⟨k6, k7⟩)⟩
        · have hw := hwf.out f sk h1 h2
          exact hT.out.all (Dp.key d f) sk hw.2 (HALL.out f h1 h2) h3 h4
        · exact Classical.byContradiction fun hno => hc (HC1.out.2 fun s hs => by
            cases e : G s with
            | none => rfl
            | some v => exact (hno ⟨s, hs, by rw [e]; rfl⟩).elim)
    · intro x1 x2 v w5 cnt1 hwx hlx hfx hrg1 hlt hg1 hs1 hen
      have hz5 : W0.heap.size ≤ w5.heap.size := by omega
      have HS1 := Lib.hid hs1
      clear hs1
      rw [show kdT.val (x1, x2) = .agg #[.int .u64 (x1 : Nat), .int .i64 x2] from rfl] at hen ⊢
      obtain ⟨f, k1, k2, k3, b, cap, k4, k5, k6, k7, k8⟩ := HFW.out (x1, x2) v hfx
      have hl8 : f.length ≤ 8 := by have := k1.1; have := hd.out.six; omega
      have hx1 : x1 < 256 := by rw [show x1 = Dp.mk d f from congrArg Prod.fst k3]; exact Dp.mk_lt hl8
      have hx2 : 0 ≤ x2 ∧ x2 ≤ 800000 := by rw [show x2 = Dp.ar d f from congrArg Prod.snd k3]; exact Dp.ar_bd hd.out.un k2
      have HFX := Lib.hid hfx
      have HWX := Lib.hid hwx
      subst k4
      clear k1 k2 k3 k5 k6 k7 k8 hl8 hfx hwx hlx hrg
      have kp5 : Kp2 w1.heap.size w4.heap.size W0 w5 := HKP.out.trans (Kp2.of hg1 (fun k e => by cases e; exact Or.inr rfl))
      have st5 := HST.out.kept hg1 (by first | (simp; done) | (simp; omega))
      have a5 : w5.grownBy (w5.alloc (Obj.cells #[.int .u64 (x1 : Nat), .int .i64 x2] 164)) none := World.grownBy_alloc _ _ _
      have rgA := Lib.hid (hrg1.kept a5 (by simp) (by simp))
      have stA := Lib.hid (st5.kept a5 (by simp))
      have kpA := Lib.hid (kp5.trans (Kp2.of a5 (fun k e => by cases e)))
      have kA : Own (w5.alloc (Obj.cells #[.int .u64 (x1 : Nat), .int .i64 x2] 164)) w5.heap.size [.int .u64 (x1 : Nat), .int .i64 x2] := Own.new' _ _ rfl rfl
      have dA := O5.out.kp2 kpA.out (by omega) (by omega)
      have HQ := hq
      have HTS := hts
      have KA := Lib.hid kA
      have DA := Lib.hid dA
      have hzA : (w5.alloc (Obj.cells #[.int .u64 (x1 : Nat), .int .i64 x2] 164)).heap.size = w5.heap.size + 1 := by simp
      obtain ⟨ld, cd, gd⟩ := dA
      obtain ⟨lk, ck, gq⟩ := kA
      clear HKP HST kp5 st5 a5 hq hts hrg1
      cases hbt : btw x2 d.h.lo d.h.hi
      · have HBT := Lib.hid hbt
        clear hbt
        go_wp2_with fail
        refine (dwithinB HBT _).mono ?_
        rintro e w6 ⟨rfl, rfl⟩
        go_wp2
        go_roundg cnt1
        case measure => omega
        case rel =>
          refine ⟨fun z => left z && !decide (z = (x1, x2)), q, G, rgA.out, stA.out, ?_, ?_, kpA.out⟩
          · have := HQ.out
            have : cnt1 * 41 ≤ gk * 41 := Nat.mul_le_mul_right _ (by omega)
            show _ ≤ _; omega
          · refine HTS.out.weak (fun z sk h1 h2 h3 h4 => ⟨?_, h1.2⟩)
            have h5 := h1.1
            simp only [Bool.and_eq_false_iff] at h5
            rcases h5 with h5 | h5
            · exact h5
            · have e : z = (x1, x2) := by simpa using h5
              subst e
              have := HBT.out
              unfold Dp.guess at h3
              rw [btw_iff.2 h3] at this
              cases this
      · have HBT := Lib.hid hbt
        have hgs := btw_iff.1 hbt
        clear hbt
        go_wp2_with fail
        refine (dwithinB HBT _).mono ?_
        rintro e w6 ⟨rfl, rfl⟩
        clear ld cd gd lk ck gq
        obtain ⟨WA, hWA⟩ : ∃ WA, WA = w5.alloc (Obj.cells #[.int .u64 (x1 : Nat), .int .i64 x2] 164) := ⟨_, rfl⟩
        rw [← hWA] at rgA stA kpA KA DA hzA ⊢
        clear hWA hen
        have dA := DA.out
        unfold dsC at dA
        obtain ⟨ld, cd, gd⟩ := dA
        go_wp2
        go_loopg [11] (2 * sN + 1) (fun K yy wr => ∃ (i q2 : Nat) (G2 : Nat × Nat × Int → Option Value), K + i = 2 * sN + 1 ∧ yy = .int .i64 (-d.h.skew + (i : Nat)) ∧ MapV stT wr w1.heap.size q2 G2 ∧ Hid (q2 + cnt1 * 41 + 41 ≤ cnt * 41 + i) ∧ Hid (Dp.ToldS d F G2 (fun z sk => (left z = false ∧ kdT.wf z) ∨ (z = (x1, x2) ∧ sk < -d.h.skew + (i : Nat)))) ∧ WA.grownBy wr (some w1.heap.size))
        case atStart =>
          refine ⟨0, q, G, rfl, by simp, stA.out, ?_, ?_, ⟨rfl, rfl, rfl, Nat.le_refl _, fun _ _ _ => rfl⟩⟩
          · have := HQ.out
            have : (cnt1 + 1) * 41 ≤ gk * 41 := Nat.mul_le_mul_right _ (by omega)
            show _ ≤ _; omega
          · refine HTS.out.weak (fun z sk h1 h2 h3 h4 => ?_)
            rcases h1 with h1 | ⟨rfl, h5⟩
            · exact h1
            · exfalso; unfold Dp.inSk at h4; simp at h5; omega
        case round =>
          clear stA HQ HTS ld cd gd
          obtain ⟨i, q2, G2, hi, rfl, hst, hq, hts, hgr⟩ := hrel
          obtain ⟨WS, rfl⟩ : ∃ WS, WS = wr := ⟨_, rfl⟩
          have HST := Lib.hid hst
          have HGR := Lib.hid hgr
          have hzr := hgr.size
          have dA := DA.out.grown hgr (by first | (simp; done) | (simp; omega))
          have kA := KA.out.grown hgr (by first | (simp; done) | (simp; omega))
          have DA2 := Lib.hid dA
          have KA2 := Lib.hid kA
          obtain ⟨X, hX⟩ : ∃ X, Hid (X = -d.h.skew + (i : Nat)) := ⟨_, rfl⟩
          rw [← hX.out] at hts ⊢
          clear hst hgr
          unfold dsC at dA
          obtain ⟨ld, cd, gd⟩ := dA
          obtain ⟨lk, ck, gq⟩ := kA
          by_cases hlt2 : i < 2 * sN + 1
          · have hX1 : -d.h.skew ≤ X ∧ X ≤ d.h.skew := by have := hX.out; omega
            have hwX : IntKind.i64.wrap (X + 1) = X + 1 := IntWalk.i64_in _ (by omega)
            obtain ⟨WB, hWB⟩ : ∃ WB, WB = WS.alloc (Obj.cells #[.int .u64 (x1 : Nat), .int .u64 0, .int .i64 x2] 125) := ⟨_, rfl⟩
            have sB : Own WB WS.heap.size [.int .u64 (x1 : Nat), .int .u64 0, .int .i64 x2] := by rw [hWB]; exact Own.new' _ _ rfl rfl
            have gB : WS.grownBy WB none := by rw [hWB]; exact World.grownBy_alloc _ _ _
            have hzB : WB.heap.size = WS.heap.size + 1 := by rw [hWB]; simp
            have SB := Lib.hid sB
            have GB := Lib.hid gB
            clear sB gB
            go_wp2
            rw [← hWB]
            clear hWB ld cd gd lk ck gq
            have DB := Lib.hid (DA2.out.grown GB.out (by simp))
            have KB := Lib.hid (KA2.out.grown GB.out (by simp))
            have hBB : Below w.heap.size w WB := HB0.out.trans ((kpA.out.trans ((Kp2.of HGR.out (fun k e => by cases e; exact Or.inl rfl)).trans (Kp2.of GB.out (fun k e => by cases e)))).below (Below.refl _ _) (by omega) (by omega) (by omega))
            have HBB := Lib.hid hBB
            clear hBB DA2 KA2
            go_loopg [69] d.l.length (fun K yy wr2 => ∃ k : Nat, K + k = d.l.length ∧ yy = .int .i64 k ∧ Own wr2 WS.heap.size [.int .u64 (x1 : Nat), .int .u64 (Dp.maskTo (Dp.wp d x2 X) k : Nat), .int .i64 x2] ∧ WB.grownBy wr2 (some WS.heap.size))
            case atStart => exact ⟨0, rfl, rfl, SB.out, ⟨rfl, rfl, rfl, Nat.le_refl _, fun _ _ _ => rfl⟩⟩
            case round =>
              obtain ⟨k, hk, rfl, hS, hG⟩ := hrel
              have HS := Lib.hid hS
              have HG := Lib.hid hG
              have hzw := hG.size
              have hzB2 := hzB
              have dA := DB.out.grown hG (by first | (simp; done) | (simp; omega))
              have kA := KB.out.grown hG (by first | (simp; done) | (simp; omega))
              have DA3 := Lib.hid dA
              have KA3 := Lib.hid kA
              unfold dsC at dA
              obtain ⟨ld, cd, gd⟩ := dA
              obtain ⟨lk, ck, gq⟩ := kA
              clear hS hG hzB
              by_cases hlt3 : k < d.l.length
              · obtain ⟨g, hg⟩ : ∃ g, Hid (d.l[k]? = some g) := ⟨d.l[k]'hlt3, by simp [Hid]⟩
                have hBw : Below w.heap.size w wr := HBB.out.grown HG.out (by omega) (fun k e => by cases e; omega)
                obtain ⟨b6, f6, rfl, hl6, hw0, hw1, hw2, hw3, hw4⟩ := rd_wk (HC.out.below hBw (Nat.le_refl _)) hg.out
                have HBW := Lib.hid hBw
                have hR := Lib.hid (fun W => disRightW d.h g x2 X W hd.out.wh.k (hd.out.wh.l _ (List.mem_of_getElem? hg.out)) (by omega) (by omega))
                have hst := Lib.hid (Dp.wm_succ d x2 X hg.out)
                clear hBw
                obtain ⟨WC, hWC⟩ : ∃ WC, WC = wr.alloc (Obj.cells #[.int .i64 g.s, .int .i64 g.sd, .int .i64 g.ins, .int .i64 g.st, .int .i64 g.en] 36) := ⟨_, rfl⟩
                have gC : wr.grownBy WC none := by rw [hWC]; exact World.grownBy_alloc _ _ _
                have hzC : WC.heap.size = wr.heap.size + 1 := by rw [hWC]; simp
                have GC := Lib.hid gC
                clear gC
                go_wp2_with fail
                rw [← hWC]
                clear hWC ld cd gd lk ck gq hw0 hw1 hw2 hw3 hw4 hl6
                cases hr : Wl.rightB d.h g (x2, X)
                · have hRF := Lib.hid (fun W => cBB hr (hR.out W))
                  have hsF : Hid (Dp.maskTo (Dp.wp d x2 X) (k + 1) = Dp.maskTo (Dp.wp d x2 X) k ||| 1 <<< k) := by show _ = _; rw [hst.out]; simp [hr]
                  clear hr
                  refine (hRF.out _).mono ?_
                  rintro e w7 ⟨rfl, hb7⟩
                  have gN : wr.grownBy w7 none := (GC.out.trans (grown_of_below hb7))
                  have s7 := HS.out.grown gN (by simp)
                  have GN := Lib.hid gN
                  have hz7 := gN.size
                  clear hb7 gN
                  have hml : Dp.maskTo (Dp.wp d x2 X) k < 256 := Nat.lt_of_lt_of_le (Dp.mask_lt _ _) (Nat.pow_le_pow_right (n := 2) (by decide) (show k ≤ 8 by omega))
                  have hpn : 1 <<< k ≤ 256 := by rw [Nat.one_shiftLeft]; exact Nat.pow_le_pow_right (n := 2) (by decide) (show k ≤ 8 by omega)
                  have hpi : ((2 : Int) ^ k) = ((1 <<< k : Nat) : Int) := by rw [Nat.one_shiftLeft]; simp
                  obtain ⟨M, hM⟩ : ∃ M, Dp.maskTo (Dp.wp d x2 X) k = M := ⟨_, rfl⟩
                  obtain ⟨pq, hpq⟩ : ∃ pq, 1 <<< k = pq := ⟨_, rfl⟩
                  rw [hM] at hml s7 hsF
                  rw [hpq] at hpn hpi hsF
                  have hwn : IntKind.u64.wrap ((2 : Int) ^ k) = ((pq : Nat) : Int) := by rw [hpi]; exact IntWalk.u64_in _ (by omega)
                  have hor : bits BinOp.or IntKind.u64 ((M : Nat) : Int) (IntKind.u64.wrap ((2 : Int) ^ k)) = ((M ||| pq : Nat) : Int) := by
                    rw [hwn, bits_or_u64_nat _ _ (by omega) (by omega)]
                  have hk64 : (k : Int) ≤ 64 := by omega
                  clear hwn hpi hpn hpq hM
                  go_wp2
                  have t7 := s7.drew
                  have g8 : wr.grownBy w7.drew none := ⟨GN.out.os, GN.out.tape, GN.out.output, GN.out.size, GN.out.block⟩
                  refine rg_start (fun _ => True) 9 (by kernel_rfl) rfl ?_
                  generalize World.drew _ = R8 at t7 g8 ⊢
                  refine rg_take (fuel := 5) [0, 1, 3, 4] (by kernel_rfl) (by intro _ _ d _ _ h; first | (cases d <;> exact h) | (simp [Exit.then, Exit.inBlock, ownPostG] at h)) rfl (by kernel_rfl) (by kernel_rfl) trivial ?_; simp only [pickL, pick1, List.cons_append, List.nil_append]
                  iterate 4 (refine wpTake_cons (v := ?_) (Or.inl ⟨by rfl, ?_⟩) ?_; rotate_left; (intro w' hSw; go_simp; (try with_reducible rfl)); (try simp only [Act.put, List.setIfInBounds_toArray, List.set_cons_zero, List.set_cons_succ]))
                  refine wpTake_nil ?_
                  refine rg_one (fuel := 4) 2 rfl (by kernel_rfl) (by kernel_rfl) ?_; simp only [pick1, wpHead]
                  have yc := t7.c
                  intro K' hK; rw [if_pos (by rfl)]; go_simp
                  clear yc
                  refine hK.out _ _ trivial ?_
                  clear hK K'; (try simp only [Act.put, List.setIfInBounds_toArray, List.set_cons_zero, List.set_cons_succ])
                  refine rg_take (fuel := 1) [5, 6, 7] (by kernel_rfl) (by intro _ _ d _ _ h; first | (cases d <;> exact h) | (simp [Exit.then, Exit.inBlock, ownPostG] at h)) rfl (by kernel_rfl) (by kernel_rfl) trivial ?_; simp only [pickL, pick1, List.cons_append, List.nil_append]
                  iterate 3 (refine wpTake_cons (v := ?_) (Or.inl ⟨by rfl, ?_⟩) ?_; rotate_left; (intro w' hSw; go_simp; (try with_reducible rfl)); (try simp only [Act.put, List.setIfInBounds_toArray, List.set_cons_zero, List.set_cons_succ]))
                  refine wpTake_nil ?_
                  refine rg_one (fuel := 0) 8 rfl (by kernel_rfl) (by kernel_rfl) ?_; simp only [pick1, wpHead]
                  have T7 := Lib.hid t7
                  obtain ⟨lt, ct, gt⟩ := t7
                  intro K' hK; rw [if_pos (by rfl)]; go_simp
                  have t8 : Own (R8.setCell ⟨WS.heap.size, 1, none⟩ (.int .u64 (M ||| pq : Nat))) WS.heap.size [.int .u64 (x1 : Nat), .int .u64 (M ||| pq : Nat), .int .i64 x2] := T7.out.set 1 (by simp) _
                  have g9 : WB.grownBy (R8.setCell ⟨WS.heap.size, 1, none⟩ (.int .u64 (M ||| pq : Nat))) (some WS.heap.size) := (HG.out.trans (grown_row g8)).trans (grown_set _ _ _ _)
                  refine hK.out _ _ trivial ?_
                  clear hK K' lt ct gt T7 hor hml
                  refine rg_done (by kernel_rfl) ?_
                  go_wp2
                  go_roundg (d.l.length - (k + 1))
                  case measure => omega
                  case rel => exact ⟨k + 1, by omega, by go_num, by rw [hsF.out]; exact t8, g9⟩
                · have hRT := Lib.hid (fun W => cBB hr (hR.out W))
                  have hsT : Hid (Dp.maskTo (Dp.wp d x2 X) (k + 1) = Dp.maskTo (Dp.wp d x2 X) k) := by show _ = _; rw [hst.out]; simp [hr]
                  clear hr
                  refine (hRT.out _).mono ?_
                  rintro e w7 ⟨rfl, hb7⟩
                  have gN : wr.grownBy w7 none := (GC.out.trans (grown_of_below hb7))
                  have s7 := Lib.hid (HS.out.grown gN (by simp))
                  have g7 := Lib.hid (HG.out.trans (grown_row gN))
                  clear hb7 gN
                  go_wp2
                  go_roundg (d.l.length - (k + 1))
                  case measure => omega
                  case rel => exact ⟨k + 1, by omega, by go_num, by rw [hsT.out]; exact s7.out, g7.out⟩
              · have hke : k = d.l.length := by omega
                have fA := (((F5.out.kp2 kpA.out (by omega) (by omega)).grown HGR.out (by first | (simp; done) | (simp; omega))).grown GB.out (by simp)).grown HG.out (by first | (simp; done) | (simp; omega))
                have hmask : Hid ((Dp.maskTo (Dp.wp d x2 X) k : Nat) = Dp.wm d x2 X) := by show _ = _; rw [hke]; rfl
                obtain ⟨M, hM⟩ : ∃ M, Dp.maskTo (Dp.wp d x2 X) k = M := ⟨_, rfl⟩
                have S8 := HS.out
                rw [hM] at S8 hmask
                have stB := (HST.out.kept GB.out (by simp)).kept HG.out (by first | (simp; done) | (simp; omega))
                have hwfs : stT.wf (Dp.stZ d (x1, x2) X) := st_wf (d := d) (z := (x1, x2)) hx1 hx2 (by omega)
                have hgF : WS.grownBy wr none := grown_fresh ((grown_row (row := some WS.heap.size) GB.out).trans HG.out) (Nat.le_refl _)
                have HGF := Lib.hid hgF
                have STB := Lib.hid stB
                have HWFS := Lib.hid hwfs
                have hq2 : q2 ≤ 244140625 * 41 := by have := hq.out; have : cnt * 41 ≤ 244140625 * 41 := Nat.mul_le_mul_right _ (by omega); omega
                clear hM hgF stB hwfs ld cd gd lk ck gq HS
                have fD := fA.drew
                have sD := S8.drew
                have gD : wr.grownBy wr.drew none := ⟨rfl, rfl, rfl, Nat.le_refl _, fun _ _ _ => rfl⟩
                go_wp2
                refine rg_start (fun W => Own W (w1.heap.size + 1) (flC A B C cA cB cC d w1.heap.size) ∧ Own W WS.heap.size [.int .u64 (x1 : Nat), .int .u64 (M : Nat), .int .i64 x2]) 7 (by kernel_rfl) rfl ?_
                generalize World.drew _ = R8 at fD sD gD ⊢
                refine rg_take (fuel := 1) [0, 1, 2, 3, 4, 5] (by kernel_rfl) (by intro _ _ d _ _ h; first | (cases d <;> exact h) | (simp [Exit.then, Exit.inBlock, ownPostG] at h)) rfl (by kernel_rfl) (by kernel_rfl) ⟨fD, sD⟩ ?_; simp only [pickL, pick1, List.cons_append, List.nil_append]
                iterate 6 (refine wpTake_cons (v := ?_) (Or.inl ⟨by rfl, ?_⟩) ?_; rotate_left; (intro w' hSw; have yc := hSw.1.c; have yl := hSw.1.lt; have yd := hSw.2.c; clear hSw; go_simp; (try with_reducible rfl)); (try simp only [Act.put, List.setIfInBounds_toArray, List.set_cons_zero, List.set_cons_succ]))
                refine wpTake_nil ?_
                have st8 := STB.out.kept gD (by simp)
                obtain ⟨w9, hup, hM9, hg9, hz9⟩ := st8.update (mt := 158) Try.underlying158 (by omega) HWFS.out (.slice (some ⟨b, 0, none⟩) f.length cap)
                have hup2 : (Instr.mapUpdate 158 (.map (some w1.heap.size)) (.agg #[.int .u64 (x1 : Nat), .int .u64 (M : Nat), .int .i64 x2]) (.slice (some ⟨b, 0, none⟩) f.length cap)).run Try.prog R8 = .ok () w9 := by rw [hmask.out]; exact hup
                clear hup
                refine rg_one (fuel := 0) 6 rfl (by kernel_rfl) (by kernel_rfl) ?_; simp only [pick1, wpHead]
                intro K' hK; rw [if_pos (by rfl)]; go_simp
                have zR := gD.size
                have f9 := fD.grown hg9 (by first | (simp; done) | (simp; omega))
                have s9 := sD.grown hg9 (by first | (simp; done) | (simp; omega))
                have g9 : WA.grownBy w9 (some w1.heap.size) := (HGR.out.trans (grown_row HGF.out)).trans ((grown_row gD).trans hg9)
                have hts9 := Lib.hid (hts.out.put (z := (x1, x2)) (sk := X) HFX.out (show Dp.guess d x2 from hgs) hX1)
                refine hK.out _ _ ⟨f9, s9⟩ ?_
                clear hK K' hup2 hg9 st8 fA S8 f9 s9 fD sD gD
                refine rg_done (by kernel_rfl) ?_
                go_wp2
                go_roundg (2 * sN + 1 - (i + 1))
                case measure => omega
                case rel =>
                  refine ⟨i + 1, q2 + 1, _, by omega, ?_, hM9, ?_, ?_, g9⟩
                  · have := hX.out; simp; omega
                  · have := hq.out; show _ ≤ _; omega
                  · refine hts9.out.weak (fun z sk h1 h2 h3 h4 => ?_)
                    rcases h1 with h1 | ⟨h5, h6⟩
                    · exact Or.inl (Or.inl h1)
                    · have := hX.out
                      by_cases e : sk = X
                      · exact Or.inr ⟨h5, e⟩
                      · exact Or.inl (Or.inr ⟨h5, by omega⟩)
          · have hX1 : d.h.skew < X := by have := hX.out; omega
            go_wp2
            go_roundg cnt1
            case measure => omega
            case rel =>
              refine ⟨fun z => left z && !decide (z = (x1, x2)), q2, G2, rgA.out.kept HGR.out (by first | (simp; done) | (simp; omega)) (by first | (simp; done) | (simp; omega)), HST.out, ?_, ?_, kpA.out.trans (Kp2.of HGR.out (fun k e => by cases e; exact Or.inl rfl))⟩
              · have := hq.out; show _ ≤ _; omega
              · refine hts.out.weak (fun z sk h1 h2 h3 h4 => ?_)
                have h5 := h1.1
                simp only [Bool.and_eq_false_iff] at h5
                rcases h5 with h5 | h5
                · exact Or.inl ⟨h5, h1.2⟩
                · refine Or.inr ⟨by simpa using h5, ?_⟩
                  unfold Dp.inSk at h4
                  omega
end Go.Proofs.Ytgmhelclofnpkaa
namespace Go.Proofs.Ytgmhelclofnpkaa
open Go.RowKit Go.Maps

def stRow (s : Nat × Nat × Int) : List Value := [.int .u64 (s.1 : Nat), .int .u64 (s.2.1 : Nat), .int .i64 s.2.2]
def manyS (s : Nat × Nat × Int) : Int := many s.1 s.2.1
/-- The first of the stories so far has the fewest faults. -/
def FewI (G : Nat × Nat × Int → Option Value) (P : Nat × Nat × Int → Bool) (left : Nat × Nat × Int → Bool) (L : List (Nat × Nat × Int)) : Prop :=
  (L = [] ∧ ∀ s, stT.wf s → (G s).isSome = true → left s = false → P s = false) ∨
  (∃ h t, L = h :: t ∧ stT.wf h ∧ (G h).isSome = true ∧ P h = true ∧ ∀ s, stT.wf s → (G s).isSome = true → left s = false → P s = true → manyS h ≤ manyS s)
theorem FewI.skip {G : Nat × Nat × Int → Option Value} {P left : Nat × Nat × Int → Bool} {L : List (Nat × Nat × Int)} (h : FewI G P left L) {x : Nat × Nat × Int} (hx : P x = false) : FewI G P (fun z => left z && !decide (z = x)) L := by
  have key : ∀ s, (left s && !decide (s = x)) = false → P s = true → left s = false := fun s h1 h2 => by
    rw [Bool.and_eq_false_iff] at h1
    rcases h1 with h1 | h1
    · exact h1
    · have : s = x := by simpa using h1
      subst this; rw [hx] at h2; cases h2
  rcases h with ⟨h1, h2⟩ | ⟨a, t, h1, h2, h3, h4, h5⟩
  · refine Or.inl ⟨h1, fun s k1 k2 k3 => ?_⟩
    cases e : P s
    · rfl
    · rw [h2 s k1 k2 (key s k3 e)] at e; cases e
  · exact Or.inr ⟨a, t, h1, h2, h3, h4, fun s k1 k2 k3 k4 => h5 s k1 k2 (key s k3 k4) k4⟩
theorem FewI.new {G : Nat × Nat × Int → Option Value} {P left : Nat × Nat × Int → Bool} {L : List (Nat × Nat × Int)} (h : FewI G P left L) {x : Nat × Nat × Int} (hw : stT.wf x) (hs : (G x).isSome = true) (hx : P x = true) (hl : L = [] ∨ ∃ a t, L = a :: t ∧ manyS x < manyS a) : FewI G P (fun z => left z && !decide (z = x)) [x] := by
  refine Or.inr ⟨x, [], rfl, hw, hs, hx, fun s k1 k2 k3 k4 => ?_⟩
  rw [Bool.and_eq_false_iff] at k3
  rcases k3 with k3 | k3
  · rcases h with ⟨h1, h2⟩ | ⟨a, t, h1, _, _, _, h5⟩
    · rw [h2 s k1 k2 k3] at k4; cases k4
    · rcases hl with hl | ⟨a', t', hl, hlt⟩
      · rw [h1] at hl; cases hl
      · rw [h1] at hl
        cases hl
        have := h5 s k1 k2 k3 k4
        omega
  · have : s = x := by simpa using k3
    subst this; exact Int.le_refl _
theorem FewI.more {G : Nat × Nat × Int → Option Value} {P left : Nat × Nat × Int → Bool} {a : Nat × Nat × Int} {t : List (Nat × Nat × Int)} (h : FewI G P left (a :: t)) {x : Nat × Nat × Int} (hlt : manyS a ≤ manyS x) (t' : List (Nat × Nat × Int)) : FewI G P (fun z => left z && !decide (z = x)) (a :: t') := by
  rcases h with ⟨h1, _⟩ | ⟨b, u, h1, h2, h3, h4, h5⟩
  · cases h1
  · cases h1
    refine Or.inr ⟨a, t', rfl, h2, h3, h4, fun s k1 k2 k3 k4 => ?_⟩
    rw [Bool.and_eq_false_iff] at k3
    rcases k3 with k3 | k3
    · exact h5 s k1 k2 k3 k4
    · have : s = x := by simpa using k3
      subst this; exact hlt
theorem infSt : (Try.prog.info? 125).map (fun i => (i.zero, i.size, i.bytes)) = some (some (.agg #[.int .u64 0, .int .u64 0, .int .i64 0]), 3, 24) := by kernel_rfl
theorem cells_new3 (w : World) (a b c : Value) (t : TypeId) : ∀ j u, [a, b, c][j]? = some u → (w.alloc (.cells #[a, b, c] t)).cell? ((⟨w.heap.size, 0, none⟩ : Addr).add j) = some u := fun j u hu => by
  have : (⟨w.heap.size, 0, none⟩ : Addr).add j = ⟨w.heap.size, j, none⟩ := by unfold Addr.add; split <;> simp_all
  rw [this, (Own.new' (w := w) #[a, b, c] t (b := w.heap.size) rfl rfl).c]
  exact hu
theorem Gro.lt {w : World} {base e sz g n cap : Nat} {rows : List (List Value)} (k : Gro w base e sz (.slice (Option.some ⟨g, 0, none⟩) n cap) rows) : base ≤ g ∧ g < w.heap.size := by
  rcases k.2.2 with ⟨h2, _⟩ | ⟨g2, cap2, cur2, hv, hb, h2, _⟩
  · cases h2
  · cases hv
    exact ⟨hb, (Array.getElem?_eq_some_iff.1 h2).1⟩
theorem Gro.cell {w : World} {base e sz g n cap : Nat} {rows : List (List Value)} (k : Gro w base e sz (.slice (Option.some ⟨g, 0, none⟩) n cap) rows) {i c : Nat} {r : List Value} {u : Value} (hi : rows[i]? = Option.some r) (hc : r[c]? = Option.some u) : w.cell? ⟨g, i * sz + c, none⟩ = Option.some u := by
  obtain ⟨A, cap', hv, hr⟩ := k.out
  cases hv
  obtain ⟨b, off, e, _, h⟩ := hr.elem hi
  cases e
  have := h c u hc
  rwa [Nat.zero_add] at this
/-- Rows of ones own under a change of other blocks. -/
theorem Gro.keptBy {w w' : World} {base e sz : Nat} {v : Value} {rows : List (List Value)} {row : Option Nat} (h : Gro w base e sz v rows) (hg : w.grownBy w' row) (hne : ∀ b, row = Option.some b → b < base) : Gro w' base e sz v rows := by
  refine ⟨h.1, h.2.1, ?_⟩
  rcases h.2.2 with h2 | ⟨g, cap, cur, hv, hb, hh, r⟩
  · exact Or.inl h2
  · have hlt : g < w.heap.size := (Array.getElem?_eq_some_iff.1 hh).1
    exact Or.inr ⟨g, cap, cur, hv, hb, by rw [hg.block g hlt (fun e => by have := hne g e.symm; omega)]; exact hh, r⟩
/-- What the search for the fewest gives. -/
def FewR (G : Nat × Nat × Int → Option Value) (P : Nat × Nat × Int → Bool) (w' : World) (A : Option Addr) (n lo : Nat) : Prop :=
  (n = 0 ∧ ∀ s, stT.wf s → (G s).isSome = true → P s = false) ∨
  (0 < n ∧ ∃ g s, A = some ⟨g, 0, none⟩ ∧ (lo ≤ g ∧ g < w'.heap.size) ∧ w'.cell? ⟨g, 0, none⟩ = some (.int .u64 (s.1 : Nat)) ∧ w'.cell? ⟨g, 1, none⟩ = some (.int .u64 (s.2.1 : Nat)) ∧ w'.cell? ⟨g, 2, none⟩ = some (.int .i64 s.2.2) ∧ stT.wf s ∧ (G s).isSome = true ∧ P s = true ∧ ∀ s', stT.wf s' → (G s').isSome = true → P s' = true → manyS s ≤ manyS s')
set_option maxRecDepth 100000 in
set_option maxHeartbeats 16000000 in
theorem dfewestW (d : Ds) (A B C : Option Addr) (cA cB cC bs Bf nb : Nat) (G : Nat × Nat × Int → Option Value) (P : Nat × Nat × Int → Bool) (fn : Nat) (w : World) (hF : Own w Bf (flC A B C cA cB cC d bs)) (hM : MapV stT w bs nb G) (hnb : nb < 100000000000)
    (hbd : Hid (∀ s, (G s).isSome = true → s.1 < 256 ∧ s.2.1 < 256)) (hP : ∀ s W, Calls Try.prog fn #[stV s] W fun e w' => e = .returned (.bool (P s)) ∧ Below W.heap.size W w') (eg : ∀ args w, (callFunc fn args).run Try.prog w = .ok (.enter fn args) w) :
    Calls Try.prog 71 #[.pointer (some ⟨Bf, 0, none⟩), .func (.func fn) #[] #[]] w fun e w' => ∃ (A' : Option Addr) (n cap : Nat), e = .returned (.tuple #[.slice A' n cap, .bool (decide (0 < n))]) ∧ Hid (FewR G P w' A' n w.heap.size) ∧ Below w.heap.size w w' := by
  obtain ⟨i0, hi0, hi1, hi2, hi3⟩ := info_parts infSt
  have HM := Lib.hid hM
  have HP := Lib.hid hP
  obtain ⟨l0, c0, f0⟩ := hF
  have hbl := hM.lt
  clear hM hP
  go_enter Try.func71, Try.ntmps71
  go_wp2_with (first | (at_range; go_must (refine wp_rangeV w stT rfl _ _ rfl Try.underlying158 bs nb G rfl HM.out ?_); intro w1 cnt hr1 hb1 hz1 hcn))
  go_frame
  have R1 := Lib.hid hr1
  have B1 := Lib.hid hb1
  clear l0 c0 f0 hr1 hb1
  go_loopg [6] cnt (fun K out wr => ∃ (left : Nat × Nat × Int → Bool) (L : List (Nat × Nat × Int)) (vo : Value), out = vo ∧ RngV stT wr bs w.heap.size nb G left K ∧ Hid (Gro wr (w.heap.size + 1) 125 3 vo (L.map stRow)) ∧ Hid (FewI G P left L) ∧ Hid (L.length + K ≤ cnt) ∧ Below w.heap.size w wr)
  case atStart => exact ⟨_, [], _, rfl, R1.out, Gro.nil _ _ _ _, Or.inl ⟨rfl, fun s _ h1 h2 => by rw [show (G s).isSome = false from h2] at h1; cases h1⟩, by show _ ≤ _; simp, B1.out⟩
  case round =>
    obtain ⟨left, L, vo, rfl, hrg, hgo, hfi, hLn, hbw⟩ := hrel
    have hzw := hbw.size
    go_wp2_with (at_next; refine wp_nextV wr stT rfl _ rfl bs w.heap.size nb G left _ rfl hrg ?_ ?_)
    · intro hc0 hl0
      have hfin : Hid (FewI G P (fun _ => false) L) := by
        rcases hfi.out with ⟨h1, h2⟩ | ⟨a, t, h1, h2, h3, h4, h5⟩
        · exact Or.inl ⟨h1, fun s k1 k2 _ => h2 s k1 k2 (hl0 s.1 s.2.1 s.2.2 k1)⟩
        · exact Or.inr ⟨a, t, h1, h2, h3, h4, fun s k1 k2 _ k4 => h5 s k1 k2 (hl0 s.1 s.2.1 s.2.2 k1) k4⟩
      clear hrg hfi
      obtain ⟨A', cap, hv, hR⟩ := hgo.out.out
      rw [List.length_map] at hv
      subst hv
      have HR := Lib.hid hR
      clear hR
      go_wp2
      go_ret2
      refine ⟨A', L.length, cap, rfl, ?_, hbw⟩
      rcases hfin.out with ⟨h1, h2⟩ | ⟨a, t, h1, h2, h3, h4, h5⟩
      · exact Or.inl ⟨by rw [h1]; rfl, fun s k1 k2 => h2 s k1 k2 rfl⟩
      · subst h1
        obtain ⟨g, cap', e1⟩ := hgo.out.some (by simp)
        obtain rfl : A' = some ⟨g, 0, none⟩ := by simp at e1; exact e1.1
        have hc := fun c v (hv : (stRow a)[c]? = some v) => hgo.out.cell (i := 0) (c := c) (r := stRow a) (u := v) rfl hv
        exact Or.inr ⟨by simp, g, a, rfl, ⟨by have := hgo.out.lt.1; omega, hgo.out.lt.2⟩, by simpa using hc 0 _ rfl, by simpa using hc 1 _ rfl, by simpa using hc 2 _ rfl, h2, h3, h4, fun s k1 k2 k4 => h5 s k1 k2 rfl k4⟩
    · intro x1 x2 x3 v w5 cnt1 hwx hlx hfx hrg1 hlt hg1 hs1 hen
      rw [show stT.val (x1, x2, x3) = .agg #[.int .u64 (x1 : Nat), .int .u64 (x2 : Nat), .int .i64 x3] from rfl] at hen ⊢
      have hx := hbd.out (x1, x2, x3) (by rw [hfx]; rfl)
      have HX := Lib.hid hwx
      have HFX : Hid ((G (x1, x2, x3)).isSome = true) := by show _ = _; rw [hfx]; rfl
      have hb5 : Below w.heap.size w w5 := hbw.grown hg1 hzw (fun k e => by cases e; exact Nat.le_refl _)
      have hz5 : w.heap.size < w5.heap.size := by have := hrg1.lt; exact this
      have RG5 := Lib.hid hrg1
      have GO5 := Lib.hid (hgo.out.keptBy hg1 (fun b e => by cases e; omega))
      have HS1 := Lib.hid hs1
      obtain ⟨WA, hWA⟩ : ∃ WA, WA = w5.alloc (Obj.cells #[.int .u64 (x1 : Nat), .int .u64 (x2 : Nat), .int .i64 x3] 125) := ⟨_, rfl⟩
      have gA : w5.grownBy WA none := by rw [hWA]; exact World.grownBy_alloc _ _ _
      have kA : Own WA w5.heap.size [.int .u64 (x1 : Nat), .int .u64 (x2 : Nat), .int .i64 x3] := by rw [hWA]; exact Own.new' _ _ rfl rfl
      have KA := Lib.hid kA
      have GA := Lib.hid gA
      clear hs1 hfx hlx hrg hrg1 hwx hbw kA gA
      cases hp : P (x1, x2, x3)
      · have HPX := Lib.hid (fun W => cBB hp (HP.out (x1, x2, x3) W))
        have HPF := Lib.hid hp
        clear hp
        go_wp2_with fail
        rw [← hWA]
        clear hWA hen
        refine (HPX.out _).mono ?_
        rintro e w6 ⟨rfl, hb6⟩
        have g6 := GA.out.trans (grown_of_below hb6)
        have G6 := Lib.hid g6
        clear hb6 g6
        go_wp2
        go_roundg cnt1
        case measure => omega
        case rel =>
          refine ⟨fun z => left z && !decide (z = (x1, x2, x3)), L, _, rfl, RG5.out.kept G6.out (by simp) (by simp), ?_, hfi.out.skip HPF.out, ?_, hb5.grown G6.out (by omega) (fun k e => by cases e)⟩
          · exact GO5.out.keptBy G6.out (fun b e => by cases e)
          · have := hLn.out; show _ ≤ _; omega
      · have HPX := Lib.hid (fun W => cBB hp (HP.out (x1, x2, x3) W))
        have HPT := Lib.hid hp
        clear hp
        go_wp2_with fail
        rw [← hWA]
        clear hWA hen
        refine (HPX.out _).mono ?_
        rintro e w6 ⟨rfl, hb6⟩
        have g6 := GA.out.trans (grown_of_below hb6)
        have k6 := KA.out.below hb6 KA.out.lt
        have K6 := Lib.hid k6
        have RG6 := Lib.hid (RG5.out.kept g6 (by simp) (by simp))
        have GO6 := Lib.hid (GO5.out.keptBy g6 (fun b e => by cases e))
        have hb6' := hb5.grown g6 (by omega) (fun k e => by cases e)
        have HB6 := Lib.hid hb6'
        have hz6 := g6.size
        have hLn2 : L.length + cnt1 + 1 ≤ cnt := by have := hLn.out; omega
        clear hb6 g6 k6 hb6' hb5 KA GA RG5 GO5 HPX
        have HM1 := Lib.hid (fun W => dmanyW x1 x2 W hx.1 hx.2)
        cases L with
        | nil =>
          obtain ⟨A', cap, hv, _⟩ := GO6.out.out
          replace hv : _ = Value.slice A' 0 cap := hv
          subst hv
          have hx0 := Aft.cell K6.out
          clear hx
          go_wp2
          refine wp_region_aft (by kernel_rfl) (by kernel_rfl) ?_; (repeat (go_big_quiet_step (fail))); refine wpQuiet_nil ?_; rintro w7 ⟨⟨_, hb7⟩, rfl⟩
          have k7 := K6.out.below hb7 K6.out.lt
          have RG7 := Lib.hid (RG6.out.kept (grown_of_below hb7) (by simp) (by simp))
          have GO7 := Lib.hid (GO6.out.keptBy (grown_of_below hb7) (fun b e => by cases e))
          have HB7 := Lib.hid (HB6.out.trans (hb7.mono HB6.out.size))
          have hz7 := hb7.size
          have K7 := Lib.hid k7
          clear hx0 hb7 K6 RG6 GO6 HB6 k7
          have hx0 := Aft.cell K7.out
          go_wp2
          refine wp_region_aft (by kernel_rfl) (by kernel_rfl) ?_; (repeat (go_big_quiet_step (fail))); refine wpQuiet_nil ?_; rintro w8 ⟨⟨_, hb8⟩, rfl⟩
          have k8 := K7.out.below hb8 K7.out.lt
          have RG8 := Lib.hid (RG7.out.kept (grown_of_below hb8) (by simp) (by simp))
          have GO8 := Lib.hid (GO7.out.keptBy (grown_of_below hb8) (fun b e => by cases e))
          have HB8 := Lib.hid (HB7.out.trans (hb8.mono HB7.out.size))
          have hz8 := hb8.size
          clear hx0 hb8 K7 RG7 GO7 HB7
          obtain ⟨lk, ck, gq⟩ := k8
          obtain ⟨V9, hV9⟩ : ∃ v, Value.slice A' 0 cap = v := ⟨_, rfl⟩
          have GO9 := Lib.hid (show Gro w8 (w.heap.size + 1) 125 3 (.slice A' 0 cap) (List.map stRow []) from GO8.out)
          rw [hV9] at GO9
          rw [hV9]
          clear hV9
          have hzW : w5.heap.size ≤ w8.heap.size := (by omega)
          go_wp2_with (at_builtin; refine wpList_append_own _ rfl _ _ 132 rfl (w.heap.size + 1) 125 i0 (.agg #[.int .u64 0, .int .u64 0, .int .i64 0]) 3 24 Try.underlying132 hi0 hi1 hi2 hi3 rfl (by decide) _ _ _ rfl (GO9.out.2.alloc _) ⟨w8.heap.size, 0, none⟩ 1 1 [.int .u64 (x1 : Nat), .int .u64 (x2 : Nat), .int .i64 x3] rfl rfl (cells_new3 _ _ _ _ _) (by intro u hu; simp at hu; rcases hu with rfl | rfl | rfl <;> rfl) (by unfold maxLen; (first | (simp; done) | (simp; omega))) (by (first | (simp; done) | (simp; omega))) (by simp; omega) ?_; intro v' w9 hown' hgrow hnil)
          have gW : w8.grownBy (w8.alloc (Obj.cells #[.int .u64 (x1 : Nat), .int .u64 (x2 : Nat), .int .i64 x3] 125)) none := World.grownBy_alloc _ _ _
          have hbk : ∀ b, Value.ownBlock V9 = some b → w.heap.size + 1 ≤ b := fun b hb => (GO9.out.2.lt b hb).1
          have q2 : Gro w9 (w.heap.size + 1) 125 3 v' (List.map stRow [] ++ [stRow (x1, x2, x3)]) := Gro.grown GO9.out rfl hown'
          have Q2 := Lib.hid q2
          have RG9 := Lib.hid ((RG8.out.kept gW (by simp) (by simp)).kept hgrow (fun e => by have := hbk _ e.symm; omega) (fun e => by have := hbk _ e.symm; omega))
          have HB9 := Lib.hid ((HB8.out.grown gW (by omega) (fun k e => by cases e)).grown hgrow (by simp; omega) (fun k e => by have := hbk _ e; omega))
          clear hown' hgrow hnil q2
          go_wp2
          go_roundg cnt1
          case measure => omega
          case rel =>
            refine ⟨fun z => left z && !decide (z = (x1, x2, x3)), [(x1, x2, x3)], _, rfl, RG9.out, ?_, hfi.out.new HX.out HFX.out HPT.out (Or.inl rfl), ?_, HB9.out⟩
            · have q3 := Q2.out; show Gro _ _ _ _ _ _; simpa [List.map_append] using q3
            · have := hLn2; show _ ≤ _; simp at this ⊢; omega
        | cons a t =>
          obtain ⟨a1, a2, a3⟩ := a
          have hab : a1 < 256 ∧ a2 < 256 := by
            rcases hfi.out with ⟨h1, _⟩ | ⟨b, u, h1, _, h3, _⟩
            · cases h1
            · cases h1; exact hbd.out (a1, a2, a3) h3
          have HM2 := Lib.hid (fun W => dmanyW a1 a2 W hab.1 hab.2)
          obtain ⟨g, cap, hv⟩ := GO6.out.some (by simp)
          rw [List.length_map] at hv
          subst hv
          have hgl := GO6.out.lt
          have hc := fun c v (hv : (stRow (a1, a2, a3))[c]? = some v) => GO6.out.cell (i := 0) (c := c) (r := stRow (a1, a2, a3)) (u := v) rfl hv
          have hc0 : w6.cell? ⟨g, 0, none⟩ = some (.int .u64 (a1 : Nat)) := by simpa using hc 0 _ rfl
          have hc1 : w6.cell? ⟨g, 1, none⟩ = some (.int .u64 (a2 : Nat)) := by simpa using hc 1 _ rfl
          have hx0 := Aft.cell K6.out
          have hx1 := fun x : Aft w6 => (Aft.old x hgl.2 0).trans hc0
          have hx2 := fun x : Aft w6 => (Aft.old x hgl.2 1).trans hc1
          obtain ⟨mx, hmx⟩ : ∃ m, many x1 x2 = m := ⟨_, rfl⟩
          obtain ⟨ma, hma⟩ : ∃ m, many a1 a2 = m := ⟨_, rfl⟩
          rw [hmx] at HM1
          rw [hma] at HM2
          have HMX := Lib.hid hmx
          have HMA := Lib.hid hma
          have hlen : (t.length : Int) + 1 > 0 := by omega
          have hLn3 : t.length + 1 + cnt1 + 1 ≤ cnt := by simpa using hLn2
          have hle0 : ((t.length : Int) + 1 == 0) = false := by simp; omega
          clear hx hab hc hc0 hc1 hmx hma
          go_wp2
          refine wp_region_aft (by kernel_rfl) (by kernel_rfl) ?_; (repeat (go_big_quiet_step ((first | (go_at_call 73; with_reducible exact aft_of (HM1.out _)) | (go_at_call 73; with_reducible exact aft_of (HM2.out _)))))); refine wpQuiet_nil ?_; rintro w7 ⟨⟨_, hb7⟩, rfl⟩
          have k7 := K6.out.below hb7 K6.out.lt
          have RG7 := Lib.hid (RG6.out.kept (grown_of_below hb7) (by simp) (by simp))
          have GO7 := Lib.hid (GO6.out.keptBy (grown_of_below hb7) (fun b e => by cases e))
          have HB7 := Lib.hid (HB6.out.trans (hb7.mono HB6.out.size))
          have hz7 := hb7.size
          have K7 := Lib.hid k7
          clear hx0 hx1 hx2 hb7 K6 RG6 GO6 HB6 k7
          have hgl7 := GO7.out.lt
          have hc := fun c v (hv : (stRow (a1, a2, a3))[c]? = some v) => GO7.out.cell (i := 0) (c := c) (r := stRow (a1, a2, a3)) (u := v) rfl hv
          have hc0 : w7.cell? ⟨g, 0, none⟩ = some (.int .u64 (a1 : Nat)) := by simpa using hc 0 _ rfl
          have hc1 : w7.cell? ⟨g, 1, none⟩ = some (.int .u64 (a2 : Nat)) := by simpa using hc 1 _ rfl
          have hx0 := Aft.cell K7.out
          have hx1 := fun x : Aft w7 => (Aft.old x hgl7.2 0).trans hc0
          have hx2 := fun x : Aft w7 => (Aft.old x hgl7.2 1).trans hc1
          clear hc hc0 hc1
          by_cases hlt : mx < ma
          · have GN : Hid (Gro w7 (w.heap.size + 1) 125 3 (.slice none 0 0) (List.map stRow [])) := Gro.nil _ _ _ _
            go_wp2
            refine wp_region_aft (by kernel_rfl) (by kernel_rfl) ?_; (repeat (go_big_quiet_step (fail))); refine wpQuiet_nil ?_; rintro w8 ⟨⟨_, hb8⟩, rfl⟩
            have k8 := K7.out.below hb8 K7.out.lt
            have RG8 := Lib.hid (RG7.out.kept (grown_of_below hb8) (by simp) (by simp))
            have GO8 := Lib.hid (GN.out.keptBy (grown_of_below hb8) (fun b e => by cases e))
            have HB8 := Lib.hid (HB7.out.trans (hb8.mono HB7.out.size))
            have hz8 := hb8.size
            clear hx0 hx1 hx2 hb8 K7 RG7 GO7 HB7 GN
            obtain ⟨lk, ck, gq⟩ := k8
            obtain ⟨V9, hV9⟩ : ∃ v, Value.slice none 0 0 = v := ⟨_, rfl⟩
            have GO9 := Lib.hid (show Gro w8 (w.heap.size + 1) 125 3 (.slice none 0 0) (List.map stRow []) from GO8.out)
            rw [hV9] at GO9
            conv in (occs := 2) (Value.slice none 0 0) => rw [hV9]
            clear hV9
            have hzW : w5.heap.size ≤ w8.heap.size := (by omega)
            go_wp2_with (at_builtin; refine wpList_append_own _ rfl _ _ 132 rfl (w.heap.size + 1) 125 i0 (.agg #[.int .u64 0, .int .u64 0, .int .i64 0]) 3 24 Try.underlying132 hi0 hi1 hi2 hi3 rfl (by decide) _ _ _ rfl (GO9.out.2.alloc _) ⟨w8.heap.size, 0, none⟩ 1 1 [.int .u64 (x1 : Nat), .int .u64 (x2 : Nat), .int .i64 x3] rfl rfl (cells_new3 _ _ _ _ _) (by intro u hu; simp at hu; rcases hu with rfl | rfl | rfl <;> rfl) (by unfold maxLen; (first | (simp; done) | (simp; omega))) (by (first | (simp; done) | (simp; omega))) (by simp; omega) ?_; intro v' w9 hown' hgrow hnil)
            have gW : w8.grownBy (w8.alloc (Obj.cells #[.int .u64 (x1 : Nat), .int .u64 (x2 : Nat), .int .i64 x3] 125)) none := World.grownBy_alloc _ _ _
            have hbk : ∀ b, Value.ownBlock V9 = some b → w.heap.size + 1 ≤ b := fun b hb => (GO9.out.2.lt b hb).1
            have q2 : Gro w9 (w.heap.size + 1) 125 3 v' (List.map stRow [] ++ [stRow (x1, x2, x3)]) := Gro.grown GO9.out rfl hown'
            have Q2 := Lib.hid q2
            have RG9 := Lib.hid ((RG8.out.kept gW (by simp) (by simp)).kept hgrow (fun e => by have := hbk _ e.symm; omega) (fun e => by have := hbk _ e.symm; omega))
            have HB9 := Lib.hid ((HB8.out.grown gW (by omega) (fun k e => by cases e)).grown hgrow (by simp; omega) (fun k e => by have := hbk _ e; omega))
            clear hown' hgrow hnil q2
            go_wp2
            go_roundg cnt1
            case measure => omega
            case rel =>
              refine ⟨fun z => left z && !decide (z = (x1, x2, x3)), [(x1, x2, x3)], _, rfl, RG9.out, ?_, hfi.out.new HX.out HFX.out HPT.out (Or.inr ⟨_, _, rfl, by unfold manyS; rw [HMX.out, HMA.out]; exact hlt⟩), ?_, HB9.out⟩
              · have q3 := Q2.out; show Gro _ _ _ _ _ _; simpa [List.map_append] using q3
              · have := hLn2; show _ ≤ _; simp at this ⊢; omega
          · have hge : ma ≤ mx := by omega
            by_cases heq : mx = ma
            · have heb : (mx == ma) = true := by simpa using heq
              clear hlt
              have HEQ := Lib.hid heq
              clear heq
              go_wp2
              refine wp_region_aft (by kernel_rfl) (by kernel_rfl) ?_; (repeat (go_big_quiet_step ((first | (go_at_call 73; with_reducible exact aft_of (HM1.out _)) | (go_at_call 73; with_reducible exact aft_of (HM2.out _)))))); refine wpQuiet_nil ?_; rintro w8 ⟨⟨_, hb8⟩, rfl⟩
              have k8 := K7.out.below hb8 K7.out.lt
              have RG8 := Lib.hid (RG7.out.kept (grown_of_below hb8) (by simp) (by simp))
              have GO8 := Lib.hid (GO7.out.keptBy (grown_of_below hb8) (fun b e => by cases e))
              have HB8 := Lib.hid (HB7.out.trans (hb8.mono HB7.out.size))
              have hz8 := hb8.size
              clear hx0 hx1 hx2 hb8 K7 RG7 GO7 HB7
              obtain ⟨lk, ck, gq⟩ := k8
              obtain ⟨V9, hV9⟩ : ∃ v, Value.slice (some ⟨g, 0, none⟩) (t.length + 1) cap = v := ⟨_, rfl⟩
              have GO9 := Lib.hid (show Gro w8 (w.heap.size + 1) 125 3 (.slice (some ⟨g, 0, none⟩) (t.length + 1) cap) (List.map stRow ((a1, a2, a3) :: t)) from GO8.out)
              rw [hV9] at GO9
              rw [hV9]
              clear hV9
              have hzW : w5.heap.size ≤ w8.heap.size := (by omega)
              go_wp2_with (at_builtin; refine wpList_append_own _ rfl _ _ 132 rfl (w.heap.size + 1) 125 i0 (.agg #[.int .u64 0, .int .u64 0, .int .i64 0]) 3 24 Try.underlying132 hi0 hi1 hi2 hi3 rfl (by decide) _ _ _ rfl (GO9.out.2.alloc _) ⟨w8.heap.size, 0, none⟩ 1 1 [.int .u64 (x1 : Nat), .int .u64 (x2 : Nat), .int .i64 x3] rfl rfl (cells_new3 _ _ _ _ _) (by intro u hu; simp at hu; rcases hu with rfl | rfl | rfl <;> rfl) (by unfold maxLen; (first | (simp; done) | (simp; omega))) (by (first | (simp; done) | (simp; omega))) (by simp; omega) ?_; intro v' w9 hown' hgrow hnil)
              have gW : w8.grownBy (w8.alloc (Obj.cells #[.int .u64 (x1 : Nat), .int .u64 (x2 : Nat), .int .i64 x3] 125)) none := World.grownBy_alloc _ _ _
              have hbk : ∀ b, Value.ownBlock V9 = some b → w.heap.size + 1 ≤ b := fun b hb => (GO9.out.2.lt b hb).1
              have q2 : Gro w9 (w.heap.size + 1) 125 3 v' (List.map stRow ((a1, a2, a3) :: t) ++ [stRow (x1, x2, x3)]) := Gro.grown GO9.out rfl hown'
              have Q2 := Lib.hid q2
              have RG9 := Lib.hid ((RG8.out.kept gW (by simp) (by simp)).kept hgrow (fun e => by have := hbk _ e.symm; omega) (fun e => by have := hbk _ e.symm; omega))
              have HB9 := Lib.hid ((HB8.out.grown gW (by omega) (fun k e => by cases e)).grown hgrow (by simp; omega) (fun k e => by have := hbk _ e; omega))
              clear hown' hgrow hnil q2
              go_wp2
              go_roundg cnt1
              case measure => omega
              case rel =>
                refine ⟨fun z => left z && !decide (z = (x1, x2, x3)), ((a1, a2, a3) :: (t ++ [(x1, x2, x3)])), _, rfl, RG9.out, ?_, hfi.out.more (by unfold manyS; rw [HMX.out, HMA.out]; exact hge) _, ?_, HB9.out⟩
                · have q3 := Q2.out; show Gro _ _ _ _ _ _; simpa [List.map_append] using q3
                · have := hLn2; show _ ≤ _; simp at this ⊢; omega
            · have heb : (mx == ma) = false := by simpa using heq
              clear heq hlt
              go_wp2
              refine wp_region_aft (by kernel_rfl) (by kernel_rfl) ?_; (repeat (go_big_quiet_step ((first | (go_at_call 73; with_reducible exact aft_of (HM1.out _)) | (go_at_call 73; with_reducible exact aft_of (HM2.out _)))))); refine wpQuiet_nil ?_; rintro w8 ⟨⟨_, hb8⟩, rfl⟩
              have RG8 := Lib.hid (RG7.out.kept (grown_of_below hb8) (by simp) (by simp))
              have GO8 := Lib.hid (GO7.out.keptBy (grown_of_below hb8) (fun b e => by cases e))
              have HB8 := Lib.hid (HB7.out.trans (hb8.mono HB7.out.size))
              clear hx0 hx1 hx2 hb8 K7 RG7 GO7 HB7
              go_wp2
              go_roundg cnt1
              case measure => omega
              case rel =>
                refine ⟨fun z => left z && !decide (z = (x1, x2, x3)), _, _, rfl, RG8.out, GO8.out, hfi.out.more (by unfold manyS; rw [HMX.out, HMA.out]; exact hge) t, ?_, HB8.out⟩
                have := hLn2; show _ ≤ _; omega
end Go.Proofs.Ytgmhelclofnpkaa
