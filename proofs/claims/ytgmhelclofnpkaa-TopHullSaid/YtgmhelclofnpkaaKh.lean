/- Walks: is a polygon valid, and its doubled area. -/
import Derived.Test.YtgmhelclofnpkaaKg
import Derived.Test.YtgmhelclofnpkaaKm
import Derived.Deep.LoopGhost
import Derived.Deep.DeepFit
namespace Go.Proofs.Ytgmhelclofnpkaa
open Go.RowKit Go.Maps

set_option maxHeartbeats 1000000 in
theorem ctwiceW (A : Option Addr) (n cap : Nat) (ps : List P2) (w : World) (hA : Rd 2 w A (ps.map ptrow)) (hn : Hid (n = ps.length)) (hlen : n ≤ 1000) (hP : Hid (ps.all Pl.isP = true)) :
    Calls Try.prog 37 #[.slice A n cap] w fun e w' => e = .returned (.int .i64 (Pl.area ps)) ∧ Below w.heap.size w w' := by
  have HA := Lib.hid hA
  clear hA
  go_enter Try.func37, Try.ntmps37
  go_wp2_with fail
  refine (csumW A n cap ps _ HA.out hn hlen hP).mono ?_
  rintro e w1 ⟨rfl, hb1⟩
  go_wp2
  go_ret
  exact ⟨rfl, hb1⟩
/-- How often each of the first k corners is there, as long as none is there twice. -/
def seenF (ps : List P2) (k : Nat) : P2 → Option Int := fun p => if (ps.take k).contains p = true then some 1 else none
theorem seenF_get (ps : List P2) (k : Nat) (p : P2) : (seenF ps k p).getD 0 = if (ps.take k).contains p = true then 1 else 0 := by
  unfold seenF; split <;> rfl
theorem seenF_put {ps : List P2} {k : Nat} (hk : k < ps.length) (q : P2) : updP (seenF ps k) (Pl.at' ps k) 1 q = seenF ps (k + 1) q := by
  have e : (ps.take (k + 1)).contains q = ((ps.take k).contains q || decide (q = Pl.at' ps k)) := by
    rw [take_snoc (at_get hk), Bool.eq_iff_iff]
    simp
  unfold updP seenF
  rw [e]
  by_cases h : q = Pl.at' ps k
  · simp [h]
  · simp [h]
set_option maxRecDepth 100000 in
set_option maxHeartbeats 8000000 in
theorem ccheckW (A : Option Addr) (n cap : Nat) (ps : List P2) (w : World) (hA : Rd 2 w A (ps.map ptrow)) (hn : Hid (n = ps.length)) (hlen : n ≤ 9223372036854775807) :
    Calls Try.prog 36 #[.slice A n cap] w fun e w' => e = .returned (.int .i64 (if Pl.ok ps = true then 0 else 20)) ∧ Below w.heap.size w w' := by
  have HA := Lib.hid hA
  clear hA
  have hmm := @run_makeMap Try.prog
  obtain ⟨R, hR⟩ : ∃ R : Int, (if Pl.ok ps = true then 0 else 20) = R := ⟨_, rfl⟩
  rw [hR]
  have HR := Lib.hid hR
  clear hR
  cases h0 : btw n 3 10
  · have hr : Hid (R = 20) := by
      have : Pl.ok ps = false := by unfold Pl.ok; rw [← hn.out, h0]; rfl
      show R = 20
      rw [← HR.out, this]; rfl
    have H0 := Lib.hid h0
    clear h0
    go_enter Try.func36, Try.ntmps36
    go_wp2_with fail
    refine (cwithin _ _ _ _).mono ?_
    rw [H0.out]
    rintro e w1 ⟨rfl, rfl⟩
    go_wp2
    go_ret
    exact ⟨ret_int hr.out.symm, by (repeat' (first | (with_reducible exact Below.refl _ _) | (with_reducible assumption) | (with_reducible refine Below.drew ?_) | (with_reducible refine below_drewN ?_ _) | (with_reducible refine Below.setCell ?_ ?_ _) | (with_reducible refine Below.alloc ?_ ?_ _) | (refine Below.trans ?_ (Below.mono (by with_reducible assumption) ?_)) | omega | (exact Below.size (by with_reducible assumption)) | (simp; done) | (simp; omega)))⟩
  · have hb := btw_iff.1 h0
    have H0 := Lib.hid h0
    cases h1 : ps.any (fun p => !Pl.isP p)
    · have hP : Hid (ps.all Pl.isP = true) := by
        show _ = _
        rw [List.all_eq_true]
        intro p hp
        have := List.any_eq_false.1 h1 p hp
        simpa using this
      have H1 := Lib.hid h1
      clear h0 h1
      go_enter Try.func36, Try.ntmps36
      go_wp2_with fail
      refine (cwithin _ _ _ _).mono ?_
      rw [H0.out]
      rintro e w1 ⟨rfl, rfl⟩
      go_wp2_with fail
      refine (cfPt A ps n cap _ HA.out hn hlen).mono ?_
      rw [H1.out]
      rintro e w1 ⟨rfl, hb1⟩
      have hz1 := hb1.size
      have hmade := MapP.made w1
      go_wp2
      go_loopg [17] n (fun K v wr => ∃ k : Nat, K + k = n ∧ v = .int .i64 k ∧ Hid (∀ i, i < k → (ps.take i).contains (Pl.at' ps i) = false) ∧ MapP wr w1.heap.size k (seenF ps k) ∧ Below w.heap.size w wr)
      case atStart => exact ⟨0, rfl, rfl, (fun i hi => by omega), hmade.cast (fun p _ _ => by unfold seenF; simp), by (repeat' (first | (with_reducible exact Below.refl _ _) | (with_reducible assumption) | (with_reducible refine Below.drew ?_) | (with_reducible refine below_drewN ?_ _) | (with_reducible refine Below.setCell ?_ ?_ _) | (with_reducible refine Below.alloc ?_ ?_ _) | (refine Below.trans ?_ (Below.mono (by with_reducible assumption) ?_)) | omega | (exact Below.size (by with_reducible assumption)) | (simp; done) | (simp; omega)))⟩
      case round =>
        obtain ⟨k, hK, rfl, hno, hM, hbw⟩ := hrel
        by_cases hlt : k < n
        · have hkl : k < ps.length := by have := hn.out; omega
          obtain ⟨b, off, rfl, hbb, hc0, hc1⟩ := rd_p2 (HA.out.below hbw (Nat.le_refl _)) (at_get hkl)
          have hip := Pl.isP_iff.1 (Pl.at_isP hP.out hkl)
          have wx : (Lit.int .i64 (Pl.at' ps k).1).wf = true := Go.WalkArith.wf_i64 (by omega)
          have wy : (Lit.int .i64 (Pl.at' ps k).2).wf = true := Go.WalkArith.wf_i64 (by omega)
          obtain ⟨v, hv⟩ : ∃ v, (seenF ps k (Pl.at' ps k)).getD 0 = v := ⟨_, rfl⟩
          have hv2 : v = 0 ∨ v = 1 := by rw [← hv, seenF_get]; split <;> omega
          have hwv : IntKind.i64.wrap (v + 1) = v + 1 := IntWalk.i64_in _ (by omega)
          have hzr := hbw.size
          have hml := hM.lt
          have O0 : Own (wr.alloc (.cells #[.int .i64 (Pl.at' ps k).1, .int .i64 (Pl.at' ps k).2] 53)).drew wr.heap.size [.int .i64 (Pl.at' ps k).1, .int .i64 (Pl.at' ps k).2] := (Own.new' _ _ rfl rfl).drew
          have B0 : Below wr.heap.size wr (wr.alloc (.cells #[.int .i64 (Pl.at' ps k).1, .int .i64 (Pl.at' ps k).2] 53)).drew := ((Below.refl _ wr).alloc (Nat.le_refl _) _).drew
          have M0 : MapP (wr.alloc (.cells #[.int .i64 (Pl.at' ps k).1, .int .i64 (Pl.at' ps k).2] 53)).drew w1.heap.size k (seenF ps k) := hM.below B0 hml
          go_wp2
          refine rg_start (fun W => Own W wr.heap.size [.int .i64 (Pl.at' ps k).1, .int .i64 (Pl.at' ps k).2]) 7 (by kernel_rfl) rfl ?_
          generalize (wr.alloc (.cells #[.int .i64 (Pl.at' ps k).1, .int .i64 (Pl.at' ps k).2] 53)).drew = R0 at O0 B0 M0 ⊢
          obtain ⟨v0, st, W1, hrun, hM1, hg1, hs1, hst⟩ := M0.entry (by omega) (p := Pl.at' ps k) wx wy
          have hl0 := M0.look (p := Pl.at' ps k) wx wy
          have hl1 := hM1.look (p := Pl.at' ps k) wx wy
          have e1 : (updP (seenF ps k) (Pl.at' ps k) ((seenF ps k (Pl.at' ps k)).getD 0) (Pl.at' ps k)).getD 0 = v := by
            unfold updP; rw [if_pos rfl]; exact hv
          rw [e1] at hl1
          rw [hv] at hl0
          clear e1
          have O1 := O0.grown hg1 (fun e => by have := Option.some.inj e; omega)
          have B1 : Below w1.heap.size wr W1 := (B0.mono (by omega)).grown hg1 (by have := B0.size; omega) (fun j e => by have := Option.some.inj e; omega)
          refine rg_take (fuel := 5) [0, 1] (by kernel_rfl) (by intro _ _ d _ _ h; cases d <;> exact h) rfl (by kernel_rfl) (by kernel_rfl) O0 ?_
          simp only [pickL, pick1, List.cons_append, List.nil_append]
          iterate 2 (refine wpTake_cons (v := ?_) (Or.inl ⟨by rfl, ?_⟩) ?_; rotate_left; (intro w' hSw; have yo := hSw.c; clear hSw; go_simp; (try with_reducible rfl)); (try simp only [Act.put, List.setIfInBounds_toArray, List.set_cons_zero, List.set_cons_succ]))
          refine wpTake_nil ?_
          refine rg_two (fuel := 4) 2 4 rfl (by kernel_rfl) (by kernel_rfl) ?_ ?_ <;> simp only [pick1, wpHead]
          · intro K' hK
            rw [if_pos (by rfl)]
            go_simp
            refine hK.out _ _ O0 ?_
            clear hK K'
            (try simp only [Act.put, List.setIfInBounds_toArray, List.set_cons_zero, List.set_cons_succ])
            refine rg_take (fuel := 3) [3] (by kernel_rfl) (by intro _ _ d _ _ h; cases d <;> exact h) rfl (by kernel_rfl) (by kernel_rfl) O0 ?_
            simp only [pickL, pick1, List.cons_append, List.nil_append]
            (refine wpTake_cons (v := ?_) (Or.inl ⟨by rfl, ?_⟩) ?_; rotate_left; (intro w' hSw; have yo := hSw.c; clear hSw; go_simp; (try with_reducible rfl)); (try simp only [Act.put, List.setIfInBounds_toArray, List.set_cons_zero, List.set_cons_succ]))
            refine wpTake_nil ?_
            refine rg_one (fuel := 2) 4 rfl (by kernel_rfl) (by kernel_rfl) ?_; simp only [pick1, wpHead]
            intro K' hK
            rw [if_pos (by rfl)]
            go_simp
            refine hK.out _ _ O1 ?_
            clear hK K'
            (try simp only [Act.put, List.setIfInBounds_toArray, List.set_cons_zero, List.set_cons_succ])
            refine rg_take (fuel := 1) [5] (by kernel_rfl) (by intro _ _ d _ _ h; cases d <;> exact h) rfl (by kernel_rfl) (by kernel_rfl) O1 ?_
            simp only [pickL, pick1, List.cons_append, List.nil_append]
            (refine wpTake_cons (v := ?_) (Or.inl ⟨by rfl, ?_⟩) ?_; rotate_left; (intro w' hSw; have yo := hSw.c; clear hSw; go_simp; (try with_reducible rfl)); (try simp only [Act.put, List.setIfInBounds_toArray, List.set_cons_zero, List.set_cons_succ]))
            refine wpTake_nil ?_
            obtain ⟨W3, hrun3, hM3, hg3, hs3⟩ := hst W1 (v + 1) (Go.WalkArith.wf_i64 (by omega)) rfl
            refine rg_one (fuel := 0) 6 rfl (by kernel_rfl) (by kernel_rfl) ?_; simp only [pick1, wpHead]
            intro K' hK
            rw [if_pos (by rfl)]
            go_simp
            refine hK.out _ _ (O1.grown hg3 (fun e => by have := Option.some.inj e; omega)) ?_
            clear hK K'
            refine rg_done (by kernel_rfl) ?_
            have hl3 := hM3.look (p := Pl.at' ps k) wx wy
            have e3 : (updP (seenF ps k) (Pl.at' ps k) (v + 1) (Pl.at' ps k)).getD 0 = v + 1 := by unfold updP; rw [if_pos rfl]; rfl
            rw [e3] at hl3
            clear e3
            have B3 : Below w1.heap.size wr W3 := B1.grown hg3 (by have := B1.size; omega) (fun j e => by have := Option.some.inj e; omega)
            have B4 : Below w.heap.size w W3 := hbw.trans (B3.mono hz1)
            have O3 := (O1.grown hg3 (fun e => by have := Option.some.inj e; omega)).c
            clear hl0 hl1 hrun hrun3 hst hM1 hg1 hs1 M0 hc0 hc1 hg3 hs3 O0 O1 B0
            cases hcon : (ps.take k).contains (Pl.at' ps k)
            · have hv0 : v = 0 := by rw [← hv, seenF_get, hcon]; rfl
              subst hv0
              have hM4 : MapP W3 w1.heap.size (k + 1) (seenF ps (k + 1)) := hM3.cast (fun q _ _ => by rw [Int.zero_add]; exact seenF_put hkl q)
              have hno4 : Hid (∀ i, i < k + 1 → (ps.take i).contains (Pl.at' ps i) = false) := fun i hi => by
                by_cases e : i = k
                · rw [e]; exact hcon
                · exact hno.out i (by omega)
              clear hM3 hcon hv hno
              go_wp2
              go_roundg (n - (k + 1))
              case measure => omega
              case rel => exact ⟨k + 1, by omega, by go_num, hno4, hM4, B4⟩
            · have hv1 : v = 1 := by rw [← hv, seenF_get, hcon]; rfl
              subst hv1
              have hr : Hid (R = 20) := by
                have h2 : Pl.dup ps = true := List.any_eq_true.2 ⟨k, List.mem_range.2 hkl, hcon⟩
                have : Pl.ok ps = false := by unfold Pl.ok; rw [h2]; simp
                show R = 20
                rw [← HR.out, this]; rfl
              clear hM3 hcon hv hno
              go_wp2
              go_ret
              exact ⟨ret_int hr.out.symm, B4⟩
          · intro K' hK
            rw [if_pos (by rfl)]
            go_simp
            refine hK.out _ _ O1 ?_
            clear hK K'
            (try simp only [Act.put, List.setIfInBounds_toArray, List.set_cons_zero, List.set_cons_succ])
            refine rg_take (fuel := 3) [5] (by kernel_rfl) (by intro _ _ d _ _ h; cases d <;> exact h) rfl (by kernel_rfl) (by kernel_rfl) O1 ?_
            simp only [pickL, pick1, List.cons_append, List.nil_append]
            (refine wpTake_cons (v := ?_) (Or.inl ⟨by rfl, ?_⟩) ?_; rotate_left; (intro w' hSw; have yo := hSw.c; clear hSw; go_simp; (try with_reducible rfl)); (try simp only [Act.put, List.setIfInBounds_toArray, List.set_cons_zero, List.set_cons_succ]))
            refine wpTake_nil ?_
            refine rg_one (fuel := 2) 2 rfl (by kernel_rfl) (by kernel_rfl) ?_; simp only [pick1, wpHead]
            intro K' hK
            rw [if_pos (by rfl)]
            go_simp
            refine hK.out _ _ O1 ?_
            clear hK K'
            (try simp only [Act.put, List.setIfInBounds_toArray, List.set_cons_zero, List.set_cons_succ])
            refine rg_take (fuel := 1) [3] (by kernel_rfl) (by intro _ _ d _ _ h; cases d <;> exact h) rfl (by kernel_rfl) (by kernel_rfl) O1 ?_
            simp only [pickL, pick1, List.cons_append, List.nil_append]
            (refine wpTake_cons (v := ?_) (Or.inl ⟨by rfl, ?_⟩) ?_; rotate_left; (intro w' hSw; have yo := hSw.c; clear hSw; go_simp; (try with_reducible rfl)); (try simp only [Act.put, List.setIfInBounds_toArray, List.set_cons_zero, List.set_cons_succ]))
            refine wpTake_nil ?_
            obtain ⟨W3, hrun3, hM3, hg3, hs3⟩ := hst W1 (v + 1) (Go.WalkArith.wf_i64 (by omega)) rfl
            refine rg_one (fuel := 0) 6 rfl (by kernel_rfl) (by kernel_rfl) ?_; simp only [pick1, wpHead]
            intro K' hK
            rw [if_pos (by rfl)]
            go_simp
            refine hK.out _ _ (O1.grown hg3 (fun e => by have := Option.some.inj e; omega)) ?_
            clear hK K'
            refine rg_done (by kernel_rfl) ?_
            have hl3 := hM3.look (p := Pl.at' ps k) wx wy
            have e3 : (updP (seenF ps k) (Pl.at' ps k) (v + 1) (Pl.at' ps k)).getD 0 = v + 1 := by unfold updP; rw [if_pos rfl]; rfl
            rw [e3] at hl3
            clear e3
            have B3 : Below w1.heap.size wr W3 := B1.grown hg3 (by have := B1.size; omega) (fun j e => by have := Option.some.inj e; omega)
            have B4 : Below w.heap.size w W3 := hbw.trans (B3.mono hz1)
            have O3 := (O1.grown hg3 (fun e => by have := Option.some.inj e; omega)).c
            clear hl0 hl1 hrun hrun3 hst hM1 hg1 hs1 M0 hc0 hc1 hg3 hs3 O0 O1 B0
            cases hcon : (ps.take k).contains (Pl.at' ps k)
            · have hv0 : v = 0 := by rw [← hv, seenF_get, hcon]; rfl
              subst hv0
              have hM4 : MapP W3 w1.heap.size (k + 1) (seenF ps (k + 1)) := hM3.cast (fun q _ _ => by rw [Int.zero_add]; exact seenF_put hkl q)
              have hno4 : Hid (∀ i, i < k + 1 → (ps.take i).contains (Pl.at' ps i) = false) := fun i hi => by
                by_cases e : i = k
                · rw [e]; exact hcon
                · exact hno.out i (by omega)
              clear hM3 hcon hv hno
              go_wp2
              go_roundg (n - (k + 1))
              case measure => omega
              case rel => exact ⟨k + 1, by omega, by go_num, hno4, hM4, B4⟩
            · have hv1 : v = 1 := by rw [← hv, seenF_get, hcon]; rfl
              subst hv1
              have hr : Hid (R = 20) := by
                have h2 : Pl.dup ps = true := List.any_eq_true.2 ⟨k, List.mem_range.2 hkl, hcon⟩
                have : Pl.ok ps = false := by unfold Pl.ok; rw [h2]; simp
                show R = 20
                rw [← HR.out, this]; rfl
              clear hM3 hcon hv hno
              go_wp2
              go_ret
              exact ⟨ret_int hr.out.symm, B4⟩
        · obtain rfl : k = n := by omega
          have hd : Pl.dup ps = false := by
            unfold Pl.dup
            rw [List.any_eq_false]
            intro i hi
            have := hno.out i (by have := hn.out; have := List.mem_range.1 hi; omega)
            rw [this]; simp
          have HD := Lib.hid hd
          clear hd hno hM
          have HR2 : Hid (∀ b, Pl.simple ps = b → R = if b = true then 0 else 20) := fun b e => by
            have : Pl.ok ps = b := by
              unfold Pl.ok
              rw [HD.out, hP.out, e, ← hn.out, H0.out]
              cases b <;> rfl
            rw [← HR.out, this]
          clear hlt hb hK
          cases hs : Pl.simple ps
          · have HS := Lib.hid hs
            have HR3 := Lib.hid (HR2.out _ hs)
            clear hs
            go_wp2_with fail
            refine (isSimpleW A k cap ps _ (HA.out.below hbw (Nat.le_refl _)) hn (by have := btw_iff.1 H0.out; omega) hP).mono ?_
            rw [HS.out]
            rintro e w2 ⟨rfl, hb2⟩
            go_wp2
            go_ret
            exact ⟨ret_int HR3.out.symm, hbw.trans (hb2.mono hbw.size)⟩
          · have HS := Lib.hid hs
            have HR3 := Lib.hid (HR2.out _ hs)
            clear hs
            go_wp2_with fail
            refine (isSimpleW A k cap ps _ (HA.out.below hbw (Nat.le_refl _)) hn (by have := btw_iff.1 H0.out; omega) hP).mono ?_
            rw [HS.out]
            rintro e w2 ⟨rfl, hb2⟩
            go_wp2
            go_ret
            exact ⟨ret_int HR3.out.symm, hbw.trans (hb2.mono hbw.size)⟩
    · have hr : Hid (R = 20) := by
        have h2 : ps.all Pl.isP = false := by
          rw [List.all_eq_false]
          obtain ⟨p, hp, h⟩ := List.any_eq_true.1 h1
          exact ⟨p, hp, by simpa using h⟩
        have : Pl.ok ps = false := by unfold Pl.ok; rw [← hn.out, h0, h2]; rfl
        show R = 20
        rw [← HR.out, this]; rfl
      have H1 := Lib.hid h1
      clear h0 h1
      go_enter Try.func36, Try.ntmps36
      go_wp2_with fail
      refine (cwithin _ _ _ _).mono ?_
      rw [H0.out]
      rintro e w1 ⟨rfl, rfl⟩
      go_wp2_with fail
      refine (cfPt A ps n cap _ HA.out hn hlen).mono ?_
      rw [H1.out]
      rintro e w1 ⟨rfl, hb1⟩
      go_wp2
      go_ret
      exact ⟨ret_int hr.out.symm, hb1⟩
set_option maxHeartbeats 1000000 in
theorem ctwW (A : Option Addr) (n cap : Nat) (ps : List P2) (w : World) (hA : Rd 2 w A (ps.map ptrow)) (hn : Hid (n = ps.length)) (hlen : n ≤ 9223372036854775807) :
    Calls Try.prog 10 #[.slice A n cap] w fun e w' => e = .returned (.tuple #[.int .i64 (if Pl.ok ps = true then Pl.area ps else 0), .int .i64 (if Pl.ok ps = true then 0 else 20)]) ∧ Below w.heap.size w w' := by
  have HA := Lib.hid hA
  clear hA
  cases hok : Pl.ok ps
  · have HO := Lib.hid hok
    clear hok
    go_enter Try.func10, Try.ntmps10
    go_wp2_with fail
    refine (ccheckW A n cap ps w HA.out hn hlen).mono ?_
    rw [HO.out]
    rintro e w1 ⟨rfl, hb1⟩
    go_wp2
    go_ret2
    exact ⟨rfl, hb1⟩
  · have h4 : (3 ≤ n ∧ n ≤ 10) ∧ ps.all Pl.isP = true := by
      unfold Pl.ok at hok
      rw [Bool.and_eq_true, Bool.and_eq_true] at hok
      have := btw_iff.1 hok.1.1
      have := hn.out
      exact ⟨by omega, hok.1.2⟩
    have hP : Hid (ps.all Pl.isP = true) := h4.2
    have h5 : n ≤ 1000 := by omega
    have HO := Lib.hid hok
    clear hok h4
    go_enter Try.func10, Try.ntmps10
    go_wp2_with fail
    refine (ccheckW A n cap ps w HA.out hn hlen).mono ?_
    rw [HO.out]
    rintro e w1 ⟨rfl, hb1⟩
    go_wp2_with fail
    refine (ctwiceW A n cap ps _ (HA.out.below hb1 (Nat.le_refl _)) hn h5 hP).mono ?_
    rintro e w2 ⟨rfl, hb2⟩
    go_wp2
    go_ret2
    exact ⟨rfl, hb1.trans (hb2.mono hb1.size)⟩
end Go.Proofs.Ytgmhelclofnpkaa
