/- Walks: TopRound of the program. -/
import Derived.Test.YtgmhelclofnpkaaQq
import Derived.Test.YtgmhelclofnpkaaQc
import Derived.Test.YtgmhelclofnpkaaGb
namespace Go.Proofs.Ytgmhelclofnpkaa
open Go.RowKit Go.Maps

set_option maxHeartbeats 400000 in
theorem farW (A : Option Addr) (n cap : Nat) (w : World) : Calls Try.prog 7 #[.slice A n cap] w fun e w' => e = .returned (.bool (decide (40 < n))) ∧ w = w' := by
  go_enter Try.func7, Try.ntmps7
  go_wp2
  go_ret
  exact ⟨ret_bool (by (first | rfl | (rw [Bool.eq_iff_iff]; simp; done) | (rw [Bool.eq_iff_iff]; simp; omega))), rfl⟩
section
attribute [local go_sem ↓] mn2_run mx2_run
set_option maxRecDepth 100000 in
set_option maxHeartbeats 4000000 in
theorem roundW (A : Option Addr) (ps : List P2) (n cap : Nat) (full sk f s : Int) (w : World) (hA : Rd 2 w A (ps.map ptrow)) (hn : Hid (n = ps.length)) (hlen : n ≤ 9223372036854775807) :
    Calls Try.prog 3 #[.slice A n cap, .agg #[.int .i64 full, .int .i64 sk, .int .i64 f, .int .i64 s]] w fun e w' => e = .returned (.bool true) ∧ Below w.heap.size w w' := by
  have HA := Lib.hid hA
  clear hA
  have o0 : Own (w.alloc (.cells #[.int .i64 full, .int .i64 sk, .int .i64 f, .int .i64 s] 24)) w.heap.size [.int .i64 full, .int .i64 sk, .int .i64 f, .int .i64 s] := Own.new' _ _ rfl rfl
  have oB : Below w.heap.size w (w.alloc (.cells #[.int .i64 full, .int .i64 sk, .int .i64 f, .int .i64 s] 24)) := by (repeat' (first | (with_reducible exact Below.refl _ _) | (with_reducible assumption) | (with_reducible refine Below.drew ?_) | (with_reducible refine below_drewN ?_ _) | (with_reducible refine Below.setCell ?_ ?_ _) | (with_reducible refine Below.alloc ?_ ?_ _) | (refine Below.trans ?_ (Below.mono (by with_reducible assumption) ?_)) | omega | (exact Below.size (by with_reducible assumption)) | (simp; done) | (simp; omega)))
  by_cases h40 : 40 < n
  · have hd : decide (40 < n) = true := decide_eq_true h40
    go_enter Try.func3, Try.ntmps3
    go_wp2_with fail
    refine (cPB hd (farW _ _ _ _)).mono ?_
    rintro e w1 ⟨rfl, rfl⟩
    go_wp2_with fail
    refine (dialledW _).mono ?_
    rintro e w2 ⟨rfl, hb2⟩
    go_wp2
    go_ret
    exact ⟨rfl, oB.trans (hb2.mono oB.size)⟩
  · have hd : decide (40 < n) = false := decide_eq_false h40
    have HD := Lib.hid hd
    clear hd
    go_enter Try.func3, Try.ntmps3
    go_wp2_with fail
    refine (cPB HD.out (farW _ _ _ _)).mono ?_
    rintro e w1 ⟨rfl, rfl⟩
    go_wp2_with fail
    refine (rCheckW A ps n cap _ (HA.out.below oB (Nat.le_refl _)) hn hlen).mono ?_
    rintro e w2 ⟨v, rfl, hv, hb2⟩
    have o2 := o0.below hb2 o0.lt
    have hB2 := oB.trans (hb2.mono oB.size)
    clear o0 oB hb2
    have O2 := Lib.hid o2
    obtain ⟨l0, c0, g0⟩ := o2
    by_cases hv0 : v = 0
    · have hok := Lib.hid (hv.out hv0)
      have hvb : (v != 0) = false := by simp [hv0]
      clear hv hv0
      by_cases hf1 : full < 60
      · go_wp2_with fail
        refine (dialledW _).mono ?_
        rintro e w3 ⟨rfl, hb3⟩
        go_wp2
        go_ret
        exact ⟨rfl, hB2.trans (hb3.mono hB2.size)⟩
      · by_cases hf2 : 10000 < full
        · go_wp2_with fail
          refine (dialledW _).mono ?_
          rintro e w3 ⟨rfl, hb3⟩
          go_wp2
          go_ret
          exact ⟨rfl, hB2.trans (hb3.mono hB2.size)⟩
        · by_cases hs1 : sk < -4
          · go_wp2_with fail
            refine (dialledW _).mono ?_
            rintro e w3 ⟨rfl, hb3⟩
            go_wp2
            go_ret
            exact ⟨rfl, hB2.trans (hb3.mono hB2.size)⟩
          · by_cases hs2 : 4 < sk
            · go_wp2_with fail
              refine (dialledW _).mono ?_
              rintro e w3 ⟨rfl, hb3⟩
              go_wp2
              go_ret
              exact ⟨rfl, hB2.trans (hb3.mono hB2.size)⟩
            · by_cases hq1 : f < 0
              · go_wp2_with fail
                refine (dialledW _).mono ?_
                rintro e w3 ⟨rfl, hb3⟩
                go_wp2
                go_ret
                exact ⟨rfl, hB2.trans (hb3.mono hB2.size)⟩
              · by_cases hq2 : full ≤ f
                · go_wp2_with fail
                  refine (dialledW _).mono ?_
                  rintro e w3 ⟨rfl, hb3⟩
                  go_wp2
                  go_ret
                  exact ⟨rfl, hB2.trans (hb3.mono hB2.size)⟩
                · by_cases hr1 : s < 0
                  · go_wp2_with fail
                    refine (dialledW _).mono ?_
                    rintro e w3 ⟨rfl, hb3⟩
                    go_wp2
                    go_ret
                    exact ⟨rfl, hB2.trans (hb3.mono hB2.size)⟩
                  · by_cases hr2 : full ≤ s
                    · go_wp2_with fail
                      refine (dialledW _).mono ?_
                      rintro e w3 ⟨rfl, hb3⟩
                      go_wp2
                      go_ret
                      exact ⟨rfl, hB2.trans (hb3.mono hB2.size)⟩
                    · obtain ⟨N, hN⟩ : ∃ N, Pl.area ps = N := ⟨_, rfl⟩
                      have hN0 : N ≠ 0 := by rw [← hN]; exact Pl.area_ne hok.out
                      have hNbd : -800000 ≤ N ∧ N ≤ 800000 := by
                        obtain ⟨q1, q2, _⟩ := Pl.ok_parts hok.out
                        have := Pl.sumTo_bd q2 ps.length (Nat.le_refl _)
                        unfold Pl.area at hN
                        omega
                      have hNb : (N == 0) = false := by simpa using hN0
                      have HT := Lib.hid (fun W (k : Rd 2 W A (ps.map ptrow)) => cTup (show (if Pl.ok ps = true then Pl.area ps else 0) = N by rw [hok.out]; exact hN) (show (if Pl.ok ps = true then (0 : Int) else 20) = 0 by rw [hok.out]; rfl) (ctwW A n cap ps W k hn (by omega)))
                      clear hN
                      go_wp2_with fail
                      refine (HT.out _ (HA.out.below hB2 (Nat.le_refl _))).mono ?_
                      rintro e w3 ⟨rfl, hb3⟩
                      have o3 := O2.out.below hb3 O2.out.lt
                      have hB3 := hB2.trans (hb3.mono hB2.size)
                      clear hb3 O2 l0 c0 g0 hB2 HT
                      have O3 := Lib.hid o3
                      obtain ⟨l0, c0, g0⟩ := o3
                      have hw0 : IntKind.i64.wrap (-N) = -N := IntWalk.i64_in _ (by omega)
                      obtain ⟨a, ha⟩ : ∃ a, max N (-N) = a := ⟨_, rfl⟩
                      have ha0 : 0 < a ∧ a ≤ 800000 := by omega
                      by_cases hbig : 9999 < a
                      · go_wp2_with fail
                        refine (dialledW _).mono ?_
                        rintro e w4 ⟨rfl, hb4⟩
                        go_wp2
                        go_ret
                        exact ⟨rfl, hB3.trans (hb4.mono hB3.size)⟩
                      · have hR : Wl.RdH full a sk f s := ⟨by omega, by omega, by omega, by omega, by omega⟩
                        have hw1 : IntKind.i64.wrap (a - 10) = a - 10 := IntWalk.i64_in _ (by omega)
                        have hw2 : IntKind.i64.wrap (a + 10) = a + 10 := IntWalk.i64_in _ (by omega)
                        have hw3 : IntKind.i64.wrap (f + a) = f + a := IntWalk.i64_in _ (by omega)
                        have hw4 : IntKind.i64.wrap (f + a + sk) = f + a + sk := IntWalk.i64_in _ (by omega)
                        have hw5 : IntKind.i64.wrap (f + a + sk + full) = f + a + sk + full := IntWalk.i64_in _ (by omega)
                        have hw6 : IntKind.i64.wrap (s + a) = s + a := IntWalk.i64_in _ (by omega)
                        have hw7 : IntKind.i64.wrap (s + a - sk) = s + a - sk := IntWalk.i64_in _ (by omega)
                        have hw8 : IntKind.i64.wrap (s + a - sk + full) = s + a - sk + full := IntWalk.i64_in _ (by omega)
                        have hf0 : ¬ full = 0 := by omega
                        have m1 := Int.lt_tmod_of_pos (f + a + sk + full) (show 0 < full by omega)
                        have m2 := Int.tmod_lt_of_pos (f + a + sk + full) (show 0 < full by omega)
                        have m3 := Int.lt_tmod_of_pos (s + a - sk + full) (show 0 < full by omega)
                        have m4 := Int.tmod_lt_of_pos (s + a - sk + full) (show 0 < full by omega)
                        have hw9 : IntKind.i64.wrap ((f + a + sk + full).tmod full) = (f + a + sk + full).tmod full := IntWalk.i64_in _ (by omega)
                        have hw10 : IntKind.i64.wrap ((s + a - sk + full).tmod full) = (s + a - sk + full).tmod full := IntWalk.i64_in _ (by omega)
                        clear m1 m2 m3 m4
                        have HR := Lib.hid hR
                        clear hR
                        have P4 : Own (w3.alloc (.cells #[.int .i64 full, .int .i64 0, .int .i64 0, .int .i64 4, .int .i64 0, .int .i64 (max 0 (a - 10)), .int .i64 (min 9999 (a + 10)), .int .i64 0] 34)).drew w3.heap.size (whC (Wl.rdW full a)) := (Own.new' _ _ rfl rfl).drew
                        have o4 := (O3.out.alloc (.cells #[.int .i64 full, .int .i64 0, .int .i64 0, .int .i64 4, .int .i64 0, .int .i64 (max 0 (a - 10)), .int .i64 (min 9999 (a + 10)), .int .i64 0] 34)).drew
                        have hB4 := (hB3.alloc hB3.size (.cells #[.int .i64 full, .int .i64 0, .int .i64 0, .int .i64 4, .int .i64 0, .int .i64 (max 0 (a - 10)), .int .i64 (min 9999 (a + 10)), .int .i64 0] 34)).drew
                        go_wp2
                        refine rg_start (fun W => Own W w.heap.size [.int .i64 full, .int .i64 sk, .int .i64 f, .int .i64 s]) 34 (by kernel_rfl) rfl ?_
                        generalize World.drew _ = R0 at P4 o4 hB4 ⊢
                        refine rg_take (fuel := 2) [0, 1, 2, 3, 4, 5, 6, 7, 8, 9, 10, 11, 12, 13, 14, 15, 16, 17, 18, 19, 20, 21, 22, 23, 24, 25, 26, 27, 28, 29, 30, 31] (by kernel_rfl) (by intro _ _ d _ _ h; first | (cases d <;> exact h) | (simp [Exit.then, Exit.inBlock, ownPostG] at h)) rfl (by kernel_rfl) (by kernel_rfl) o4 ?_; simp only [pickL, pick1, List.cons_append, List.nil_append]
                        iterate 32 (refine wpTake_cons (v := ?_) (Or.inl ⟨by rfl, ?_⟩) ?_; rotate_left; (intro w' hSw; have yc := hSw.c; clear hSw; go_simp; (try with_reducible rfl)); (try simp only [Act.put, List.setIfInBounds_toArray, List.set_cons_zero, List.set_cons_succ]))
                        refine wpTake_nil ?_
                        refine rg_one (fuel := 1) 32 rfl (by kernel_rfl) (by kernel_rfl) ?_; simp only [pick1, wpHead]
                        intro K' hK; rw [if_pos (by rfl)]; go_simp
                        have p5 := P4.alloc (.cells #[.int .i64 1, .int .i64 1, .int .i64 0, .int .i64 f, .int .i64 ((f + a + sk + full).tmod full), .int .i64 1, .int .i64 (-1), .int .i64 0, .int .i64 s, .int .i64 ((s + a - sk + full).tmod full)] 36)
                        have o5 := o4.alloc (.cells #[.int .i64 1, .int .i64 1, .int .i64 0, .int .i64 f, .int .i64 ((f + a + sk + full).tmod full), .int .i64 1, .int .i64 (-1), .int .i64 0, .int .i64 s, .int .i64 ((s + a - sk + full).tmod full)] 36)
                        have hB5 := hB4.alloc hB4.size (.cells #[.int .i64 1, .int .i64 1, .int .i64 0, .int .i64 f, .int .i64 ((f + a + sk + full).tmod full), .int .i64 1, .int .i64 (-1), .int .i64 0, .int .i64 s, .int .i64 ((s + a - sk + full).tmod full)] 36)
                        have k5 : Own (R0.alloc (.cells #[.int .i64 1, .int .i64 1, .int .i64 0, .int .i64 f, .int .i64 ((f + a + sk + full).tmod full), .int .i64 1, .int .i64 (-1), .int .i64 0, .int .i64 s, .int .i64 ((s + a - sk + full).tmod full)] 36)) R0.heap.size [.int .i64 1, .int .i64 1, .int .i64 0, .int .i64 f, .int .i64 ((f + a + sk + full).tmod full), .int .i64 1, .int .i64 (-1), .int .i64 0, .int .i64 s, .int .i64 ((s + a - sk + full).tmod full)] := Own.new' _ _ rfl rfl
                        refine hK.out _ _ o5 ?_
                        clear hK K'; (try simp only [Act.put, List.setIfInBounds_toArray, List.set_cons_zero, List.set_cons_succ])
                        clear P4 o4 hB4
                        generalize R0.alloc (.cells #[.int .i64 1, .int .i64 1, .int .i64 0, .int .i64 f, .int .i64 ((f + a + sk + full).tmod full), .int .i64 1, .int .i64 (-1), .int .i64 0, .int .i64 s, .int .i64 ((s + a - sk + full).tmod full)] 36) = R1 at p5 o5 hB5 k5 ⊢
                        have hWK := Lib.hid (show Rd 5 R1 (some ⟨R0.heap.size, 0, none⟩) ((Wl.rdK full a sk f s).map wkrow) from Own.rd' k5 rfl (by simp [Wl.rdK, wkrow]))
                        refine rg_take (fuel := 0) [33] (by kernel_rfl) (by intro _ _ d _ _ h; first | (cases d <;> exact h) | (simp [Exit.then, Exit.inBlock, ownPostG] at h)) rfl (by kernel_rfl) (by kernel_rfl) o5 ?_; simp only [pickL, pick1, List.cons_append, List.nil_append]
                        (refine wpTake_cons (v := ?_) (Or.inl ⟨by rfl, ?_⟩) ?_; rotate_left; (intro w' hSw; go_simp; (try with_reducible rfl)); (try simp only [Act.put, List.setIfInBounds_toArray, List.set_cons_zero, List.set_cons_succ]))
                        refine wpTake_nil ?_
                        refine rg_done (by kernel_rfl) ?_
                        have hne := Lib.hid (show Wl.trs (Wl.rdW full a) (Wl.rdK full a sk f s) ≠ [] from fun e => by
                          have := (Wl.rd_trs HR.out (a, sk)).2 rfl
                          rw [e] at this; cases this)
                        have hVV := Lib.hid (Wl.rd_v HR.out)
                        have O5 := Lib.hid o5
                        have P5 := Lib.hid p5
                        obtain ⟨l5, c5, g5⟩ := p5
                        clear o5 k5 l0 c0 g0 O3 hB3
                        go_wp2_with fail
                        refine (AreasW (Wl.rdW full a) _ (Wl.rdK full a sk f s) 2 2 _ hWK.out rfl hVV hne).mono ?_
                        rintro e w6 ⟨A6, cap6, ks, rfl, hk6, hK6, hb6⟩
                        obtain rfl : ks = [a] := keys_only hK6.out (fun y => by
                          rw [List.mem_map]
                          constructor
                          · rintro ⟨t, ht, rfl⟩
                            rw [(Wl.rd_trs HR.out t).1 ht]
                          · rintro rfl
                            exact ⟨(y, sk), (Wl.rd_trs HR.out _).2 rfl, rfl⟩)
                        have p6 := P5.out.below hb6 P5.out.lt
                        have P6 := Lib.hid p6
                        have O6 := Lib.hid (O5.out.below hb6 O5.out.lt)
                        have W6 := Lib.hid (hWK.out.below hb6 (Nat.le_refl _))
                        have hB6 := hB5.trans (hb6.mono hB5.size)
                        have K6 := Lib.hid hk6
                        clear P5 O5 hWK hB5 hb6 hk6 hK6 l5 c5 g5
                        obtain ⟨l6, c6, g6⟩ := p6
                        go_wp2_with fail
                        refine (SkewsW (Wl.rdW full a) _ (Wl.rdK full a sk f s) 2 2 _ W6.out rfl hVV hne).mono ?_
                        rintro e w7 ⟨A7, cap7, ks, rfl, hk7, hK7, hb7⟩
                        obtain rfl : ks = [sk] := keys_only hK7.out (fun y => by
                          rw [List.mem_map]
                          constructor
                          · rintro ⟨t, ht, rfl⟩
                            rw [(Wl.rd_trs HR.out t).1 ht]
                          · rintro rfl
                            exact ⟨(a, y), (Wl.rd_trs HR.out _).2 rfl, rfl⟩)
                        have o7 := O6.out.below hb7 O6.out.lt
                        have K7a := (show RdI w7 A6 [a] from K6.out.below hb7 (Nat.le_refl _))
                        have hB7 := hB6.trans (hb7.mono hB6.size)
                        obtain ⟨b6, off6, rfl, hl6, hc6⟩ := Rd.elem K7a (i := 0) (r := irow a) rfl
                        have hd6 : w7.cell? ⟨b6, off6, none⟩ = some (.int .i64 a) := by simpa using hc6 0 _ rfl
                        obtain ⟨b7, off7, rfl, hl7, hc7⟩ := Rd.elem hk7 (i := 0) (r := irow sk) rfl
                        have hd7 : w7.cell? ⟨b7, off7, none⟩ = some (.int .i64 sk) := by simpa using hc7 0 _ rfl
                        have hx0 := Aft.cell o7
                        have hx1 := fun x : Aft w7 => (Aft.old x hl6 _).trans hd6
                        have hx2 := fun x : Aft w7 => (Aft.old x hl7 _).trans hd7
                        have HDI := Lib.hid (fun w => dialledW w)
                        have haa : (a == a) = true := by simp
                        have hss : (sk == sk) = true := by simp
                        clear P6 O6 W6 hB6 hb7 hk7 hK7 l6 c6 g6 K6 K7a hc6 hc7 o7
                        go_wp2
                        refine wp_region_aft (by kernel_rfl) (by kernel_rfl) ?_; (repeat (go_big_quiet_step ((go_at_call 9; with_reducible exact aft_of (HDI.out _))))); refine wpQuiet_nil ?_; rintro w8 ⟨⟨_, hb8⟩, rfl⟩
                        go_wp2
                        go_ret
                        exact ⟨rfl, hB7.trans (hb8.mono hB7.size)⟩
    · have hvb : (v != 0) = true := by simpa using hv0
      clear hv hv0
      go_wp2_with fail
      refine (dialledW _).mono ?_
      rintro e w3 ⟨rfl, hb3⟩
      go_wp2
      go_ret
      exact ⟨rfl, hB2.trans (hb3.mono hB2.size)⟩
end
end Go.Proofs.Ytgmhelclofnpkaa
