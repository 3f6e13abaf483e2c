/- Discord: alone, Mend, Walks, Fewest. -/
import Derived.Test.YtgmhelclofnpkaaZC
namespace Go.Proofs.Ytgmhelclofnpkaa
open Go.RowKit Go.Maps

namespace Dp
/-- A field and a skew are a story. -/
def Sty (d : Ds) (f : List P2) (sk : Int) : Prop := Box d [] f ∧ Pl.ok f = true ∧ guess d (ar d f) ∧ inSk d sk
/-- What the search for one story gives. -/
def AlR (d : Ds) (P : Nat × Nat × Int → Bool) (w' : World) (s : Nat × Nat × Int) (fv : Value) (er : Int) : Prop :=
  (er = 3 ∧ s = (0, 0, 0) ∧ ∀ f sk, Sty d f sk → P (stK d f sk) = false) ∨
  (er = 0 ∧ ∃ f sk b cap, Sty d f sk ∧ s = stK d f sk ∧ P s = true ∧ fv = .slice (some ⟨b, 0, none⟩) f.length cap ∧ Rd 2 w' (some ⟨b, 0, none⟩) (f.map ptrow) ∧ ∀ f' sk', Sty d f' sk' → P (stK d f' sk') = true → manyS s ≤ manyS (stK d f' sk'))
theorem sty_wf {d : Ds} (hd : Ok d) {f : List P2} {sk : Int} (h : Sty d f sk) : stT.wf (stK d f sk) ∧ (stK d f sk).1 < 256 ∧ (stK d f sk).2.1 < 256 := by
  have hl8 : f.length ≤ 8 := by have := h.1.1; have := hd.six; omega
  have hl := hd.wh.n
  exact ⟨st_wf (d := d) (z := key d f) (mk_lt hl8) (ar_bd hd.un h.2.1) hl, mk_lt hl8, wm_lt hl _ _⟩
theorem told_bd {d : Ds} (hd : Ok d) {w : World} {G : Nat × Nat × Int → Option Value} (h : Told d w G) (s : Nat × Nat × Int) (hs : (G s).isSome = true) : s.1 < 256 ∧ s.2.1 < 256 := by
  obtain ⟨v, hv⟩ := Option.isSome_iff_exists.1 hs
  obtain ⟨f, sk, b, cap, h1, h2, h3, h4, h5, _⟩ := h.sound s v hv
  rw [h5]
  exact (sty_wf hd ⟨h1, h2, h3, h4⟩).2
end Dp
theorem hT_sound {d : Ds} {w : World} {G : Nat × Nat × Int → Option Value} (h : Dp.Told d w G) {s : Nat × Nat × Int} {v : Value} (hs : G s = some v) : ∃ f sk b cap, Dp.Sty d f sk ∧ s = Dp.stK d f sk ∧ v = .slice (some ⟨b, 0, none⟩) f.length cap ∧ Rd 2 w (some ⟨b, 0, none⟩) (f.map ptrow) := by
  obtain ⟨f, sk, b, cap, h1, h2, h3, h4, h5, h6, h7⟩ := h.sound s v hs
  exact ⟨f, sk, b, cap, ⟨h1, h2, h3, h4⟩, h5, h6, h7⟩
theorem results_ctt {P : Program} {fn : Func} {tmps : Array Value} {w : World} {a B t s r : Nat} {vs : List Value} (hr : fn.results = #[.cell a t, .tmp s, .tmp r]) (ha : tmps.getD a undef = .pointer (some ⟨B, 0, none⟩)) (ho : Own w B vs)
    (hagg : (isAgg t).run P w = .ok true w) (hsz : (sizeOf t).run P w = .ok vs.length w) : (results fn tmps).run P w = .ok (.tuple #[.agg vs.toArray, tmps.getD s undef, tmps.getD r undef]) w := by
  have hl := loadCells_own (P := P) ho vs.length 0 #[] (by omega)
  have ha' : tmps[a]?.getD undef = .pointer (some ⟨B, 0, none⟩) := by simpa using ha
  simp [results, hr, go_sem, loadVar, hagg, hsz, loadCells, hl, ha', asAddr]
abbrev setS3 (W : World) (Z : Nat) (a b c : Value) : World := ((W.setCell ⟨Z, 0, none⟩ a).setCell ⟨Z, 1, none⟩ b).setCell ⟨Z, 2, none⟩ c
theorem own_st3 {W : World} {Z : Nat} {a0 b0 c0 : Value} (o : Own W Z [a0, b0, c0]) (a b c : Value) : Own (setS3 W Z a b c) Z [a, b, c] := ((o.set 0 (by simp) _).set 1 (by simp) _).set 2 (by simp) _
theorem grown_st3 (W : World) (Z : Nat) (a b c : Value) : W.grownBy (setS3 W Z a b c) (some Z) := ((grown_set _ _ _ _).trans (grown_set _ _ _ _)).trans (grown_set _ _ _ _)
/-- What the end of the search for one story reads. -/
structure AlS (vs : List Value) (Bf bs nb g : Nat) (G : Nat × Nat × Int → Option Value) (s : Nat × Nat × Int) (W : World) : Prop where
  f : Own W Bf vs
  m : MapV stT W bs nb G
  c0 : W.cell? ⟨g, 0, none⟩ = some (.int .u64 (s.1 : Nat))
  c1 : W.cell? ⟨g, 1, none⟩ = some (.int .u64 (s.2.1 : Nat))
  c2 : W.cell? ⟨g, 2, none⟩ = some (.int .i64 s.2.2)
theorem AlS.kept {vs : List Value} {Bf bs nb g Z : Nat} {G : Nat × Nat × Int → Option Value} {s : Nat × Nat × Int} {W W' : World} (h : AlS vs Bf bs nb g G s W) (hg : W.grownBy W' (some Z)) (h1 : Bf ≠ Z) (h2 : bs ≠ Z) (h3 : g ≠ Z) (hl : g < W.heap.size) : AlS vs Bf bs nb g G s W' :=
  ⟨h.f.grown hg (by simp; omega), h.m.kept hg (by simp; omega), (World.cell?_of_block (hg.block g hl (by simp; omega))).trans h.c0, (World.cell?_of_block (hg.block g hl (by simp; omega))).trans h.c1, (World.cell?_of_block (hg.block g hl (by simp; omega))).trans h.c2⟩
set_option maxRecDepth 100000 in
set_option maxHeartbeats 16000000 in
theorem daloneW (d : Ds) (A B C : Option Addr) (cA cB cC : Nat) (P : Nat × Nat × Int → Bool) (fn : Nat) (w : World) (hd : Hid (Dp.Ok d)) (hA : Rd 2 w A (d.P.map ptrow)) (hB : RdI w B d.O) (hC : Rd 5 w C (d.l.map wkrow))
    (hP : ∀ s W, Calls Try.prog fn #[stV s] W fun e w' => e = .returned (.bool (P s)) ∧ Below W.heap.size W w') (eg : ∀ args w, (callFunc fn args).run Try.prog w = .ok (.enter fn args) w) :
    Calls Try.prog 68 #[dsV A B C cA cB cC d, .func (.func fn) #[] #[]] w fun e w' => ∃ (s : Nat × Nat × Int) (fv : Value) (er : Int), e = .returned (.tuple #[stV s, fv, .int .i64 er]) ∧ Hid (Dp.AlR d P w' s fv er) ∧ Below w.heap.size w w' := by
  have HP := Lib.hid hP
  have HA := Lib.hid hA
  have HB := Lib.hid hB
  have HC := Lib.hid hC
  clear hA hB hC hP
  go_enter Try.func68, Try.ntmps68
  go_wp2_with fail
  refine (dopenW d A B C cA cB cC _ hd (HA.out.below (by (repeat' (first | (with_reducible exact Below.refl _ _) | (with_reducible assumption) | (with_reducible refine Below.drew ?_) | (with_reducible refine below_drewN ?_ _) | (with_reducible refine Below.setCell ?_ ?_ _) | (with_reducible refine Below.alloc ?_ ?_ _) | (refine Below.trans ?_ (Below.mono (by with_reducible assumption) ?_)) | omega | (exact Below.size (by with_reducible assumption)) | (simp; done) | (simp; omega)))) (Nat.le_refl _)) (show RdI _ B d.O from HB.out.below (by (repeat' (first | (with_reducible exact Below.refl _ _) | (with_reducible assumption) | (with_reducible refine Below.drew ?_) | (with_reducible refine below_drewN ?_ _) | (with_reducible refine Below.setCell ?_ ?_ _) | (with_reducible refine Below.alloc ?_ ?_ _) | (refine Below.trans ?_ (Below.mono (by with_reducible assumption) ?_)) | omega | (exact Below.size (by with_reducible assumption)) | (simp; done) | (simp; omega)))) (Nat.le_refl _)) (HC.out.below (by (repeat' (first | (with_reducible exact Below.refl _ _) | (with_reducible assumption) | (with_reducible refine Below.drew ?_) | (with_reducible refine below_drewN ?_ _) | (with_reducible refine Below.setCell ?_ ?_ _) | (with_reducible refine Below.alloc ?_ ?_ _) | (refine Below.trans ?_ (Below.mono (by with_reducible assumption) ?_)) | omega | (exact Below.size (by with_reducible assumption)) | (simp; done) | (simp; omega)))) (Nat.le_refl _))).mono ?_
  rintro e w1 ⟨v, er, rfl, hop, hb1⟩
  have hB1 : Below w.heap.size w w1 := by (repeat' (first | (with_reducible exact Below.refl _ _) | (with_reducible assumption) | (with_reducible refine Below.drew ?_) | (with_reducible refine below_drewN ?_ _) | (with_reducible refine Below.setCell ?_ ?_ _) | (with_reducible refine Below.alloc ?_ ?_ _) | (refine Below.trans ?_ (Below.mono (by with_reducible assumption) ?_)) | omega | (exact Below.size (by with_reducible assumption)) | (simp; done) | (simp; omega)))
  have p1 : Own w1 (w.heap.size + 1) [.int .u64 0, .int .u64 0, .int .i64 0] := Own.below (Own.new' (w := w.alloc _) #[.int .u64 0, .int .u64 0, .int .i64 0] _ (by simp) rfl) hb1 (by simp)
  have hzb := hb1.size
  simp only [World.size_alloc] at hzb
  have P1 := Lib.hid p1
  clear hb1 p1
  rcases hop.out with ⟨rfl, rfl, hno⟩ | ⟨rfl, Bf, bs, nb, G, rfl, hF, hM, hnb, hT, hBf, hbs, hex⟩
  · have p1 := P1.out
    obtain ⟨l1, c1, f1⟩ := p1
    clear hop
    go_wp2
    refine bodyPost_ret (results_ctt (B := w.heap.size + 1) (vs := [.int .u64 0, .int .u64 0, .int .i64 0]) rfl rfl (own_st3 P1.out _ _ _) (by kernel_rfl) (by kernel_rfl)) rfl ?_
    exact ⟨(0, 0, 0), _, 3, rfl, Or.inl ⟨rfl, rfl, fun f sk h => (hno f sk h.1 h.2.1 h.2.2.1 h.2.2.2).elim⟩, ((hB1.setCell (by dsimp only; omega) _).setCell (by dsimp only; omega) _).setCell (by dsimp only; omega) _⟩
  · have hbd := Lib.hid (Dp.told_bd hd.out hT)
    have HT := Lib.hid hT
    have HF := Lib.hid hF
    have HM := Lib.hid hM
    simp only [World.size_alloc] at hBf hbs
    clear hop hT hF hM
    go_wp2_with fail
    refine (dfewestW d A B C cA cB cC bs Bf nb G P fn _ HF.out HM.out hnb hbd (fun s W => HP.out s W) eg).mono ?_
    rintro e w2 ⟨A2, n, cap, rfl, hfw, hb2⟩
    have hB2 := hB1.trans (hb2.mono hB1.size)
    have P2h := Lib.hid (P1.out.below hb2 P1.out.lt)
    have F2 := Lib.hid (HF.out.below hb2 HF.out.lt)
    have M2 := Lib.hid (HM.out.below hb2 HM.out.lt)
    have HB2 := Lib.hid hb2
    rcases hfw.out with ⟨rfl, hno⟩ | ⟨hn0, g, s, rfl, hgl, hc0, hc1, hc2, hsw, hsG, hsP, hmin⟩
    · have p1 := P2h.out
      obtain ⟨l1, c1, f1⟩ := p1
      clear hfw hb2
      go_wp2
      refine bodyPost_ret (results_ctt (B := w.heap.size + 1) (vs := [.int .u64 0, .int .u64 0, .int .i64 0]) rfl rfl (own_st3 P2h.out _ _ _) (by kernel_rfl) (by kernel_rfl)) rfl ?_
      exact ⟨(0, 0, 0), _, 3, rfl, Or.inl ⟨rfl, rfl, fun f sk h => hno _ (Dp.sty_wf hd.out h).1 (HT.out.all f sk h.1 h.2.1 h.2.2.1 h.2.2.2)⟩, ((hB2.setCell (by dsimp only; omega) _).setCell (by dsimp only; omega) _).setCell (by dsimp only; omega) _⟩
    · obtain ⟨fv, hfv⟩ := Option.isSome_iff_exists.1 hsG
      obtain ⟨s1, s2, s3⟩ := s
      have hlk := Lib.hid (fun W (k : MapV stT W bs nb G) => (show (Instr.lookup 158 (.map (some bs)) (.agg #[.int .u64 (s1 : Nat), .int .u64 (s2 : Nat), .int .i64 s3]) false).run Try.prog W = .ok fv W from by
        have := k.look (mt := 158) Try.underlying158 (zeroSl W) hsw
        rw [hfv] at this
        exact this))
      have hgne : g ≠ w.heap.size + 1 := by have := P1.out.lt; omega
      have hst := hT_sound HT.out hfv
      have hbne : ∀ (b : Nat) (f : List P2), 0 < f.length → Rd 2 w1 (some ⟨b, 0, none⟩) (f.map ptrow) → b ≠ w.heap.size + 1 := fun b f h0 hr e => by
        obtain ⟨b', off', e', _, hq, _⟩ := rd_p2 hr (i := 0) (p := f[0]) (by simp)
        cases e'
        subst e
        have hq2 := P1.out.c 0
        simp only [Nat.zero_mul, Nat.add_zero] at hq
        rw [hq] at hq2
        simp at hq2
      have HG0 : w1.grownBy w2.drew (some (w.heap.size + 1)) := below_row hb2.drew
      have hB3 := hB2.drew
      have p3 := Lib.hid (show Own w2.drew (w.heap.size + 1) _ from P2h.out.drew)
      have s3' : AlS (flC A B C cA cB cC d bs) Bf bs nb g G (s1, s2, s3) w2.drew := ⟨F2.out.drew, M2.out.block rfl, hc0, hc1, hc2⟩
      have hl3 : g < w2.drew.heap.size := hgl.2
      have k0 := F2.out
      obtain ⟨l1, c1, f1⟩ := k0
      clear hfw hb2 hc0 hc1 hc2
      go_wp2
      clear l1 c1 f1
      refine rg_start (AlS (flC A B C cA cB cC d bs) Bf bs nb g G (s1, s2, s3)) 14 (by kernel_rfl) rfl ?_
      have hsz : w2.drew.heap.size = w2.heap.size := rfl
      have hF4 := HB2
      generalize World.drew _ = R0 at s3' p3 hB3 hl3 hsz HG0 ⊢
      refine rg_take (fuel := 3) [0, 1, 2, 3, 4, 5, 6, 7, 8, 9, 10] (by kernel_rfl) (by intro _ _ d _ _ h; first | (cases d <;> exact h) | (simp [Exit.then, Exit.inBlock, ownPostG] at h)) rfl (by kernel_rfl) (by kernel_rfl) s3' ?_; simp only [pickL, pick1, List.cons_append, List.nil_append]
      iterate 11 (refine wpTake_cons (v := ?_) (Or.inl ⟨by rfl, ?_⟩) ?_; rotate_left; (intro w' hSw; have yf := hSw.f.c; have yl := hSw.f.lt; have y0 := hSw.c0; have y1 := hSw.c1; have y2 := hSw.c2; have yk := hlk.out _ hSw.m; clear hSw; go_simp; (try with_reducible rfl)); (try simp only [Act.put, List.setIfInBounds_toArray, List.set_cons_zero, List.set_cons_succ]))
      refine wpTake_nil ?_
      refine rg_one (fuel := 2) 11 rfl (by kernel_rfl) (by kernel_rfl) ?_; simp only [pick1, wpHead]
      have q3 := p3.out
      obtain ⟨l1, c1, f1⟩ := q3
      intro K' hK; rw [if_pos (by rfl)]; go_simp
      have g4 := grown_st3 R0 (w.heap.size + 1) (.int .u64 (s1 : Nat)) (.int .u64 (s2 : Nat)) (.int .i64 s3)
      have p4 : Own (setS3 R0 (w.heap.size + 1) (.int .u64 (s1 : Nat)) (.int .u64 (s2 : Nat)) (.int .i64 s3)) (w.heap.size + 1) [.int .u64 (s1 : Nat), .int .u64 (s2 : Nat), .int .i64 s3] := own_st3 p3.out _ _ _
      have s4 := s3'.kept g4 (by omega) (by omega) hgne hl3
      have hB4 := hB3.grown g4 (by have := hB3.size; omega) (fun k e => by cases e; omega)
      have hG4 : w1.grownBy (setS3 R0 (w.heap.size + 1) (.int .u64 (s1 : Nat)) (.int .u64 (s2 : Nat)) (.int .i64 s3)) (some (w.heap.size + 1)) := HG0.trans g4
      refine hK.out _ _ s4 ?_
      clear l1 c1 f1 g4
      clear hK K'; (try simp only [Act.put, List.setIfInBounds_toArray, List.set_cons_zero, List.set_cons_succ])
      refine rg_take (fuel := 0) [12, 13] (by kernel_rfl) (by intro _ _ d _ _ h; first | (cases d <;> exact h) | (simp [Exit.then, Exit.inBlock, ownPostG] at h)) rfl (by kernel_rfl) (by kernel_rfl) s4 ?_; simp only [pickL, pick1, List.cons_append, List.nil_append]
      iterate 2 (refine wpTake_cons (v := ?_) (Or.inl ⟨by rfl, ?_⟩) ?_; rotate_left; (intro w' hSw; go_simp; (try with_reducible rfl)); (try simp only [Act.put, List.setIfInBounds_toArray, List.set_cons_zero, List.set_cons_succ]))
      refine wpTake_nil ?_
      refine rg_done (by kernel_rfl) ?_
      go_wp2
      refine bodyPost_ret (results_ctt (B := w.heap.size + 1) (vs := [.int .u64 (s1 : Nat), .int .u64 (s2 : Nat), .int .i64 s3]) rfl rfl p4 (by kernel_rfl) (by kernel_rfl)) rfl ?_
      obtain ⟨f, sk, b, cap', h1, h2, h3, h4⟩ := hst
      refine ⟨(s1, s2, s3), fv, 0, rfl, Or.inr ⟨rfl, f, sk, b, cap', h1, h2, hsP, h3, ?_, fun f' sk' h5 h6 => hmin _ (Dp.sty_wf hd.out h5).1 (HT.out.all f' sk' h5.1 h5.2.1 h5.2.2.1 h5.2.2.2) h6⟩, hB4⟩
      exact h4.keptBy hG4 (fun c off e => by cases e; simp; exact hbne _ f (by have := h1.1.1; have h9 := hd.out.ok; unfold Pl.ok at h9; simp only [Bool.and_eq_true, btw_iff] at h9; omega) h4)
end Go.Proofs.Ytgmhelclofnpkaa
namespace Go.Proofs.Ytgmhelclofnpkaa
open Go.RowKit Go.Maps

set_option maxHeartbeats 4000000 in
theorem dMendW (d : Ds) (A B C : Option Addr) (cA cB cC : Nat) (w : World) (hd : Hid (Dp.Ok d)) (hA : Rd 2 w A (d.P.map ptrow)) (hB : RdI w B d.O) (hC : Rd 5 w C (d.l.map wkrow)) :
    Calls Try.prog 22 #[dsV A B C cA cB cC d] w fun e w' => ∃ (s : Nat × Nat × Int) (fv : Value) (er : Int), e = .returned (.tuple #[fv, .int .i64 er]) ∧ Hid (Dp.AlR d (fun s => decide (s.2.1 = 0)) w' s fv er) ∧ Below w.heap.size w w' := by
  have HA := Lib.hid hA
  have HB := Lib.hid hB
  have HC := Lib.hid hC
  clear hA hB hC
  go_enter Try.func22, Try.ntmps22
  go_wp2_with fail
  refine (daloneW d A B C cA cB cC (fun s => decide (s.2.1 = 0)) 69 _ hd (HA.out.below (by (repeat' (first | (with_reducible exact Below.refl _ _) | (with_reducible assumption) | (with_reducible refine Below.drew ?_) | (with_reducible refine below_drewN ?_ _) | (with_reducible refine Below.setCell ?_ ?_ _) | (with_reducible refine Below.alloc ?_ ?_ _) | (refine Below.trans ?_ (Below.mono (by with_reducible assumption) ?_)) | omega | (exact Below.size (by with_reducible assumption)) | (simp; done) | (simp; omega)))) (Nat.le_refl _)) (show RdI _ B d.O from HB.out.below (by (repeat' (first | (with_reducible exact Below.refl _ _) | (with_reducible assumption) | (with_reducible refine Below.drew ?_) | (with_reducible refine below_drewN ?_ _) | (with_reducible refine Below.setCell ?_ ?_ _) | (with_reducible refine Below.alloc ?_ ?_ _) | (refine Below.trans ?_ (Below.mono (by with_reducible assumption) ?_)) | omega | (exact Below.size (by with_reducible assumption)) | (simp; done) | (simp; omega)))) (Nat.le_refl _)) (HC.out.below (by (repeat' (first | (with_reducible exact Below.refl _ _) | (with_reducible assumption) | (with_reducible refine Below.drew ?_) | (with_reducible refine below_drewN ?_ _) | (with_reducible refine Below.setCell ?_ ?_ _) | (with_reducible refine Below.alloc ?_ ?_ _) | (refine Below.trans ?_ (Below.mono (by with_reducible assumption) ?_)) | omega | (exact Below.size (by with_reducible assumption)) | (simp; done) | (simp; omega)))) (Nat.le_refl _)) (fun s W => dMend1W s W) (enters_of Try.func69 (by kernel_rfl) rfl)).mono ?_
  rintro e w1 ⟨s, fv, er, rfl, hal, hb1⟩
  have hB1 : Below w.heap.size w w1 := by (repeat' (first | (with_reducible exact Below.refl _ _) | (with_reducible assumption) | (with_reducible refine Below.drew ?_) | (with_reducible refine below_drewN ?_ _) | (with_reducible refine Below.setCell ?_ ?_ _) | (with_reducible refine Below.alloc ?_ ?_ _) | (refine Below.trans ?_ (Below.mono (by with_reducible assumption) ?_)) | omega | (exact Below.size (by with_reducible assumption)) | (simp; done) | (simp; omega)))
  clear hb1
  go_wp2
  go_ret2
  refine ⟨s, fv, er, rfl, ?_, hB1.alloc hB1.size _⟩
  rcases hal.out with h | ⟨h1, f, sk, b, cap, h2, h3, h4, h5, h6, h7⟩
  · exact Or.inl h
  · exact Or.inr ⟨h1, f, sk, b, cap, h2, h3, h4, h5, h6.below ((Below.refl _ _).alloc (Nat.le_refl _) _) (Nat.le_refl _), h7⟩
namespace Dp
/-- The least number of faults of the stories of which P holds. -/
def FwN (d : Ds) (P : Nat × Nat × Int → Bool) (n er : Int) : Prop :=
  (er = 3 ∧ ∀ f sk, Sty d f sk → P (stK d f sk) = false) ∨
  (er = 0 ∧ (∃ f sk, Sty d f sk ∧ P (stK d f sk) = true ∧ n = manyS (stK d f sk)) ∧ ∀ f sk, Sty d f sk → P (stK d f sk) = true → n ≤ manyS (stK d f sk))
end Dp
set_option maxHeartbeats 4000000 in
theorem dWalksW (d : Ds) (A B C : Option Addr) (cA cB cC : Nat) (w : World) (hd : Hid (Dp.Ok d)) (hA : Rd 2 w A (d.P.map ptrow)) (hB : RdI w B d.O) (hC : Rd 5 w C (d.l.map wkrow)) :
    Calls Try.prog 25 #[dsV A B C cA cB cC d] w fun e w' => ∃ (n er : Int), e = .returned (.tuple #[.int .i64 n, .int .i64 er]) ∧ Hid (Dp.FwN d (fun s => decide (s.1 = 0)) n er) ∧ Below w.heap.size w w' := by
  have HA := Lib.hid hA
  have HB := Lib.hid hB
  have HC := Lib.hid hC
  clear hA hB hC
  go_enter Try.func25, Try.ntmps25
  go_wp2_with fail
  refine (daloneW d A B C cA cB cC (fun s => decide (s.1 = 0)) 74 _ hd (HA.out.below (by (repeat' (first | (with_reducible exact Below.refl _ _) | (with_reducible assumption) | (with_reducible refine Below.drew ?_) | (with_reducible refine below_drewN ?_ _) | (with_reducible refine Below.setCell ?_ ?_ _) | (with_reducible refine Below.alloc ?_ ?_ _) | (refine Below.trans ?_ (Below.mono (by with_reducible assumption) ?_)) | omega | (exact Below.size (by with_reducible assumption)) | (simp; done) | (simp; omega)))) (Nat.le_refl _)) (show RdI _ B d.O from HB.out.below (by (repeat' (first | (with_reducible exact Below.refl _ _) | (with_reducible assumption) | (with_reducible refine Below.drew ?_) | (with_reducible refine below_drewN ?_ _) | (with_reducible refine Below.setCell ?_ ?_ _) | (with_reducible refine Below.alloc ?_ ?_ _) | (refine Below.trans ?_ (Below.mono (by with_reducible assumption) ?_)) | omega | (exact Below.size (by with_reducible assumption)) | (simp; done) | (simp; omega)))) (Nat.le_refl _)) (HC.out.below (by (repeat' (first | (with_reducible exact Below.refl _ _) | (with_reducible assumption) | (with_reducible refine Below.drew ?_) | (with_reducible refine below_drewN ?_ _) | (with_reducible refine Below.setCell ?_ ?_ _) | (with_reducible refine Below.alloc ?_ ?_ _) | (refine Below.trans ?_ (Below.mono (by with_reducible assumption) ?_)) | omega | (exact Below.size (by with_reducible assumption)) | (simp; done) | (simp; omega)))) (Nat.le_refl _)) (fun s W => dWalks1W s W) (enters_of Try.func74 (by kernel_rfl) rfl)).mono ?_
  rintro e w1 ⟨s, fv, er, rfl, hal, hb1⟩
  have hB1 : Below w.heap.size w w1 := by (repeat' (first | (with_reducible exact Below.refl _ _) | (with_reducible assumption) | (with_reducible refine Below.drew ?_) | (with_reducible refine below_drewN ?_ _) | (with_reducible refine Below.setCell ?_ ?_ _) | (with_reducible refine Below.alloc ?_ ?_ _) | (refine Below.trans ?_ (Below.mono (by with_reducible assumption) ?_)) | omega | (exact Below.size (by with_reducible assumption)) | (simp; done) | (simp; omega)))
  have hbd : s.1 < 256 ∧ s.2.1 < 256 := by
    rcases hal.out with ⟨_, h, _⟩ | ⟨h1, f, sk, b, cap, h2, h3, _⟩
    · rw [h]; simp
    · rw [h3]; exact (Dp.sty_wf hd.out h2).2
  have hB2 := hB1.alloc hB1.size (.cells #[.int .u64 (s.1 : Nat), .int .u64 (s.2.1 : Nat), .int .i64 s.2.2] 125)
  clear hb1
  go_wp2_with fail
  refine (dmanyW s.1 s.2.1 _ hbd.1 hbd.2).mono ?_
  rintro e w2 ⟨rfl, hb2⟩
  go_wp2
  go_ret2
  refine ⟨_, er, rfl, ?_, hB2.trans (hb2.mono hB2.size)⟩
  rcases hal.out with ⟨h1, _, h2⟩ | ⟨h1, f, sk, b, cap, h2, h3, h4, h5, h6, h7⟩
  · exact Or.inl ⟨h1, h2⟩
  · refine Or.inr ⟨h1, ⟨f, sk, h2, by rw [← h3]; exact h4, by rw [← h3]; rfl⟩, fun f' sk' k1 k2 => h7 f' sk' k1 k2⟩
set_option maxHeartbeats 4000000 in
theorem dFewestW (d : Ds) (A B C : Option Addr) (cA cB cC : Nat) (w : World) (hd : Hid (Dp.Ok d)) (hA : Rd 2 w A (d.P.map ptrow)) (hB : RdI w B d.O) (hC : Rd 5 w C (d.l.map wkrow)) :
    Calls Try.prog 24 #[dsV A B C cA cB cC d] w fun e w' => ∃ (n er : Int), e = .returned (.tuple #[.int .i64 n, .int .i64 er]) ∧ Hid (Dp.FwN d (fun _ => true) n er) ∧ Below w.heap.size w w' := by
  have HA := Lib.hid hA
  have HB := Lib.hid hB
  have HC := Lib.hid hC
  clear hA hB hC
  go_enter Try.func24, Try.ntmps24
  go_wp2_with fail
  refine (dopenW d A B C cA cB cC _ hd (HA.out.below (by (repeat' (first | (with_reducible exact Below.refl _ _) | (with_reducible assumption) | (with_reducible refine Below.drew ?_) | (with_reducible refine below_drewN ?_ _) | (with_reducible refine Below.setCell ?_ ?_ _) | (with_reducible refine Below.alloc ?_ ?_ _) | (refine Below.trans ?_ (Below.mono (by with_reducible assumption) ?_)) | omega | (exact Below.size (by with_reducible assumption)) | (simp; done) | (simp; omega)))) (Nat.le_refl _)) (show RdI _ B d.O from HB.out.below (by (repeat' (first | (with_reducible exact Below.refl _ _) | (with_reducible assumption) | (with_reducible refine Below.drew ?_) | (with_reducible refine below_drewN ?_ _) | (with_reducible refine Below.setCell ?_ ?_ _) | (with_reducible refine Below.alloc ?_ ?_ _) | (refine Below.trans ?_ (Below.mono (by with_reducible assumption) ?_)) | omega | (exact Below.size (by with_reducible assumption)) | (simp; done) | (simp; omega)))) (Nat.le_refl _)) (HC.out.below (by (repeat' (first | (with_reducible exact Below.refl _ _) | (with_reducible assumption) | (with_reducible refine Below.drew ?_) | (with_reducible refine below_drewN ?_ _) | (with_reducible refine Below.setCell ?_ ?_ _) | (with_reducible refine Below.alloc ?_ ?_ _) | (refine Below.trans ?_ (Below.mono (by with_reducible assumption) ?_)) | omega | (exact Below.size (by with_reducible assumption)) | (simp; done) | (simp; omega)))) (Nat.le_refl _))).mono ?_
  rintro e w1 ⟨v, er, rfl, hop, hb1⟩
  have hB1 : Below w.heap.size w w1 := by (repeat' (first | (with_reducible exact Below.refl _ _) | (with_reducible assumption) | (with_reducible refine Below.drew ?_) | (with_reducible refine below_drewN ?_ _) | (with_reducible refine Below.setCell ?_ ?_ _) | (with_reducible refine Below.alloc ?_ ?_ _) | (refine Below.trans ?_ (Below.mono (by with_reducible assumption) ?_)) | omega | (exact Below.size (by with_reducible assumption)) | (simp; done) | (simp; omega)))
  clear hb1
  rcases hop.out with ⟨rfl, rfl, hno⟩ | ⟨rfl, Bf, bs, nb, G, rfl, hF, hM, hnb, hT, hBf, hbs, hex⟩
  · clear hop
    go_wp2
    go_ret2
    exact ⟨0, 3, rfl, Or.inl ⟨rfl, fun f sk h => (hno f sk h.1 h.2.1 h.2.2.1 h.2.2.2).elim⟩, hB1⟩
  · have hbd := Lib.hid (Dp.told_bd hd.out hT)
    have HT := Lib.hid hT
    have HF := Lib.hid hF
    have HM := Lib.hid hM
    clear hop hT hF hM
    go_wp2_with fail
    refine (dfewestW d A B C cA cB cC bs Bf nb G (fun _ => true) 72 _ HF.out HM.out hnb hbd (fun s W => deveryW s W) (enters_of Try.func72 (by kernel_rfl) rfl)).mono ?_
    rintro e w2 ⟨A2, n, cap, rfl, hfw, hb2⟩
    have hB2 := hB1.trans (hb2.mono hB1.size)
    rcases hfw.out with ⟨rfl, hno⟩ | ⟨hn0, g, s, rfl, hgl, hc0, hc1, hc2, hsw, hsG, hsP, hmin⟩
    · exfalso
      obtain ⟨s, k1, k2⟩ := hex
      have := hno s k1 k2
      cases this
    · have hs := hbd.out s hsG
      clear hfw hb2
      go_wp2_with fail
      refine (dmanyW s.1 s.2.1 _ hs.1 hs.2).mono ?_
      rintro e w3 ⟨rfl, hb3⟩
      go_wp2
      go_ret2
      obtain ⟨fv, hfv⟩ := Option.isSome_iff_exists.1 hsG
      obtain ⟨f, sk, b, cap', h1, h2, h3, h4⟩ := hT_sound HT.out hfv
      exact ⟨_, 0, rfl, Or.inr ⟨rfl, ⟨f, sk, h1, rfl, by rw [← h2]; rfl⟩, fun f' sk' h5 _ => hmin _ (Dp.sty_wf hd.out h5).1 (HT.out.all f' sk' h5.1 h5.2.1 h5.2.2.1 h5.2.2.2) trivial⟩, hB2.trans (hb3.mono hB2.size)⟩
end Go.Proofs.Ytgmhelclofnpkaa
