/- Walks: the square of a length on a sheet that has not changed, whole. -/
import Derived.Test.YtibkgnnpmidgfaaDoorUl
import Derived.Test.YtibkgnnpmidgfaaDoorUe
namespace Go.Proofs.YtibkgnnpmidgfaaDoor
open Go.RowKit Go.Shelf

theorem results_cell {P : Program} {fn : Func} {tmps : Array Value} {w : World} {a s B t : Nat} {vs : List Value} (hr : fn.results = #[.cell a t, .tmp s]) (ha : tmps.getD a undef = .pointer (some ⟨B, 0, none⟩)) (ho : Own w B vs)
    (hagg : (isAgg t).run P w = .ok true w) (hsz : (sizeOf t).run P w = .ok vs.length w) : (results fn tmps).run P w = .ok (.tuple #[.agg vs.toArray, tmps.getD s undef]) w := by
  have hl := loadCells_own (P := P) ho vs.length 0 #[] (by omega)
  have ha' : tmps[a]?.getD undef = .pointer (some ⟨B, 0, none⟩) := by simpa using ha
  simp [results, hr, go_sem, loadVar, hagg, hsz, loadCells, hl, ha', asAddr]
theorem sLength1T (n : Int) (w : World) (h : -200 ≤ n ∧ n ≤ 200) : Calls Tryd.prog 56 #[.int .i64 n] w fun e w' => e = .returned (.bool true) ∧ w = w' := by
  have e : btw n (-200) 200 = true := by simp [btw]; omega
  have k := sLength1W n w
  rw [e] at k
  exact k
structure LenS (n : Nat) (ax ay bx by' : Int) (w : World) : Prop where
  f : Own w n [.int .i64 1000, .int .i64 1000, .int .i64 1000, .int .i64 1000, .slice none 0 0, .int .i64 0]
  o : Own w (n + 1) [.int .i64 ax, .int .i64 ay]
  p : Own w (n + 1 + 1) [.int .i64 bx, .int .i64 by']
theorem LenS.below {n : Nat} {ax ay bx by' : Int} {w w' : World} (h : LenS n ax ay bx by' w) (hb : Below w.heap.size w w') : LenS n ax ay bx by' w' := ⟨h.f.below hb h.f.lt, h.o.below hb h.o.lt, h.p.below hb h.p.lt⟩
theorem LenS.drew' {n : Nat} {ax ay bx by' : Int} {w : World} (h : LenS n ax ay bx by' w) : LenS n ax ay bx by' w.drew := ⟨h.f.drew, h.o.drew, h.p.drew⟩
theorem LenS.set' {n : Nat} {ax ay bx by' : Int} {w : World} (h : LenS n ax ay bx by' w) {a : Addr} (ha : n + 1 + 1 < a.block) (v : Value) : LenS n ax ay bx by' (w.setCell a v) := ⟨h.f.setOther (by omega) v, h.o.setOther (by omega) v, h.p.setOther (by omega) v⟩
theorem whole_bd (x y : Int) (hx : -400 ≤ x ∧ x ≤ 400) (hy : -400 ≤ y ∧ y ≤ 400) : Sh.bdL (fun p => (lnum x y p).tdiv (lden p)) (fun p => (lnum x y p + lden p - 1).tdiv (lden p)) (Sh.trs 1000 1000 1000 1000 0 []) = some (x * x + y * y, x * x + y * y) := by
  have qx := sq_bd hx
  have qy := sq_bd hy
  rw [whole_trs]
  have e1 : lnum x y (1000, 1000) = 1000000000000 * (x * x + y * y) := by
    show 1000000 * (x * x * (1000 * 1000) + y * y * (1000 * 1000)) = _
    omega
  have e2 : lden (1000, 1000) = 1000000000000 := by rfl
  show some ((lnum x y (1000, 1000)).tdiv (lden (1000, 1000)), (lnum x y (1000, 1000) + lden (1000, 1000) - 1).tdiv (lden (1000, 1000))) = some (_, _)
  rw [e1, e2]
  have a1 : (1000000000000 * (x * x + y * y)).tdiv 1000000000000 = x * x + y * y := by
    rw [Int.tdiv_eq_ediv_of_nonneg (by omega)]; omega
  have a2 : (1000000000000 * (x * x + y * y) + 1000000000000 - 1).tdiv 1000000000000 = x * x + y * y := by
    rw [Int.tdiv_eq_ediv_of_nonneg (by omega)]; omega
  rw [a1, a2]
theorem whole_frac (x y : Int) (hx : -400 ≤ x ∧ x ≤ 400) (hy : -400 ≤ y ∧ y ≤ 400) (Bx By : Nat) (w : World) (ox : Own w Bx [.int .i64 x]) (oy : Own w By [.int .i64 y]) (p : P2) (hp : Sh.In 1000 1000 1000 1000 p) :
    FracF 60 #[.pointer (some ⟨Bx, 0, none⟩), .pointer (some ⟨By, 0, none⟩)] (lnum x y) lden p w := by
  obtain ⟨h1, h2⟩ : p.1 = 1000 ∧ p.2 = 1000 := ⟨by have := hp.1; omega, by have := hp.2; omega⟩
  obtain ⟨p1, p2⟩ := p
  simp only at h1 h2
  subst h1 h2
  have qx := sq_bd hx
  have qy := sq_bd hy
  have e1 : lnum x y (1000, 1000) = 1000000000000 * (x * x + y * y) := by
    show 1000000 * (x * x * (1000 * 1000) + y * y * (1000 * 1000)) = _
    omega
  have e2 : lden (1000, 1000) = 1000000000000 := by rfl
  refine ⟨fun W hb => ?_, by rw [e1]; omega, by rw [e2]; omega⟩
  exact sLength2W 1000 1000 x y Bx By W (by omega) (by omega) hx hy (ox.below hb ox.lt) (oy.below hb oy.lt)
set_option maxRecDepth 100000 in
set_option maxHeartbeats 4000000 in
theorem sLengthW (ax ay bx by' : Int) (w : World) (hax : -200 ≤ ax ∧ ax ≤ 200) (hay : -200 ≤ ay ∧ ay ≤ 200) (hbx : -200 ≤ bx ∧ bx ≤ 200) (hby : -200 ≤ by' ∧ by' ≤ 200) :
    Calls Tryd.prog 17 #[shV 1000 1000 1000 1000 none 0 0 0, .agg #[.int .i64 ax, .int .i64 ay], .agg #[.int .i64 bx, .int .i64 by']] w fun e w' => e = .returned (.tuple #[.agg #[.int .i64 ((bx - ax) * (bx - ax) + (by' - ay) * (by' - ay)), .int .i64 ((bx - ax) * (bx - ax) + (by' - ay) * (by' - ay))], .int .i64 0]) ∧ Below w.heap.size w w' := by
  have hdx : IntKind.i64.wrap (bx - ax) = bx - ax := IntWalk.i64_in _ (by omega)
  have hdy : IntKind.i64.wrap (by' - ay) = by' - ay := IntWalk.i64_in _ (by omega)
  have HX := Lib.hid (show -400 ≤ bx - ax ∧ bx - ax ≤ 400 by omega)
  have HY := Lib.hid (show -400 ≤ by' - ay ∧ by' - ay ≤ 400 by omega)
  have HAX := Lib.hid hax
  have HAY := Lib.hid hay
  have HBX := Lib.hid hbx
  have HBY := Lib.hid hby
  clear hax hay hbx hby
  go_enter Tryd.func17, Tryd.ntmps17
  have L0 : LenS w.heap.size ax ay bx by' ((((w.alloc (.cells #[.int .i64 1000, .int .i64 1000, .int .i64 1000, .int .i64 1000, .slice none 0 0, .int .i64 0] 38)).alloc (.cells #[.int .i64 ax, .int .i64 ay] 40)).alloc (.cells #[.int .i64 bx, .int .i64 by'] 40)).alloc (.cells #[.int .i64 0, .int .i64 0] 33)).drew := ⟨(((Own.new' _ _ rfl rfl).alloc _).alloc _).alloc _ |>.drew, (((Own.new' _ _ (by simp) rfl).alloc _).alloc _).drew, ((Own.new' _ _ (by simp) rfl).alloc _).drew⟩
  have P0 : Own ((((w.alloc (.cells #[.int .i64 1000, .int .i64 1000, .int .i64 1000, .int .i64 1000, .slice none 0 0, .int .i64 0] 38)).alloc (.cells #[.int .i64 ax, .int .i64 ay] 40)).alloc (.cells #[.int .i64 bx, .int .i64 by'] 40)).alloc (.cells #[.int .i64 0, .int .i64 0] 33)).drew (w.heap.size + 1 + 1 + 1) [.int .i64 0, .int .i64 0] := (Own.new' _ _ (by simp) rfl).drew
  have B0 : Below w.heap.size w ((((w.alloc (.cells #[.int .i64 1000, .int .i64 1000, .int .i64 1000, .int .i64 1000, .slice none 0 0, .int .i64 0] 38)).alloc (.cells #[.int .i64 ax, .int .i64 ay] 40)).alloc (.cells #[.int .i64 bx, .int .i64 by'] 40)).alloc (.cells #[.int .i64 0, .int .i64 0] 33)).drew := by (repeat' (first | (with_reducible exact Below.refl _ _) | (with_reducible assumption) | (with_reducible refine Below.drew ?_) | (with_reducible refine below_drewN ?_ _) | (with_reducible refine Below.setCell ?_ ?_ _) | (with_reducible refine Below.alloc ?_ ?_ _) | (refine Below.trans ?_ (Below.mono (by with_reducible assumption) ?_)) | omega | (exact Below.size (by with_reducible assumption)) | (simp; done) | (simp; omega)))
  go_wp2
  refine rg_start (LenS w.heap.size ax ay bx by') 29 (by kernel_rfl) rfl ?_
  generalize hR : World.drew _ = R0 at L0 P0 B0 ⊢
  clear hR
  refine rg_take (fuel := 25) [0, 1, 2, 3] (by kernel_rfl) (by intro _ _ d _ _ h; first | (cases d <;> exact h) | (simp [Exit.then, Exit.inBlock, ownPostG] at h)) rfl (by kernel_rfl) (by kernel_rfl) L0 ?_; simp only [pickL, pick1, List.cons_append, List.nil_append]
  iterate 4 (refine wpTake_cons (v := ?_) (Or.inl ⟨by rfl, ?_⟩) ?_; rotate_left; (intro w' hSw; have yf := hSw.f.c; have yo := hSw.o.c; have yp := hSw.p.c; clear hSw; go_simp; (try with_reducible rfl)); (try simp only [Act.put, List.setIfInBounds_toArray, List.set_cons_zero, List.set_cons_succ]))
  refine wpTake_nil ?_
  refine rg_one (fuel := 24) 4 rfl (by kernel_rfl) (by kernel_rfl) ?_; simp only [pick1, wpHead]
  intro K' hK; rw [if_pos (by rfl)]; go_simp
  refine (sLength1T _ _ HAX.out).mono ?_
  rintro e w1 ⟨rfl, rfl⟩
  refine hK.out _ _ L0 ?_
  clear hK K'; (try simp only [Act.put, List.setIfInBounds_toArray, List.set_cons_zero, List.set_cons_succ])
  refine rg_take (fuel := 20) [5, 6, 7, 8] (by kernel_rfl) (by intro _ _ d _ _ h; first | (cases d <;> exact h) | (simp [Exit.then, Exit.inBlock, ownPostG] at h)) rfl (by kernel_rfl) (by kernel_rfl) L0 ?_; simp only [pickL, pick1, List.cons_append, List.nil_append]
  iterate 4 (refine wpTake_cons (v := ?_) (Or.inl ⟨by rfl, ?_⟩) ?_; rotate_left; (intro w' hSw; have yf := hSw.f.c; have yo := hSw.o.c; have yp := hSw.p.c; clear hSw; go_simp; (try with_reducible rfl)); (try simp only [Act.put, List.setIfInBounds_toArray, List.set_cons_zero, List.set_cons_succ]))
  refine wpTake_nil ?_
  refine rg_one (fuel := 19) 9 rfl (by kernel_rfl) (by kernel_rfl) ?_; simp only [pick1, wpHead]
  intro K' hK; rw [if_pos (by rfl)]; go_simp
  refine (sLength1T _ _ HAY.out).mono ?_
  rintro e w1 ⟨rfl, rfl⟩
  refine hK.out _ _ L0 ?_
  clear hK K'; (try simp only [Act.put, List.setIfInBounds_toArray, List.set_cons_zero, List.set_cons_succ])
  refine rg_take (fuel := 14) [10, 11, 12, 13, 14] (by kernel_rfl) (by intro _ _ d _ _ h; first | (cases d <;> exact h) | (simp [Exit.then, Exit.inBlock, ownPostG] at h)) rfl (by kernel_rfl) (by kernel_rfl) L0 ?_; simp only [pickL, pick1, List.cons_append, List.nil_append]
  iterate 5 (refine wpTake_cons (v := ?_) (Or.inl ⟨by rfl, ?_⟩) ?_; rotate_left; (intro w' hSw; have yf := hSw.f.c; have yo := hSw.o.c; have yp := hSw.p.c; clear hSw; go_simp; (try with_reducible rfl)); (try simp only [Act.put, List.setIfInBounds_toArray, List.set_cons_zero, List.set_cons_succ]))
  refine wpTake_nil ?_
  refine rg_one (fuel := 13) 15 rfl (by kernel_rfl) (by kernel_rfl) ?_; simp only [pick1, wpHead]
  intro K' hK; rw [if_pos (by rfl)]; go_simp
  refine (sLength1T _ _ HBX.out).mono ?_
  rintro e w1 ⟨rfl, rfl⟩
  refine hK.out _ _ L0 ?_
  clear hK K'; (try simp only [Act.put, List.setIfInBounds_toArray, List.set_cons_zero, List.set_cons_succ])
  refine rg_take (fuel := 8) [16, 17, 18, 19, 20] (by kernel_rfl) (by intro _ _ d _ _ h; first | (cases d <;> exact h) | (simp [Exit.then, Exit.inBlock, ownPostG] at h)) rfl (by kernel_rfl) (by kernel_rfl) L0 ?_; simp only [pickL, pick1, List.cons_append, List.nil_append]
  iterate 5 (refine wpTake_cons (v := ?_) (Or.inl ⟨by rfl, ?_⟩) ?_; rotate_left; (intro w' hSw; have yf := hSw.f.c; have yo := hSw.o.c; have yp := hSw.p.c; clear hSw; go_simp; (try with_reducible rfl)); (try simp only [Act.put, List.setIfInBounds_toArray, List.set_cons_zero, List.set_cons_succ]))
  refine wpTake_nil ?_
  refine rg_one (fuel := 7) 21 rfl (by kernel_rfl) (by kernel_rfl) ?_; simp only [pick1, wpHead]
  intro K' hK; rw [if_pos (by rfl)]; go_simp
  refine (sLength1T _ _ HBY.out).mono ?_
  rintro e w1 ⟨rfl, rfl⟩
  refine hK.out _ _ L0 ?_
  clear hK K'; (try simp only [Act.put, List.setIfInBounds_toArray, List.set_cons_zero, List.set_cons_succ])
  refine rg_take (fuel := 6) [22] (by kernel_rfl) (by intro _ _ d _ _ h; first | (cases d <;> exact h) | (simp [Exit.then, Exit.inBlock, ownPostG] at h)) rfl (by kernel_rfl) (by kernel_rfl) L0 ?_; simp only [pickL, pick1, List.cons_append, List.nil_append]
  (refine wpTake_cons (v := ?_) (Or.inl ⟨by rfl, ?_⟩) ?_; rotate_left; (intro w' hSw; have yf := hSw.f.c; have yo := hSw.o.c; have yp := hSw.p.c; clear hSw; go_simp; (try with_reducible rfl)); (try simp only [Act.put, List.setIfInBounds_toArray, List.set_cons_zero, List.set_cons_succ]))
  refine wpTake_nil ?_
  refine rg_one (fuel := 5) 23 rfl (by kernel_rfl) (by kernel_rfl) ?_; simp only [pick1, wpHead]
  intro K' hK; rw [if_pos (by rfl)]; go_simp
  refine (sopenW 1000 1000 1000 1000 none 0 0 0 [] _ (Rd.nil 4 _ none) rfl whole_ok).mono ?_
  rintro e w1 ⟨p, er, rfl, hb1, hc⟩
  obtain ⟨rfl, Bs, rfl, hBs, hO⟩ : er = 0 ∧ ∃ Bs, p = some ⟨Bs, 0, none⟩ ∧ R0.heap.size ≤ Bs ∧ Own w1 Bs (shC 1000 1000 1000 1000 none 0 0 0) := by
    rcases hc.out with ⟨h, _⟩ | ⟨_, h1, h2⟩
    · rw [whole_trs] at h; cases h
    · exact ⟨h1, h2⟩
  have L1 := L0.below hb1
  have P1 := P0.below hb1 P0.lt
  have B1 : Below w.heap.size w w1 := B0.trans (hb1.mono B0.size)
  have hz0 : w.heap.size + 4 ≤ Bs := by have := P0.lt; omega
  refine hK.out _ _ L1 ?_
  clear hc hb1 hBs L0 P0 B0
  clear hK K'; (try simp only [Act.put, List.setIfInBounds_toArray, List.set_cons_zero, List.set_cons_succ])
  refine rg_take (fuel := 0) [24, 25, 26, 27, 28] (by kernel_rfl) (by intro _ _ d _ _ h; first | (cases d <;> exact h) | (simp [Exit.then, Exit.inBlock, ownPostG] at h)) rfl (by kernel_rfl) (by kernel_rfl) L1 ?_; simp only [pickL, pick1, List.cons_append, List.nil_append]
  iterate 5 (refine wpTake_cons (v := ?_) (Or.inl ⟨by rfl, ?_⟩) ?_; rotate_left; (intro w' hSw; have yf := hSw.f.c; have yo := hSw.o.c; have yp := hSw.p.c; clear hSw; go_simp; (try with_reducible rfl)); (try simp only [Act.put, List.setIfInBounds_toArray, List.set_cons_zero, List.set_cons_succ]))
  refine wpTake_nil ?_
  refine rg_done (by kernel_rfl) ?_
  go_wp2
  have L2 := L1.drew'
  have P2' := P1.drew
  have O2 := hO.drew
  have B2 := B1.drew
  refine rg_start (LenS w.heap.size ax ay bx by') 14 (by kernel_rfl) rfl ?_
  generalize hR : World.drew _ = R2 at L2 P2' O2 B2 ⊢
  clear hR L1 P1 hO B1
  refine rg_take (fuel := 4) [0, 1, 2, 3, 4, 5, 6, 7, 8, 9] (by kernel_rfl) (by intro _ _ d _ _ h; first | (cases d <;> exact h) | (simp [Exit.then, Exit.inBlock, ownPostG] at h)) rfl (by kernel_rfl) (by kernel_rfl) L2 ?_; simp only [pickL, pick1, List.cons_append, List.nil_append]
  iterate 10 (refine wpTake_cons (v := ?_) (Or.inl ⟨by rfl, ?_⟩) ?_; rotate_left; (intro w' hSw; have yf := hSw.f.c; have yo := hSw.o.c; have yp := hSw.p.c; clear hSw; go_simp; (try with_reducible rfl)); (try simp only [Act.put, List.setIfInBounds_toArray, List.set_cons_zero, List.set_cons_succ]))
  refine wpTake_nil ?_
  have hZs := O2.lt
  obtain ⟨Z, hZ⟩ : ∃ Z, R2.heap.size = Z := ⟨_, rfl⟩
  refine rg_two (fuel := 3) 10 11 rfl (by kernel_rfl) (by kernel_rfl) ?_ ?_ <;> simp only [pick1, wpHead]
  · intro K' hK; rw [if_pos (by rfl)]; go_simp
    refine hK.out _ _ (L2.below ((Below.refl _ R2).alloc (Nat.le_refl _) _)) ?_
    clear hK K'; (try simp only [Act.put, List.setIfInBounds_toArray, List.set_cons_zero, List.set_cons_succ])
    refine rg_one (fuel := 2) 11 rfl (by kernel_rfl) (by kernel_rfl) ?_; simp only [pick1, wpHead]
    intro K' hK; rw [if_pos (by rfl)]; go_simp
    have ba : Below R2.heap.size R2 ((R2.alloc (.cells #[.int .i64 0] 3)).alloc (.cells #[.int .i64 0] 3)) := ((Below.refl _ R2).alloc (Nat.le_refl _) _).alloc (by simp) _
    have L3 := L2.below ba
    have P3 := P2'.below ba P2'.lt
    have O3 := O2.below ba O2.lt
    have X3 : Own ((R2.alloc (.cells #[.int .i64 0] 3)).alloc (.cells #[.int .i64 0] 3)) (Z) [.int .i64 0] := ((Own.new' (w := R2) #[.int .i64 0] 3 (by omega) rfl).alloc _)
    have Y3 : Own ((R2.alloc (.cells #[.int .i64 0] 3)).alloc (.cells #[.int .i64 0] 3)) (Z + 1) [.int .i64 0] := (Own.new' (w := R2.alloc _) #[.int .i64 0] 3 (by simp; omega) rfl)
    have B3 := B2.trans (ba.mono B2.size)
    refine hK.out _ _ L3 ?_
    clear hK K'; (try simp only [Act.put, List.setIfInBounds_toArray, List.set_cons_zero, List.set_cons_succ])
    clear L2 P2' O2 B2 ba
    generalize (R2.alloc (.cells #[.int .i64 0] 3)).alloc (.cells #[.int .i64 0] 3) = R3 at L3 P3 O3 X3 Y3 B3 ⊢
    have x3 := Lib.hid X3
    have y3 := Lib.hid Y3
    refine rg_one (fuel := 1) 12 rfl (by kernel_rfl) (by kernel_rfl) ?_; simp only [pick1, wpHead]
    intro K' hK; rw [if_pos (by rfl)]; go_simp
    obtain ⟨lx, cx, fx⟩ := X3
    obtain ⟨ly, cy, fy⟩ := Y3
    go_simp
    refine hK.out _ _ (L3.set' (by dsimp only; omega) _) ?_
    clear hK K'; (try simp only [Act.put, List.setIfInBounds_toArray, List.set_cons_zero, List.set_cons_succ])
    refine rg_one (fuel := 0) 13 rfl (by kernel_rfl) (by kernel_rfl) ?_; simp only [pick1, wpHead]
    intro K' hK; rw [if_pos (by rfl)]; go_simp
    have ly' : Z + 1 < (R3.setCell ⟨Z, 0, none⟩ (.int .i64 (bx - ax))).heap.size := by simpa using ly
    have fy' := (y3.out.setOther (a := ⟨Z, 0, none⟩) (by dsimp only; omega) (.int .i64 (bx - ax)))
    obtain ⟨ly2, cy2, fy2⟩ := fy'
    go_simp
    refine hK.out _ _ ((L3.set' (by dsimp only; omega) _).set' (by dsimp only; omega) _) ?_
    clear hK K'
    refine rg_done (by kernel_rfl) ?_
    have X4 := (x3.out.set 0 (by simp) (.int .i64 (bx - ax))).setOther (a := ⟨Z + 1, 0, none⟩) (by dsimp only; omega) (.int .i64 (by' - ay))
    have Y4 := (y3.out.setOther (a := ⟨Z, 0, none⟩) (by dsimp only; omega) (.int .i64 (bx - ax))).set 0 (by simp) (.int .i64 (by' - ay))
    have P4 := (P3.setOther (a := ⟨Z, 0, none⟩) (by dsimp only; omega) (.int .i64 (bx - ax))).setOther (a := ⟨Z + 1, 0, none⟩) (by dsimp only; omega) (.int .i64 (by' - ay))
    have O4 := (O3.setOther (a := ⟨Z, 0, none⟩) (by dsimp only; omega) (.int .i64 (bx - ax))).setOther (a := ⟨Z + 1, 0, none⟩) (by dsimp only; omega) (.int .i64 (by' - ay))
    have B4 : Below w.heap.size w ((R3.setCell ⟨Z, 0, none⟩ (.int .i64 (bx - ax))).setCell ⟨Z + 1, 0, none⟩ (.int .i64 (by' - ay))) := (B3.setCell (by dsimp only; omega) _).setCell (by dsimp only; omega) _
    clear L3 P3 O3 B3 x3 y3 lx cx fx ly cy fy ly' ly2 cy2 fy2
    generalize (R3.setCell ⟨Z, 0, none⟩ (.int .i64 (bx - ax))).setCell ⟨Z + 1, 0, none⟩ (.int .i64 (by' - ay)) = R4 at X4 Y4 P4 O4 B4 ⊢
    simp only [List.set_cons_zero] at X4 Y4
    have HF := Lib.hid (fun p hp => whole_frac (bx - ax) (by' - ay) HX.out HY.out _ _ R4 X4 Y4 p hp)
    go_wp2_with fail
    refine (sboundsW 1000 1000 1000 1000 none 0 0 0 [] Bs 60 _ (lnum (bx - ax) (by' - ay)) lden R4 (Rd.nil 4 _ none) rfl (Lib.hid (shV_of whole_ok)) O4 (enters_of Tryd.func60 (by kernel_rfl) rfl) HF _ _ (whole_bd _ _ HX.out HY.out)).mono ?_
    rintro e w5 ⟨rfl, hb5⟩
    have p5 := Lib.hid (P4.below hb5 P4.lt)
    have B5 : Below w.heap.size w w5 := B4.trans (hb5.mono B4.size)
    have hl5 := p5.out.lt
    obtain ⟨l5, c5, f5⟩ := p5.out
    go_wp2
    refine bodyPost_ret (results_cell (B := w.heap.size + 1 + 1 + 1) (vs := [.int .i64 _, .int .i64 _]) rfl rfl ((p5.out.set 0 (by simp) _).set 1 (by simp) _) (by kernel_rfl) (by kernel_rfl)) rfl ?_
    exact ⟨rfl, (B5.setCell (by dsimp only; omega) _).setCell (by dsimp only; omega) _⟩
  · intro K' hK; rw [if_pos (by rfl)]; go_simp
    refine hK.out _ _ (L2.below ((Below.refl _ R2).alloc (Nat.le_refl _) _)) ?_
    clear hK K'; (try simp only [Act.put, List.setIfInBounds_toArray, List.set_cons_zero, List.set_cons_succ])
    refine rg_one (fuel := 2) 10 rfl (by kernel_rfl) (by kernel_rfl) ?_; simp only [pick1, wpHead]
    intro K' hK; rw [if_pos (by rfl)]; go_simp
    have ba : Below R2.heap.size R2 ((R2.alloc (.cells #[.int .i64 0] 3)).alloc (.cells #[.int .i64 0] 3)) := ((Below.refl _ R2).alloc (Nat.le_refl _) _).alloc (by simp) _
    have L3 := L2.below ba
    have P3 := P2'.below ba P2'.lt
    have O3 := O2.below ba O2.lt
    have X3 : Own ((R2.alloc (.cells #[.int .i64 0] 3)).alloc (.cells #[.int .i64 0] 3)) (Z + 1) [.int .i64 0] := (Own.new' (w := R2.alloc _) #[.int .i64 0] 3 (by simp; omega) rfl)
    have Y3 : Own ((R2.alloc (.cells #[.int .i64 0] 3)).alloc (.cells #[.int .i64 0] 3)) (Z) [.int .i64 0] := ((Own.new' (w := R2) #[.int .i64 0] 3 (by omega) rfl).alloc _)
    have B3 := B2.trans (ba.mono B2.size)
    refine hK.out _ _ L3 ?_
    clear hK K'; (try simp only [Act.put, List.setIfInBounds_toArray, List.set_cons_zero, List.set_cons_succ])
    clear L2 P2' O2 B2 ba
    generalize (R2.alloc (.cells #[.int .i64 0] 3)).alloc (.cells #[.int .i64 0] 3) = R3 at L3 P3 O3 X3 Y3 B3 ⊢
    have x3 := Lib.hid X3
    have y3 := Lib.hid Y3
    refine rg_one (fuel := 1) 12 rfl (by kernel_rfl) (by kernel_rfl) ?_; simp only [pick1, wpHead]
    intro K' hK; rw [if_pos (by rfl)]; go_simp
    obtain ⟨lx, cx, fx⟩ := X3
    obtain ⟨ly, cy, fy⟩ := Y3
    go_simp
    refine hK.out _ _ (L3.set' (by dsimp only; omega) _) ?_
    clear hK K'; (try simp only [Act.put, List.setIfInBounds_toArray, List.set_cons_zero, List.set_cons_succ])
    refine rg_one (fuel := 0) 13 rfl (by kernel_rfl) (by kernel_rfl) ?_; simp only [pick1, wpHead]
    intro K' hK; rw [if_pos (by rfl)]; go_simp
    have ly' : Z < (R3.setCell ⟨Z + 1, 0, none⟩ (.int .i64 (bx - ax))).heap.size := by simpa using ly
    have fy' := (y3.out.setOther (a := ⟨Z + 1, 0, none⟩) (by dsimp only; omega) (.int .i64 (bx - ax)))
    obtain ⟨ly2, cy2, fy2⟩ := fy'
    go_simp
    refine hK.out _ _ ((L3.set' (by dsimp only; omega) _).set' (by dsimp only; omega) _) ?_
    clear hK K'
    refine rg_done (by kernel_rfl) ?_
    have X4 := (x3.out.set 0 (by simp) (.int .i64 (bx - ax))).setOther (a := ⟨Z, 0, none⟩) (by dsimp only; omega) (.int .i64 (by' - ay))
    have Y4 := (y3.out.setOther (a := ⟨Z + 1, 0, none⟩) (by dsimp only; omega) (.int .i64 (bx - ax))).set 0 (by simp) (.int .i64 (by' - ay))
    have P4 := (P3.setOther (a := ⟨Z + 1, 0, none⟩) (by dsimp only; omega) (.int .i64 (bx - ax))).setOther (a := ⟨Z, 0, none⟩) (by dsimp only; omega) (.int .i64 (by' - ay))
    have O4 := (O3.setOther (a := ⟨Z + 1, 0, none⟩) (by dsimp only; omega) (.int .i64 (bx - ax))).setOther (a := ⟨Z, 0, none⟩) (by dsimp only; omega) (.int .i64 (by' - ay))
    have B4 : Below w.heap.size w ((R3.setCell ⟨Z + 1, 0, none⟩ (.int .i64 (bx - ax))).setCell ⟨Z, 0, none⟩ (.int .i64 (by' - ay))) := (B3.setCell (by dsimp only; omega) _).setCell (by dsimp only; omega) _
    clear L3 P3 O3 B3 x3 y3 lx cx fx ly cy fy ly' ly2 cy2 fy2
    generalize (R3.setCell ⟨Z + 1, 0, none⟩ (.int .i64 (bx - ax))).setCell ⟨Z, 0, none⟩ (.int .i64 (by' - ay)) = R4 at X4 Y4 P4 O4 B4 ⊢
    simp only [List.set_cons_zero] at X4 Y4
    have HF := Lib.hid (fun p hp => whole_frac (bx - ax) (by' - ay) HX.out HY.out _ _ R4 X4 Y4 p hp)
    go_wp2_with fail
    refine (sboundsW 1000 1000 1000 1000 none 0 0 0 [] Bs 60 _ (lnum (bx - ax) (by' - ay)) lden R4 (Rd.nil 4 _ none) rfl (Lib.hid (shV_of whole_ok)) O4 (enters_of Tryd.func60 (by kernel_rfl) rfl) HF _ _ (whole_bd _ _ HX.out HY.out)).mono ?_
    rintro e w5 ⟨rfl, hb5⟩
    have p5 := Lib.hid (P4.below hb5 P4.lt)
    have B5 : Below w.heap.size w w5 := B4.trans (hb5.mono B4.size)
    have hl5 := p5.out.lt
    obtain ⟨l5, c5, f5⟩ := p5.out
    go_wp2
    refine bodyPost_ret (results_cell (B := w.heap.size + 1 + 1 + 1) (vs := [.int .i64 _, .int .i64 _]) rfl rfl ((p5.out.set 0 (by simp) _).set 1 (by simp) _) (by kernel_rfl) (by kernel_rfl)) rfl ?_
    exact ⟨rfl, (B5.setCell (by dsimp only; omega) _).setCell (by dsimp only; omega) _⟩
end Go.Proofs.YtibkgnnpmidgfaaDoor
