/- Walks: kinds of a wheel. -/
import Derived.Test.YtgmhelclofnpkaaQi
namespace Go.Proofs.Ytgmhelclofnpkaa
open Go.RowKit Go.Shelf Go.Maps

attribute [local go_sem] Oper.semAt_some
/-- The keys that stand in a map behind some truths. -/
structure KiF (key : P2 → Int) (f : Int → Option Int) (ts : List P2) : Prop where
  k : ∀ x, (f x).isSome = true ↔ x ∈ ts.map key
  b : ∀ x v, f x = some v → 0 ≤ v ∧ v ≤ ts.length
theorem KiF.snoc {key : P2 → Int} {f : Int → Option Int} {ts : List P2} (h : KiF key f ts) (t : P2) : KiF key (upd f (key t) ((f (key t)).getD 0 + 1)) (ts ++ [t]) := by
  constructor
  · intro x
    unfold upd
    rw [List.map_append, List.mem_append]
    by_cases e : x = key t
    · simp [e]
    · simp [e, h.k x]
  · intro x v
    unfold upd
    rw [List.length_append]
    by_cases e : x = key t
    · rw [if_pos e]
      intro hv
      cases hv
      cases hf : f (key t) with
      | none => simp; omega
      | some u =>
        have := h.b _ _ hf
        simp
        omega
    · rw [if_neg e]
      intro hv
      have := h.b _ _ hv
      simp
      omega
theorem flat_irow' : ∀ zs : List Int, (zs.map irow).flatten = zs.map encZ
  | [] => rfl
  | z :: zs => by rw [List.map_cons, List.flatten_cons, flat_irow' zs]; rfl
theorem rd_putObj {sz : Nat} {w : World} {A : Option Addr} {rows : List (List Value)} {D : Nat} {o o' : Obj} (h : Rd sz w A rows) (hD : w.heap[D]? = some o) (hc : o.isCells = false) (hl : ∀ r ∈ rows, 0 < r.length) : Rd sz (w.putObj D o') A rows := by
  refine ⟨fun i hi => ?_⟩
  obtain ⟨b, off, e, hb, hcs⟩ := h.at_ i hi
  have hne : b ≠ D := fun ee => by
    subst ee
    have hr := List.getElem?_eq_getElem hi
    have hp := hl _ (List.getElem_mem hi)
    have := hcs i _ hr 0 _ (List.getElem?_eq_getElem hp)
    simp only [World.cell?, hD] at this
    cases o <;> simp_all [Obj.isCells]
  refine ⟨b, off, e, by simpa using hb, fun j r hj c v hv => ?_⟩
  have := hcs j r hj c v hv
  simp only [World.cell?] at this ⊢
  rw [World.putObj_heap_other hne]
  exact this
/-- What a round of kinds reads. -/
structure KiS (Bk mb Bt F : Nat) (t : P2) (w : World) : Prop where
  g : Own w (Bk + 1) [.func (.func F) #[] #[]]
  c : Own w (Bk + 1 + 1 + 1) [.map (some mb)]
  t : Own w Bt [.int .i64 t.1, .int .i64 t.2]
theorem KiS.below {Bk mb Bt F : Nat} {t : P2} {w w' : World} (k : KiS Bk mb Bt F t w) (hb : Below w.heap.size w w') : KiS Bk mb Bt F t w' := ⟨k.g.below hb k.g.lt, k.c.below hb k.c.lt, k.t.below hb k.t.lt⟩
set_option maxRecDepth 100000 in
set_option maxHeartbeats 8000000 in
theorem wkindsW (h : Wh) (A : Option Addr) (ws : List Wk) (n cap F : Nat) (key : P2 → Int) (w : World) (hA : Rd 5 w A (ws.map wkrow)) (hn : Hid (n = ws.length)) (hV : Hid (WhV h ws))
    (hF : ∀ (t : P2) W, Calls Try.prog F #[trV t] W fun e w' => e = .returned (.int .i64 (key t)) ∧ Below W.heap.size W w') (eg : ∀ args w, (callFunc F args).run Try.prog w = .ok (.enter F args) w) (hkey : ∀ t, Sh.In h.lo h.hi (-h.skew) h.skew t → (Lit.int .i64 (key t)).wf = true) :
    Calls Try.prog 39 #[dkV h A n cap, .func (.func F) #[] #[]] w fun e w' => ∃ (A' : Option Addr) (cap' : Nat) (ks : List Int), e = .returned (.slice A' ks.length cap') ∧ RdI w' A' ks ∧ Hid (KeysOf ks ((Wl.trs h ws).map key)) ∧ Below w.heap.size w w' := by
  have HA := Lib.hid hA
  have HF := Lib.hid hF
  have HK := Lib.hid hkey
  clear hA hF hkey
  have hmm := @run_makeMap Try.prog
  have f2 : Fence.wide.fn 89 := trivial
  have f3 : Fence.wide.fn 91 := trivial
  have f4 : Fence.wide.fn 90 := trivial
  refine (callsIn_wide (n := 12)).1 ?_
  refine callsIn_of_wp_marks Try.func39 rfl trivial ?_ rfl
  simp only [Try.ntmps39, List.size_toArray, List.length_cons, List.length_nil, Nat.reduceAdd, Nat.reduceSub, Array.replicate_succ, Array.replicate_zero, List.push_toArray, List.append_toArray, List.nil_append, List.cons_append]
  gi_wp2
  refine wpIn_gen fun W0 hW0 => ?_
  have hB0 : Below w.heap.size w W0 := by rw [hW0]; (repeat' (first | (with_reducible exact Below.refl _ _) | (with_reducible assumption) | (with_reducible refine Below.drew ?_) | (with_reducible refine below_drewN ?_ _) | (with_reducible refine Below.setCell ?_ ?_ _) | (with_reducible refine Below.alloc ?_ ?_ _) | (refine Below.trans ?_ (Below.mono (by with_reducible assumption) ?_)) | omega | (exact Below.size (by with_reducible assumption)) | (simp; done) | (simp; omega)))
  have hsz : W0.heap.size = w.heap.size + 4 := by rw [hW0]; simp
  have o1 : Own W0 (w.heap.size + 1) [.func (.func F) #[] #[]] := by rw [hW0]; exact ((Own.new' _ _ (by simp) rfl).alloc _).alloc _
  have o3 : Own W0 (w.heap.size + 1 + 1 + 1) [.map (some (w.heap.size + 1 + 1))] := by rw [hW0]; exact Own.new' _ _ (by simp) rfl
  have hM : MapI W0 (w.heap.size + 1 + 1) 0 (fun _ => none) := by
    rw [hW0]
    have k := MapI.made ((w.alloc (.cells #[.int .i64 h.full, .int .i64 h.read, .int .i64 h.slip, .int .i64 h.skew, .int .i64 h.circ, .int .i64 h.lo, .int .i64 h.hi, .int .i64 h.wrong, .slice A n cap] 83)).alloc (.cells #[.func (.func F) #[] #[]] 87))
    rw [World.size_alloc, World.size_alloc] at k
    exact k.below ((Below.refl _ _).alloc (Nat.le_refl _) _) k.lt
  clear hW0 hmm
  refine wpIn_rangeB (by omega) (gf := 89) (fst := #[dkV h A n cap]) (lb := #[]) rfl (enters_of Try.func89 (by kernel_rfl) rfl)
    (wtruthsS h A ws n cap w.heap.size w.heap.size W0 11 (by omega) (fun W hW => HA.out.below (hB0.trans hW) (Nat.le_refl _)) hB0.size (by omega) hn hV)
    (fun k1 k2 => k1.trans k2) (fun W o o' ho hc hw => KpC.put (by omega) (by omega) (by have := (Array.getElem?_eq_some_iff.1 ho).1; omega) (by omega)) (fun _ => rfl)
    (fun pre W => (∃ f, MapI W (w.heap.size + 1 + 1) pre.length f ∧ Hid (KiF key f (pre.map (·.1)))) ∧ (Own W (w.heap.size + 1) [.func (.func F) #[] #[]] ∧ Own W (w.heap.size + 1 + 1 + 1) [.map (some (w.heap.size + 1 + 1))]) ∧ W0.heap.size ≤ W.heap.size ∧ Below w.heap.size w W)
    (fun _ _ _ => False)
    ?hI (fun _ _ _ _ _ hs _ _ => hs) ⟨⟨_, hM, ⟨by simp, by simp⟩⟩, ⟨o1, o3⟩, Nat.le_refl _, hB0⟩
    (fun x a' W => ∃ Bf, W0.heap.size ≤ Bf ∧ Own W Bf [.int .i64 x.1.1, .int .i64 x.1.2] ∧ a' = { tmps := #[dkV h A n cap, .func (.func F) #[] #[], .pointer (some ⟨w.heap.size, 0, none⟩), .pointer (some ⟨w.heap.size + 1, 0, none⟩), .slice none 0 0, .pointer (some ⟨w.heap.size + 1 + 1 + 1, 0, none⟩), .pointer (some ⟨Bf, 0, none⟩), .map (some (w.heap.size + 1 + 1)), dkV h A n cap, .func (.func 89) #[dkV h A n cap] #[], .agg #[.int .i64 x.1.1, .int .i64 x.1.2], undef, undef, undef, undef, undef, undef, undef, undef, undef], defers := [] })
    ?hAx ?assign ?body ?done ?stop
  case hI =>
    rintro s X Y row ⟨⟨f, e0, e1⟩, ⟨e2, e3⟩, e6, e7⟩ hg hr
    have hrow : ∀ r, row = some r → W0.heap.size ≤ r := fun r e => (hr r e).1
    exact ⟨⟨f, e0.kept hg (fun e => by have := hrow _ e.symm; omega), e1⟩, ⟨e2.grown hg (fun e => by have := hrow _ e.symm; omega), e3.grown hg (fun e => by have := hrow _ e.symm; omega)⟩, Nat.le_trans e6 hg.size, e7.grown hg (by omega) (fun k e => by have := hrow k e; omega)⟩
  case hAx =>
    rintro x a' _ X Y row ⟨Bf, h2, h4, h5⟩ hg hr
    exact ⟨Bf, h2, own_abides h4 hg (fun r e => (hr r e).2), h5⟩
  case assign =>
    rintro l pre x W K ⟨⟨f, e0, e1⟩, ⟨e2, e3⟩, e6, e7⟩ hK
    simp only [facT]
    gi_wp2
    have hb : Below W.heap.size W (W.alloc (.cells #[.int .i64 x.1.1, .int .i64 x.1.2] 90)) := (Below.refl _ W).alloc (Nat.le_refl _) _
    exact hK _ _ ((KeepsOthers.alloc _ _).from _) (KpC.below hb (by omega) (by omega)) ⟨⟨f, e0.below hb e0.lt, e1⟩, ⟨e2.alloc _, e3.alloc _⟩, by simp; omega, e7.trans (hb.mono (by omega))⟩ ⟨W.heap.size, e6, Own.new' _ _ rfl rfl, rfl⟩
  case stop =>
    rintro D c pre W _ hh _
    exact hh.elim
  case done =>
    rintro D xs W hD hS ⟨⟨f, e0, e1⟩, ⟨e2, e3⟩, e6, e7⟩ hK
    have hKF := Lib.hid (show KiF key f (Wl.trs h ws) by rw [← hS]; exact e1.out)
    have hxl : xs.length ≤ 410001 := by
      have h1 := congrArg List.length hS
      rw [List.length_map] at h1
      have h2 : (Wl.trs h ws).length ≤ (Sh.allP h.lo h.hi (-h.skew) h.skew).length := List.length_filter_le ..
      have h3 : (Sh.allP h.lo h.hi (-h.skew) h.skew).length = (h.hi - h.lo + 1).toNat * (h.skew - (-h.skew) + 1).toNat := Sh.pairs_len ..
      have a1 := hV.out.k.lo
      have a2 := hV.out.k.hi
      have a3 := hV.out.k.skew
      have h4 := Nat.mul_le_mul (show (h.hi - h.lo + 1).toNat ≤ 10000 by omega) (show (h.skew - (-h.skew) + 1).toNat ≤ 41 by omega)
      omega
    clear e1
    have E7 := Lib.hid e7
    have E0 := Lib.hid e0
    have hKW := Lib.hid hK
    obtain ⟨l3, c3, f3'⟩ := e3
    clear hS e2 hK
    gi_wp2_with fail
    refine (callsIn_wide.2 (keysW _ _)).mono ?_
    rintro e w1 ⟨rfl, rfl⟩
    obtain ⟨Dm, d1, d2⟩ := E0.out
    gi_wp2_with fail
    refine (callsIn_wide.2 (sortedW (w.heap.size + 1 + 1) _ Dm _ W d1 (Nat.le_trans d1.size_le (by unfold maxLen; omega)) (by have := d1.size_le; omega))).mono ?_
    rintro e w2 ⟨v, ss, rfl, hp, hrow, _, hb2⟩
    obtain ⟨hs1, hs2⟩ := keys_sorted d1 d2 hp
    obtain ⟨ks, hks⟩ : ∃ ks, (ss.mergeSort fun x y => decide (x ≤ y)) = ks := ⟨_, rfl⟩
    have hlen : ss.length = ks.length := by rw [← hks, List.length_mergeSort]
    rw [hks] at hs1 hs2 hrow
    rw [hlen] at hrow
    have hG : Gro w2 (W.heap.size + 1) 3 1 v (ks.map irow) := ⟨by simp [irow], by rw [List.length_map, flat_irow']; exact hrow⟩
    obtain ⟨A', cap', rfl, hRd⟩ := hG.out
    rw [List.length_map] at *
    have hKS := Lib.hid (show KeysOf ks ((Wl.trs h ws).map key) from ⟨hs1, fun x => (hs2 x).trans (hKF.out.k x)⟩)
    have hDl : D < W.heap.size := (Array.getElem?_eq_some_iff.1 hKW.out).1
    have hK2 : w2.heap[D]? = some (.deferred (some [])) := (hb2.block D (by omega)).trans ((Below.heap_alloc _ _ _ hDl).trans hKW.out)
    have hB2 : Below w.heap.size w w2 := (E7.out.alloc (by have := E7.out.size; omega) _).trans (hb2.mono (by have := E7.out.size; omega))
    have HRd := Lib.hid hRd
    clear hs1 hs2 hrow hG hb2 hp hKF d1 d2 c3 f3' l3
    gi_wp2
    refine ⟨by simp, .inl ⟨_, _, rfl, run_takeDeferred hK2, ?_⟩⟩
    exact ⟨_, results_tmp rfl _ _ _, A', cap', ks, rfl, rd_putObj HRd.out hK2 rfl (by simp [irow]), hKS, hB2.trans (belowK_b (w := w) (Nat.le_refl _) w2 D _ _ (by omega) hK2 rfl rfl)⟩
  case body =>
    rintro l pre x a' W hl hr ⟨⟨f, e0, e1⟩, ⟨e2, e3⟩, e6, e7⟩ ⟨Bf, hBf, oo, rfl⟩ hlt
    obtain ⟨x, hx1, hx2⟩ := x
    obtain ⟨t1, t2⟩ := x
    have hkw := HK.out _ hx1
    obtain ⟨kx, hkx⟩ : ∃ k, key (t1, t2) = k := ⟨_, rfl⟩
    have HFx := Lib.hid (fun W => HF.out (t1, t2) W)
    rw [hkx] at hkw HFx
    have hnew := Lib.hid (e1.out.snoc (t1, t2))
    rw [hkx] at hnew
    have hc : 0 ≤ (f kx).getD 0 ∧ (f kx).getD 0 ≤ pre.length := by
      cases hf : f kx with
      | none => simp
      | some u => have := e1.out.b _ _ hf; rw [List.length_map] at this; simpa using this
    obtain ⟨c, hcc⟩ : ∃ c, (f kx).getD 0 = c := ⟨_, rfl⟩
    rw [hcc] at hc hnew
    have hw1 : IntKind.i64.wrap (c + 1) = c + 1 := IntWalk.i64_in _ (by omega)
    have hcw : (Lit.int .i64 (c + 1)).wf = true := WalkArith.wf_i64 (by omega)
    have S1 : KiS w.heap.size (w.heap.size + 1 + 1) Bf F (t1, t2) W.drew := ⟨e2.drew, e3.drew, oo.drew⟩
    have M1 : MapI W.drew (w.heap.size + 1 + 1) pre.length f := e0
    have B1 : Below W.heap.size W W.drew := (Below.refl _ _).drew
    have hHW := e7.size
    clear e0 e1 e2 e3 oo
    gi_wp2
    refine region_in (S := KiS w.heap.size (w.heap.size + 1 + 1) Bf F (t1, t2)) 7 (by kernel_rfl) (by kernel_rfl) (by kernel_rfl) (by rintro ⟨a, w, h⟩; exact h) ?_
    generalize W.drew = R0 at S1 B1 M1 ⊢
    refine rg_take (fuel := 4) [0, 1, 2] (by kernel_rfl) (by intro _ _ d _ _ h; first | (cases d <;> exact h) | (simp [Exit.then, Exit.inBlock, ownPostG] at h)) rfl (by kernel_rfl) (by kernel_rfl) S1 ?_; simp only [pickL, pick1, List.cons_append, List.nil_append]
    iterate 3 (refine wpTake_cons (v := ?_) (Or.inl ⟨by rfl, ?_⟩) ?_; rotate_left; (intro w' hSw; have yg := hSw.g.c; have yc := hSw.c.c; have yt := hSw.t.c; clear hSw; go_simp; (try with_reducible rfl)); (try simp only [Act.put, List.setIfInBounds_toArray, List.set_cons_zero, List.set_cons_succ]))
    refine wpTake_nil ?_
    refine rg_one (fuel := 3) 3 rfl (by kernel_rfl) (by kernel_rfl) ?_; simp only [pick1, wpHead]
    intro K' hK; rw [if_pos (by rfl)]; go_simp
    refine (HFx.out _).mono ?_
    rintro e w2 ⟨rfl, hb2⟩
    have S2 := S1.below hb2
    have B2 : Below W.heap.size W w2 := B1.trans (hb2.mono B1.size)
    have M2 := M1.below hb2 M1.lt
    refine hK.out _ _ S2 ?_
    clear S1 B1 M1 hb2
    clear hK K'; (try simp only [Act.put, List.setIfInBounds_toArray, List.set_cons_zero, List.set_cons_succ])
    have hlk := M2.look' hkw
    rw [hcc] at hlk
    refine rg_one (fuel := 2) 4 rfl (by kernel_rfl) (by kernel_rfl) ?_; simp only [pick1, wpHead]
    intro K' hK; rw [if_pos (by rfl)]; go_simp
    refine hK.out _ _ S2 ?_
    clear hK K'; (try simp only [Act.put, List.setIfInBounds_toArray, List.set_cons_zero, List.set_cons_succ])
    refine rg_take (fuel := 1) [5] (by kernel_rfl) (by intro _ _ d _ _ h; first | (cases d <;> exact h) | (simp [Exit.then, Exit.inBlock, ownPostG] at h)) rfl (by kernel_rfl) (by kernel_rfl) S2 ?_; simp only [pickL, pick1, List.cons_append, List.nil_append]
    (refine wpTake_cons (v := ?_) (Or.inl ⟨by rfl, ?_⟩) ?_; rotate_left; (intro w' hSw; have yg := hSw.g.c; have yc := hSw.c.c; have yt := hSw.t.c; clear hSw; go_simp; (try with_reducible rfl)); (try simp only [Act.put, List.setIfInBounds_toArray, List.set_cons_zero, List.set_cons_succ]))
    refine wpTake_nil ?_
    obtain ⟨w3, hrun, M3, g3, s3⟩ := M2.put' (by omega) hkw hcw
    have S3 : KiS w.heap.size (w.heap.size + 1 + 1) Bf F (t1, t2) w3 := ⟨S2.g.grown g3 (fun e => by injection e with e; omega), S2.c.grown g3 (fun e => by injection e with e; omega), S2.t.grown g3 (fun e => by injection e with e; omega)⟩
    clear hlk
    refine rg_one (fuel := 0) 6 rfl (by kernel_rfl) (by kernel_rfl) ?_; simp only [pick1, wpHead]
    intro K' hK; rw [if_pos (by rfl)]; go_simp
    refine hK.out _ _ S3 ?_
    clear hK K'
    refine rg_done (by kernel_rfl) ?_
    gi_wp2
    have h2s := B2.size
    have kg : KpC w.heap.size (W0.heap.size + 2) w.heap.size w2 w3 := ⟨(Below.refl _ w2).grown g3 (by omega) (fun k e => by injection e with e; omega), g3.block _ (by omega) (fun e => by injection e with e; omega), fun b hb hlb => g3.block b hlb (fun e => by injection e with e; omega)⟩
    refine ⟨((KeepsOthers.of_grownBy (grown_of_below B2) (fun j o e _ => by cases e)).from _).trans (KeepsFrom.of_grownBy g3 (fun j e => by injection e with e; omega)), (KpC.below B2 (by omega) (by omega)).trans kg, ⟨_, by rw [List.length_append]; exact M3, ?_⟩, ⟨S3.g, S3.c⟩, by omega, (e7.trans (B2.mono (by omega))).trans kg.1⟩
    rw [List.map_append]
    exact hnew.out
end Go.Proofs.Ytgmhelclofnpkaa
