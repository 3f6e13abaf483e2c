/- Walks: worst of the reference. -/
import Derived.Test.YtphcpphmoeiioaaDoW
namespace Go.Proofs.Ytphcpphmoeiioaa
open Go.RowKit Go.Maps

/-- By how much the greatest number of a list is greater than the least one. -/
def DbR (g : List Int → Int) (ls : List (List Int)) (d : Int) : Prop := ∃ lo hi, SpK g ls ls.length lo hi ∧ d = hi - lo
theorem SpK.uniq {g : List Int → Int} {ls : List (List Int)} {k : Nat} {lo hi lo' hi' : Int} (h : SpK g ls k lo hi) (j : SpK g ls k lo' hi') : lo = lo' ∧ hi = hi' := by
  rcases h with ⟨h0, rfl, rfl⟩ | ⟨h0, h1⟩ <;> rcases j with ⟨j0, rfl, rfl⟩ | ⟨j0, j1⟩
  · exact ⟨rfl, rfl⟩
  · omega
  · omega
  · exact h1.uniq j1
theorem DbR.uniq {g : List Int → Int} {ls : List (List Int)} {d e : Int} (h : DbR g ls d) (j : DbR g ls e) : d = e := by
  obtain ⟨lo, hi, h1, rfl⟩ := h
  obtain ⟨lo', hi', j1, rfl⟩ := j
  obtain ⟨rfl, rfl⟩ := h1.uniq j1
  rfl
theorem DbR.nn {g : List Int → Int} {ls : List (List Int)} {d : Int} (h : DbR g ls d) : 0 ≤ d := by
  obtain ⟨lo, hi, h1, rfl⟩ := h
  rcases h1 with ⟨_, rfl, rfl⟩ | ⟨_, h1⟩
  · omega
  · have := (h1.2.2 _ h1.1).2; omega
/-- The rows with a height at a place. -/
def atB (p : Nat) (x : Int) (l : List Int) : Bool := decide (fnL l p = x)
def WsL (g : List Int → Int) (ls : List (List Int)) (p : Nat) (rl : Int) (j : Nat) (m : Int) : Prop :=
  0 ≤ m ∧ (m = 0 ∨ ∃ i, i < j ∧ DbR g (ls.filter (atB p (rl + (i : Int)))) m) ∧ ∀ i, i < j → ∀ d, DbR g (ls.filter (atB p (rl + (i : Int)))) d → d ≤ m
theorem WsL.zero (g : List Int → Int) (ls : List (List Int)) (p : Nat) (rl : Int) : WsL g ls p rl 0 0 := ⟨by omega, Or.inl rfl, fun i h => by omega⟩
theorem WsL.next {g : List Int → Int} {ls : List (List Int)} {p : Nat} {rl : Int} {j : Nat} {m d : Int} (h : WsL g ls p rl j m) (hd : DbR g (ls.filter (atB p (rl + (j : Int)))) d) : WsL g ls p rl (j + 1) (max m d) := by
  obtain ⟨h0, h1, h2⟩ := h
  refine ⟨by omega, ?_, fun i hi e he => ?_⟩
  · by_cases q : d ≤ m
    · rcases h1 with h1 | ⟨i, hi, h1⟩
      · exact Or.inl (by omega)
      · exact Or.inr ⟨i, by omega, by rw [show max m d = m by omega]; exact h1⟩
    · exact Or.inr ⟨j, by omega, by rw [show max m d = d by omega]; exact hd⟩
  · by_cases q : i < j
    · have := h2 i q e he; omega
    · obtain rfl : i = j := by omega
      have := hd.uniq he; omega
theorem wsl_wst {L sl rl rh wg : Int} {ks : List Kn} (h1 : rl ≤ rh) (h0 : 0 ≤ L) {p : Nat} (hp : (p : Int) ≤ L) {m : Int} (hT : ∃ h, Truth (cvOf L sl rl rh wg ks) h) (h : WsL (fun l => sUp (fnL l) 0 L (L.toNat + 1)) (truL L sl rl rh wg ks) p rl (rh - rl + 1).toNat m) : WstP (cvOf L sl rl rh wg ks) p m := by
  have cut : ∀ h : Nat → Int, sUp h 0 L (L.toNat + 1) = sUp h 0 (cvOf L sl rl rh wg ks).long (cvOf L sl rl rh wg ks).long := fun h => by
    show sUp h 0 L (L.toNat + 1) = sUp h 0 (L.toNat : Int) L.toNat
    have e : (L.toNat : Int) = L := by omega
    rw [e]
    show sUp h 0 L L.toNat + _ = _
    rw [if_neg (by omega)]; omega
  obtain ⟨_, k1, k2⟩ := h
  have zero : ∃ h g, Truth (cvOf L sl rl rh wg ks) h ∧ Truth (cvOf L sl rl rh wg ks) g ∧ h p = g p ∧ sUp h 0 (cvOf L sl rl rh wg ks).long (cvOf L sl rl rh wg ks).long - sUp g 0 (cvOf L sl rl rh wg ks).long (cvOf L sl rl rh wg ks).long = 0 := by
    obtain ⟨h, hh⟩ := hT
    exact ⟨h, h, hh, hh, rfl, by omega⟩
  refine ⟨?_, fun h g hh hg e => ?_⟩
  · rcases k1 with rfl | ⟨i, _, lo, hi, hs, rfl⟩
    · exact zero
    · rcases hs.all with ⟨_, rfl, rfl⟩ | ⟨_, ⟨l1, a1, a2⟩, ⟨l2, b1, b2⟩, _⟩
      · exact zero
      · have c1 := List.mem_filter.1 a1
        have c2 := List.mem_filter.1 b1
        have d1 : fnL l1 p = rl + i := of_decide_eq_true c1.2
        have d2 : fnL l2 p = rl + i := of_decide_eq_true c2.2
        refine ⟨fnL l2, fnL l1, (mem_truL.1 c2.1).2, (mem_truL.1 c1.1).2, by omega, ?_⟩
        rw [← cut, ← cut, ← a2, ← b2]
  · have hr : rl ≤ h p ∧ h p ≤ rh := hh.1.1 p (by show p ≤ L.toNat; omega)
    obtain ⟨a1, a2⟩ := truL_has hh
    obtain ⟨b1, b2⟩ := truL_has hg
    have hpp : p ≤ L.toNat := by omega
    have m1 : (List.range (L.toNat + 1)).map h ∈ (truL L sl rl rh wg ks).filter (atB p (rl + (((h p - rl).toNat : Nat) : Int))) := List.mem_filter.2 ⟨a1, decide_eq_true (by rw [a2 p hpp]; omega)⟩
    have m2 : (List.range (L.toNat + 1)).map g ∈ (truL L sl rl rh wg ks).filter (atB p (rl + (((h p - rl).toNat : Nat) : Int))) := List.mem_filter.2 ⟨b1, decide_eq_true (by rw [b2 p hpp, ← e]; omega)⟩
    -- the span of these rows
    have hne : (truL L sl rl rh wg ks).filter (atB p (rl + (((h p - rl).toNat : Nat) : Int))) ≠ [] := fun e => by rw [e] at m1; cases m1
    have hex : ∃ d, DbR (fun l => sUp (fnL l) 0 L (L.toNat + 1)) ((truL L sl rl rh wg ks).filter (atB p (rl + (((h p - rl).toNat : Nat) : Int)))) d := spK_ex _ _
    obtain ⟨d, hd⟩ := hex
    have hm := k2 _ (by omega) d hd
    obtain ⟨lo, hi, hs, rfl⟩ := hd
    rcases hs.all with ⟨h0, _⟩ | ⟨_, hs⟩
    · exact absurd h0 hne
    · have s1 := hs.2.2 _ ⟨_, m1, rfl⟩
      have s2 := hs.2.2 _ ⟨_, m2, rfl⟩
      have t1 : sUp (fnL ((List.range (L.toNat + 1)).map h)) 0 L (L.toNat + 1) = sUp h 0 (cvOf L sl rl rh wg ks).long (cvOf L sl rl rh wg ks).long := by rw [cut]; exact sUp_congr a2
      have t2 : sUp (fnL ((List.range (L.toNat + 1)).map g)) 0 L (L.toNat + 1) = sUp g 0 (cvOf L sl rl rh wg ks).long (cvOf L sl rl rh wg ks).long := by rw [cut]; exact sUp_congr b2
      simp only [t1] at s1
      simp only [t2] at s2
      omega
where
  spK_ex (g : List Int → Int) (ls : List (List Int)) : ∃ d, DbR g ls d := by
    have key : ∀ k, k ≤ ls.length → ∃ lo hi, SpK g ls k lo hi := by
      intro k
      induction k with
      | zero => intro _; exact ⟨0, 0, SpK.zero g ls⟩
      | succ k ih =>
        intro hk
        obtain ⟨lo, hi, h⟩ := ih (by omega)
        exact ⟨_, _, h.next (List.getElem?_eq_getElem (by omega))⟩
    obtain ⟨lo, hi, h⟩ := key ls.length (Nat.le_refl _)
    exact ⟨_, lo, hi, h, rfl⟩
section
attribute [local go_sem ↓] mx2_run
set_option maxRecDepth 100000 in
set_option maxHeartbeats 8000000 in
theorem rworst55 (L sl rl rh wg : Int) (A0 : Option Addr) (n0 c0 : Nat) (A : Option Addr) (c : Nat) (ls : List (List Int)) (p : Nat) (w : World) (hll : RdLL w A ls) (hL0 : 1 ≤ L) (hL9 : L ≤ 12) (hr1 : -100 ≤ rl) (hr2 : rl ≤ rh) (hr3 : rh ≤ 100) (hp : (p : Int) ≤ L) (hl15 : ls.length ≤ 1500) (hmem : Hid (∀ l ∈ ls, (l.length : Int) = L + 1 ∧ ∀ x ∈ l, -100 ≤ x ∧ x ≤ 100)) :
    Calls Try.prog 55 #[.agg #[.int .i64 L, .int .i64 sl, .int .i64 rl, .int .i64 rh, .slice A0 n0 c0, .int .i64 wg], .slice A ls.length c, .int .i64 p] w fun e w' => ∃ m : Int, e = .returned (.int .i64 m) ∧ Hid (WsL (fun l => sUp (fnL l) 0 L (L.toNat + 1)) ls p rl (rh - rl + 1).toNat m) ∧ Below w.heap.size w w' := by
  obtain ⟨j0, hj0, hj1, hj2, hj3⟩ := info_parts info44
  have HLL := Lib.hid hll
  clear hll
  obtain ⟨wd, hwd⟩ : ∃ x : Nat, x = (rh - rl + 1).toNat := ⟨_, rfl⟩
  have hwd2 : (wd : Int) = rh - rl + 1 := by omega
  rw [← hwd]
  clear hwd
  go_enter Try.func55, Try.ntmps55
  go_wp2
  go_loopg [7, 8] wd (fun K y z w5 => ∃ (j : Nat) (m : Int), K + j = wd ∧ z = .int .i64 (rl + (j : Int)) ∧ y = .int .i64 m ∧ Hid (WsL (fun l => sUp (fnL l) 0 L (L.toNat + 1)) ls p rl j m) ∧ (0 ≤ m ∧ m ≤ 5200) ∧ Hid (Own w5 w.heap.size [.int .i64 L, .int .i64 sl, .int .i64 rl, .int .i64 rh, .slice A0 n0 c0, .int .i64 wg]) ∧ Hid (Below w.heap.size w w5))
  case atStart => exact ⟨0, 0, by omega, (by simp), rfl, Lib.hid (WsL.zero _ _ _ _), by omega, Lib.hid (Own.new' _ _ rfl rfl), Lib.hid (by (repeat' (first | (with_reducible exact Below.refl _ _) | (with_reducible assumption) | (with_reducible refine Below.drew ?_) | (with_reducible refine below_drewN ?_ _) | (with_reducible refine Below.setCell ?_ ?_ _) | (with_reducible refine Below.alloc ?_ ?_ _) | (refine Below.trans ?_ (Below.mono (by with_reducible assumption) ?_)) | omega | (exact Below.size (by with_reducible assumption)) | (simp; done) | (simp; omega))))⟩
  case round =>
    obtain ⟨j, m, hK, rfl, rfl, hws, hmb, hoc, hbw⟩ := hrel
    obtain ⟨lc, kc, fc⟩ := hoc.out
    by_cases hlt : j < wd
    · obtain ⟨x, hx⟩ : ∃ x, x = rl + (j : Int) := ⟨_, rfl⟩
      have hxb : rl ≤ x ∧ x ≤ rh := by omega
      have HX := Lib.hid hx
      rw [← hx]
      clear hx
      have hsz := hbw.out.size
      have HW := Lib.hid hbw.out
      obtain ⟨w3, hw3⟩ : ∃ w3 : World, w3 = wr := ⟨_, rfl⟩
      rw [← hw3] at hoc hbw lc kc fc hsz HW ⊢
      clear hw3
      have hlw3 := lc
      go_wp2
      go_loopg [9, 10] ls.length (fun K v y wi => ∃ (k : Nat) (xs : List Sl), K + k = ls.length ∧ y = .int .i64 k ∧ Hid (Own wi w.heap.size [.int .i64 L, .int .i64 sl, .int .i64 rl, .int .i64 rh, .slice A0 n0 c0, .int .i64 wg]) ∧ Gro wi w3.heap.size 44 1 v (xs.map slrow) ∧ InLs wi xs ((ls.take k).filter (atB p x)) ∧ Hid (Below w3.heap.size w3 wi))
      case atStart => exact ⟨0, [], by omega, rfl, hoc, Gro.nil _ _ _ _, (by simpa using InLs.nil _), Lib.hid (Below.refl _ _)⟩
      case round =>
        clear lc kc fc hoc hbw
        obtain ⟨wo, rfl⟩ : ∃ wo : World, wo = wr := ⟨_, rfl⟩
        obtain ⟨k, xs, hk, rfl, hoc, hg, hin, hbv⟩ := hrel
        obtain ⟨PA, pc, rfl, hrd⟩ := hg.out
        have hxl := Lib.hid hin.len
        rw [List.length_map]
        rw [List.length_map] at hg
        have hxk : xs.length ≤ k := by
          rw [hxl.out]
          exact Nat.le_trans (List.length_filter_le _ _) (by rw [List.length_take]; omega)
        obtain ⟨lc, kc, fc⟩ := hoc.out
        have hzi := hbv.out.size
        have hbw := Lib.hid (HW.out.trans (hbv.out.mono hsz))
        by_cases hkn : k < ls.length
        · obtain ⟨l, hl⟩ : ∃ l, Hid (ls[k]? = some l) := ⟨ls[k]'hkn, by simp [Hid]⟩
          have hol := (hmem.out l (List.mem_of_getElem? hl.out)).1
          obtain ⟨b, off, A', c', hAe, hbl, hcell, hrl, hty⟩ := (HLL.out.below hbw.out (Nat.le_refl _)).elemT hl.out
          have hAE := Lib.hid hAe
          have hAA := hAE.out
          subst hAA
          have e0 := Lib.hid (fnL_at (l := l) (i := p) (by omega))
          obtain ⟨b1, off1, hAe1, hb1, hcell1⟩ := hrl.elem e0.out
          have hAE1 := Lib.hid hAe1
          have hAA1 := hAE1.out
          subst hAA1
          have HTF2 := Lib.hid (take_filter (p := atB p x) hl.out)
          have HRL := Lib.hid hrl
          have HTY := Lib.hid hty
          have y0 : (k : Int) < (ls.length : Int) := by omega
          have y1 : (p : Int) < (l.length : Int) := by omega
          have y2 : p < l.length := by omega
          have hl13 : l.length ≤ 13 := by omega
          have HG := Lib.hid hg
          have HIN := Lib.hid hin
          have hgl : PA = PA := rfl
          clear hrl hty hrd hol hg hin hAe hAE hAe1 hAE1 hgl
          by_cases hq : fnL l p = x
          · have hqb : Hid (atB p x l = true) := Lib.hid (decide_eq_true hq)
            rw [hq] at hcell1
            have hz11 : w3.heap.size ≤ wo.heap.size := hzi
            have HI := Lib.hid (HIN.out.append (InLs.one (c := c') rfl HRL.out HTY.out))
            clear hq e0 HIN
            go_wp2_with (at_builtin; go_must (refine wpList_append_own _ rfl _ _ 77 rfl w3.heap.size 44 j0 (.slice none 0 0) 1 24 Try.underlying77 hj0 hj1 hj2 hj3 rfl (by decide) _ _ _ rfl (HG.out.2.alloc _) ⟨wo.heap.size, 0, none⟩ 1 1 [.slice (some ⟨b1, off1, none⟩) l.length c'] rfl rfl (cell_one_new _ _ _) (by intro u hu; simp at hu; subst hu; rfl) (by unfold maxLen; rw [List.length_map]; omega) (by rw [List.length_map]; omega) (by simp; omega) ?_; intro v' w12 hown' hgrow hnil; have hbA : Below w3.heap.size wo w12 := ((Below.refl _ wo).alloc hz11 _).grown hgrow (by simp; omega) (fun i hi => (HG.out.2.lt i hi).1); have g12 : Gro w12 w3.heap.size 44 1 v' (xs.map slrow ++ [slrow (some ⟨b1, off1, none⟩, l.length, c')]) := Gro.grown HG.out rfl hown'; have i12 := (HI.out.below ((Below.refl wo.heap.size wo).alloc (Nat.le_refl _) (.cells #[.slice (some ⟨b1, off1, none⟩) l.length c'] 44)) (Nat.le_refl _)).keptBy hgrow (HG.out.alloc _) (by decide); have oc12 := Lib.hid (hoc.out.below hbA (by omega)); have hbV := Lib.hid (hbv.out.trans hbA); clear hown' hgrow hnil hbA))
            go_roundg (ls.length - (k + 1))
            case measure => omega
            case rel => exact ⟨k + 1, xs ++ [(some ⟨b1, off1, none⟩, l.length, c')], by omega, by go_num, oc12, (by rw [List.map_append]; exact g12), (by rw [HTF2.out, hqb.out]; exact i12), hbV⟩
          · have hqb : Hid (atB p x l = false) := Lib.hid (decide_eq_false hq)
            have hqe : (fnL l p == x) = false := by simpa using hq
            generalize fnL l p = x2 at *
            clear hq e0
            go_wp2
            go_roundg (ls.length - (k + 1))
            case measure => omega
            case rel => exact ⟨k + 1, xs, by omega, by go_num, hoc, HG.out, (by rw [HTF2.out, hqb.out, if_neg (by simp), List.append_nil]; exact HIN.out), hbv⟩
        · have hkk : ls.length = k := by omega
          rw [List.take_of_length_le (by omega)] at hin hxl
          obtain ⟨PA', pc', hv', hll⟩ := hg.rdLL hin
          have HLX := Lib.hid hll
          have hxx : xs.length = ((ls.filter (atB p x)).length) := hxl.out
          have hfl : (ls.filter (atB p x)).length ≤ 1500 := Nat.le_trans (List.length_filter_le _ _) hl15
          have hfm : Hid (∀ l ∈ ls.filter (atB p x), (l.length : Int) = L + 1 ∧ ∀ x ∈ l, -100 ≤ x ∧ x ≤ 100) := Lib.hid fun l hl => hmem.out l ((List.mem_filter.1 hl).1)
          rw [hv']
          clear hll hin hg hrd hv' hkk
          generalize hff : ls.filter (atB p x) = fs at *
          have HFF := Lib.hid hff
          clear hff hxx hxl hxk
          go_wp2_with fail
          refine (doubt80 L sl rl rh wg A0 n0 c0 PA' pc' fs _ HLX.out hL0 hL9 hfl hfm).mono ?_
          rintro e w4 ⟨lo, hi, rfl, hsp, hbd, hb4⟩
          have hB4 := Lib.hid (hbw.out.trans (hb4.mono hbw.out.size))
          have ho4 := Lib.hid (hoc.out.below hb4 lc)
          have hdb := Lib.hid (hws.out.next (d := hi - lo) (by rw [← HX.out, HFF.out]; exact ⟨lo, hi, hsp.out, rfl⟩))
          have hdn : 0 ≤ hi - lo := DbR.nn ⟨lo, hi, hsp.out, rfl⟩
          have hXX := HX.out
          clear hb4 lc kc fc hsp
          obtain ⟨lc, kc, fc⟩ := ho4.out
          generalize hd : hi - lo = d at *
          have hd52 : d ≤ 5200 := by omega
          clear hd hXX
          go_wp2
          go_roundg (wd - (j + 1))
          case measure => omega
          case rel => exact ⟨j + 1, max m d, by omega, (by rw [HX.out]; go_num), rfl, hdb, by omega, ho4, hB4⟩
    · obtain rfl : j = wd := by omega
      go_wp2
      go_ret
      exact ⟨m, rfl, hws, hbw.out⟩
end
end Go.Proofs.Ytphcpphmoeiioaa
