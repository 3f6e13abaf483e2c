/- Plain mathematics: all that is asked of a coast, from its other end. -/
import Derived.Test.YtibkgnnpmidgfaaDoorBkP
import Derived.Test.YtibkgnnpmidgfaaDoorCs
namespace Go.Proofs.YtibkgnnpmidgfaaDoor

/-- Two coasts on which each pair of dividers has as many wrong reports. -/
def SameW (B : List Pt) (R : List Rep) (B' : List Pt) (R' : List Rep) : Prop := ∀ i x, wrongD B' R' i x = wrongD B R i x
section
variable {B B' D : List Pt} {R R' : List Rep}
theorem minTo_same (h : SameW B R B' R') (i : Nat) (lo : Int) : ∀ k, minTo B' R' i lo k = minTo B R i lo k
  | 0 => rfl
  | k + 1 => by rw [minTo_succ, minTo_succ, minTo_same h i lo k, h]
theorem minW_same (h : SameW B R B' R') (i : Nat) (s : Pt) : minW B' R' i s = minW B R i s := minTo_same h i _ _
theorem fewS_same (h : SameW B R B' R') (but : List Int) : ∀ k, fewS B' D R' but k = fewS B D R but k
  | 0 => rfl
  | k + 1 => by rw [fewS_succ, fewS_succ, fewS_same h but k, minW_same h]
theorem fewV_same (h : SameW B R B' R') : fewV B' D R' = fewV B D R := fewS_same h _ _
theorem totF_same (h : SameW B R B' R') (f : Int → Option Int) : ∀ k, totF B' D R' f k = totF B D R f k
  | 0 => rfl
  | k + 1 => by
    rw [totF_succ, totF_succ, totF_same h f k]
    cases f k with
    | none => simp only [minW_same h]
    | some x => simp only [h k x]
theorem canB_same (h : SameW B R B' R') (cw : Int) (d : Nat) (x : Int) : canB cw B' D R' d x = canB cw B D R d x := by unfold canB; rw [totF_same h]
theorem opsU_same (h : SameW B R B' R') (cw : Int) (d : Nat) (lo : Int) : ∀ j, opsU cw B' D R' d lo j = opsU cw B D R d lo j
  | 0 => rfl
  | j + 1 => by rw [opsU_succ, opsU_succ, canB_same h, opsU_same h cw d lo j]
theorem opsD_same (h : SameW B R B' R') (cw : Int) (d : Nat) : opsD cw B' D R' d = opsD cw B D R d := opsU_same h cw d _ _
theorem lonV_same (h : SameW B R B' R') (hl : ∀ o, lenV B' o = lenV B o) (cw : Int) (a b : Nat) : lonV cw B' D R' a b = lonV cw B D R a b := by
  have h1 : soP cw B' D R' a b = soP cw B D R a b := by
    funext x y
    unfold soP okT longB
    rw [totF_same h, hl, hl]
  have h2 : noP cw B' D R' a b = noP cw B D R a b := by
    funext x y
    unfold noP okT longB
    rw [totF_same h, hl, hl]
  unfold lonV
  rw [h1, h2, opsD_same h, opsD_same h]
theorem askE_same {cw : Int} (h : chkE cw B D R = 0) (h' : chkE cw B' D R' = 0) (v : Bool) : askE cw B' D R' v = askE cw B D R v := by rw [ask_ok h, ask_ok h']
theorem opE_same {cw : Int} (h : chkE cw B D R = 0) (h' : chkE cw B' D R' = 0) (hw : SameW B R B' R') (v : Bool) : opE cw B' D R' v = opE cw B D R v := by
  unfold opE; rw [askE_same h h', fewV_same hw]
theorem opgL_same {cw : Int} (h : chkE cw B D R = 0) (h' : chkE cw B' D R' = 0) (hw : SameW B R B' R') (d : Int) : opgL cw B' D R' d = opgL cw B D R d := by
  unfold opgL; rw [opE_same h h' hw, opsD_same hw]
theorem lonN_same {cw : Int} (h : chkE cw B D R = 0) (h' : chkE cw B' D R' = 0) (hw : SameW B R B' R') (hl : ∀ o, lenV B' o = lenV B o) (a b : Int) : lonN cw B' D R' a b = lonN cw B D R a b := by
  unfold lonN; rw [opE_same h h' hw, lonV_same hw hl]
theorem lngN_same {cw : Int} (h : chkE cw B D R = 0) (h' : chkE cw B' D R' = 0) (hl : ∀ o, lenV B' o = lenV B o) (o : Int) : lngN cw B' D R' o = lngN cw B D R o := by
  unfold lngN; rw [askE_same h h', hl]
theorem lngE_same {cw : Int} (h : chkE cw B D R = 0) (h' : chkE cw B' D R' = 0) (hl : ∀ o, lenV B' o = lenV B o) (o : Int) : lngE cw B' D R' o = lngE cw B D R o := by
  unfold lngE; rw [askE_same h h', hl]
end

/-- A report, told from the other end. -/
def revR (N : Nat) (r : Rep) : Rep := ⟨r.d, (N : Int) - 1 - r.t, (N : Int) - 1 - r.f, r.s⟩
theorem rightB_rev {B : List Pt} {r : Rep} {x : Int} (h1 : 0 ≤ r.f) (h2 : r.f < r.t) (h3 : r.t < B.length) : rightB B.reverse (revR B.length r) x = rightB B r x := by
  unfold rightB revR
  have e1 : ((B.length : Int) - 1 - r.t).toNat = B.length - 1 - r.t.toNat := by omega
  have e2 : ((B.length : Int) - 1 - r.f).toNat = B.length - 1 - r.f.toNat := by omega
  show (mk B.reverse x ((B.length : Int) - 1 - r.t).toNat ((B.length : Int) - 1 - r.f).toNat).testBit r.s.toNat = _
  rw [e1, e2, mk_rev (by omega) (by omega)]
theorem wrongL_rev {B : List Pt} {i : Nat} {x : Int} : ∀ {l : List Rep}, (∀ r ∈ l, 0 ≤ r.f ∧ r.f < r.t ∧ r.t < B.length) → wrongL B.reverse i x (l.map (revR B.length)) = wrongL B i x l
  | [], _ => rfl
  | r :: l, h => by
    have ih := wrongL_rev (i := i) (x := x) (l := l) (fun q hq => h q (List.mem_cons_of_mem _ hq))
    obtain ⟨h1, h2, h3⟩ := h r (List.mem_cons_self ..)
    unfold wrongL at *
    rw [List.map_cons, List.filter_cons, List.filter_cons, rightB_rev h1 h2 h3, show (revR B.length r).d = r.d from rfl]
    split
    · rw [List.length_cons, List.length_cons, ih]
    · exact ih
theorem sameW_rev {cw : Int} {B D : List Pt} {R : List Rep} (hV : Val cw B D R) : SameW B R B.reverse (R.map (revR B.length)) := fun _ _ => wrongL_rev fun r hr => by have := hV.rs r hr; omega
theorem lenV_rev {B : List Pt} (h : 2 ≤ B.length) (o : Int) : lenV B.reverse o = lenV B o := by
  unfold lenV
  have := mk_rev (B := B) (o := o) (f := 0) (t := B.length - 1) (by omega) (by omega)
  rw [List.length_reverse, show B.length - 1 - (B.length - 1) = 0 by omega, Nat.sub_zero] at *
  rw [this]
theorem okB_iff {B : List Pt} : okB B = true ↔ (∀ i, i < B.length → isPt (atB B i) = true) ∧ ∀ i, i + 1 < B.length → atB B (i + 1) ≠ atB B i := by
  unfold okB okAt
  simp only [List.all_eq_true, List.mem_range, Bool.and_eq_true, Bool.not_eq_true', Bool.and_eq_false_iff, decide_eq_false_iff_not]
  constructor
  · intro h
    refine ⟨fun i hi => (h i hi).1, fun i hi => ?_⟩
    rcases (h (i + 1) hi).2 with h' | h'
    · omega
    · rwa [Nat.add_sub_cancel] at h'
  · rintro ⟨h1, h2⟩ i hi
    refine ⟨h1 i hi, ?_⟩
    cases i with
    | zero => left; omega
    | succ i => right; rw [Nat.add_sub_cancel]; exact h2 i hi
theorem okB_rev {B : List Pt} (h : okB B = true) : okB B.reverse = true := by
  rw [okB_iff] at *
  obtain ⟨h1, h2⟩ := h
  rw [List.length_reverse]
  have at_ : ∀ i, i < B.length → atB B.reverse i = atB B (B.length - 1 - i) := by
    intro i hi
    have := atB_rev (B := B) (i := B.length - 1 - i) (by omega)
    rwa [show B.length - 1 - (B.length - 1 - i) = i by omega] at this
  refine ⟨fun i hi => by rw [at_ i hi]; exact h1 _ (by omega), fun i hi => ?_⟩
  rw [at_ _ hi, at_ i (by omega)]
  have := h2 (B.length - 1 - (i + 1)) (by omega)
  rw [show B.length - 1 - (i + 1) + 1 = B.length - 1 - i by omega] at this
  exact fun e => this e.symm
theorem chkE_rev {cw : Int} {B D : List Pt} {R : List Rep} (h : chkE cw B D R = 0) : chkE cw B.reverse D (R.map (revR B.length)) = 0 := by
  have hc := chk_ok h
  unfold chkE
  rw [if_pos]
  unfold chkB at *
  simp only [Bool.and_eq_true, List.length_reverse, List.length_map, List.all_map] at *
  obtain ⟨⟨⟨⟨⟨⟨h1, h2⟩, h3⟩, h4⟩, h5⟩, h6⟩, h7⟩ := hc
  refine ⟨⟨⟨⟨⟨⟨okB_rev h1, h2⟩, h3⟩, h4⟩, h5⟩, ?_⟩, h7⟩
  rw [List.all_eq_true] at *
  intro r hr
  have := h6 r hr
  show okR B.length D.length (revR B.length r) = true
  unfold okR revR at *
  simp only [Bool.and_eq_true, plB_iff] at *
  exact ⟨⟨this.1.1, by omega⟩, this.2⟩
section
variable {cw : Int} {B D : List Pt} {R : List Rep} {f t : Nat}
theorem plB_rev (hft : f < t) (ht : t < B.length) : plB B.reverse.length ((B.length : Int) - 1 - t) ((B.length : Int) - 1 - f) = plB B.length f t := by
  rw [List.length_reverse, plB_iff.2 (by omega), plB_iff.2 (by omega)]
theorem cntL_rev (h : chkE cw B D R = 0) (hft : f < t) (ht : t < B.length) (o : Int) : cntL cw B.reverse D (R.map (revR B.length)) o ((B.length : Int) - 1 - t) ((B.length : Int) - 1 - f) = cntL cw B D R o f t := by
  unfold cntL askC
  rw [plB_rev hft ht, askE_same h (chkE_rev h), show ((B.length : Int) - 1 - t).toNat = B.length - 1 - t by omega, show ((B.length : Int) - 1 - f).toNat = B.length - 1 - f by omega, mk_rev (by omega) ht]; rfl
theorem cntE_rev (h : chkE cw B D R = 0) (hft : f < t) (ht : t < B.length) (o : Int) : cntE cw B.reverse D (R.map (revR B.length)) o ((B.length : Int) - 1 - t) ((B.length : Int) - 1 - f) = cntE cw B D R o f t := by
  unfold cntE askC
  rw [plB_rev hft ht, askE_same h (chkE_rev h), show ((B.length : Int) - 1 - t).toNat = B.length - 1 - t by omega, show ((B.length : Int) - 1 - f).toNat = B.length - 1 - f by omega, mk_rev (by omega) ht]; rfl
theorem opnS_rev (hft : f < t) (ht : t < B.length) (m : Int) : opnS B.reverse (B.length - 1 - t) (B.length - 1 - f) m = opnS B f t m := by
  unfold opnS
  congr 1
  funext i
  rw [mk_rev (by omega) ht]
theorem opnN_rev (h : chkE cw B D R = 0) (hft : f < t) (ht : t < B.length) (m : Int) : opnN cw B.reverse D (R.map (revR B.length)) ((B.length : Int) - 1 - t) ((B.length : Int) - 1 - f) m = opnN cw B D R f t m := by
  unfold opnN askO
  rw [plB_rev hft ht, askE_same h (chkE_rev h), show ((B.length : Int) - 1 - t).toNat = B.length - 1 - t by omega, show ((B.length : Int) - 1 - f).toNat = B.length - 1 - f by omega, opnS_rev hft ht]; rfl
theorem opnE_rev (h : chkE cw B D R = 0) (hft : f < t) (ht : t < B.length) (m : Int) : opnE cw B.reverse D (R.map (revR B.length)) ((B.length : Int) - 1 - t) ((B.length : Int) - 1 - f) m = opnE cw B D R f t m := by
  unfold opnE askO
  rw [plB_rev hft ht, askE_same h (chkE_rev h), show ((B.length : Int) - 1 - t).toNat = B.length - 1 - t by omega, show ((B.length : Int) - 1 - f).toNat = B.length - 1 - f by omega, opnS_rev hft ht]; rfl
end
end Go.Proofs.YtibkgnnpmidgfaaDoor
