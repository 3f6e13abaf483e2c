/- Walks: Longer of the program. -/
import Derived.Test.YtibkgnnpmidgfaaDoorCq
import Derived.Test.YtibkgnnpmidgfaaDoorCn
import Derived.Test.YtibkgnnpmidgfaaDoorGen
namespace Go.Proofs.YtibkgnnpmidgfaaDoor
open Go.RowKit Go.Maps

theorem opsU_mem {cw : Int} {B D : List Pt} {R : List Rep} {d : Nat} {lo x : Int} : ∀ {j : Nat}, x ∈ opsU cw B D R d lo j → lo ≤ x ∧ x < lo + j
  | 0, h => by cases h
  | j + 1, h => by
    rw [opsU_succ] at h
    split at h
    · rcases List.mem_append.1 h with h | h
      · have := opsU_mem h; omega
      · rw [List.mem_singleton] at h; omega
    · have := opsU_mem h; omega
theorem opsD_mem {cw : Int} {B D : List Pt} {R : List Rep} {d : Nat} {x : Int} (h : x ∈ opsD cw B D R d) : (sAt D d).1 ≤ x ∧ x ≤ (sAt D d).2 := by
  unfold opsD at h
  have := opsU_mem h
  omega
theorem sAt_val {cw : Int} {B D : List Pt} {R : List Rep} (hV : Val cw B D R) {d : Nat} (hd : d < D.length) : 1 ≤ (sAt D d).1 ∧ (sAt D d).1 ≤ (sAt D d).2 ∧ (sAt D d).2 ≤ 60 := by
  unfold sAt
  rw [List.getD_eq_getElem?_getD, List.getElem?_eq_getElem hd]
  exact hV.ds _ (List.getElem_mem hd)
theorem opsD_len {cw : Int} {B D : List Pt} {R : List Rep} (hV : Val cw B D R) {d : Nat} (hd : d < D.length) : (opsD cw B D R d).length ≤ 60 := by
  have h1 := sAt_val hV hd
  have h2 := opsU_len cw B D R d (sAt D d).1 ((sAt D d).2 - (sAt D d).1 + 1).toNat
  unfold opsD
  omega
/-- Openings of two pairs of dividers. -/
def twoF (a b : Nat) (x y : Int) : Int → Option Int := upd (upd (fun _ => none) a x) b y
theorem twoF_some {a b : Nat} {x y k c : Int} (h : twoF a b x y k = some c) : (k = b ∧ c = y) ∨ (k = a ∧ c = x) := by
  unfold twoF at h
  rw [upd] at h
  split at h
  · simp at h; exact Or.inl ⟨by assumption, h.symm⟩
  · exact Or.inr (oneF_some h)
def okT (cw : Int) (B D : List Pt) (R : List Rep) (a b : Nat) (x y : Int) : Bool := !(decide (a = b) && decide (x ≠ y)) && decide ((totF B D R (twoF a b x y) D.length : Int) ≤ cw)
def longB (B : List Pt) (x y : Int) : Bool := decide (lenV B y < lenV B x) && decide (0 < lenV B y)
def cnt1 (p : Int → Int → Bool) (x : Int) (ys : List Int) : Nat := (ys.filter (p x)).length
def cnt2 (p : Int → Int → Bool) (xs ys : List Int) : Nat := (xs.map fun x => cnt1 p x ys).sum
def soP (cw : Int) (B D : List Pt) (R : List Rep) (a b : Nat) (x y : Int) : Bool := okT cw B D R a b x y && longB B x y
def noP (cw : Int) (B D : List Pt) (R : List Rep) (a b : Nat) (x y : Int) : Bool := okT cw B D R a b x y && !longB B x y
theorem cnt1_snoc (p : Int → Int → Bool) (x : Int) (ys : List Int) (y : Int) : cnt1 p x (ys ++ [y]) = cnt1 p x ys + (if p x y = true then 1 else 0) := by
  unfold cnt1
  rw [List.filter_append, List.length_append, List.filter_cons]
  split <;> simp
theorem cnt1_le (p : Int → Int → Bool) (x : Int) (ys : List Int) : cnt1 p x ys ≤ ys.length := List.length_filter_le _ _
theorem cnt2_snoc (p : Int → Int → Bool) (xs : List Int) (x : Int) (ys : List Int) : cnt2 p (xs ++ [x]) ys = cnt2 p xs ys + cnt1 p x ys := by
  unfold cnt2; simp
theorem cnt2_le (p : Int → Int → Bool) (ys : List Int) : ∀ xs : List Int, cnt2 p xs ys ≤ xs.length * ys.length
  | [] => Nat.zero_le _
  | x :: xs => by
    have := cnt2_le p ys xs
    have := cnt1_le p x ys
    unfold cnt2 at *
    rw [List.map_cons, List.sum_cons, List.length_cons, Nat.succ_mul]
    omega
def verd (s n : Nat) : Int := if n = 0 then 1 else if s = 0 then 2 else 3
def lonV (cw : Int) (B D : List Pt) (R : List Rep) (a b : Nat) : Int :=
  verd (cnt2 (soP cw B D R a b) (opsD cw B D R a) (opsD cw B D R b)) (cnt2 (noP cw B D R a b) (opsD cw B D R a) (opsD cw B D R b))
def isDv2 (D : List Pt) (a b : Int) : Bool := isDv D a && isDv D b
def lonN (cw : Int) (B D : List Pt) (R : List Rep) (a b : Int) : Int := if opE cw B D R (isDv2 D a b) = 0 then lonV cw B D R a.toNat b.toNat else 0

theorem cast_step {s0 c d : Nat} {m : Nat} (h : m = c + d) : (Value.int .i64 ((s0 : Int) + (c : Int) + (d : Int))) = Value.int .i64 ((s0 + m : Nat) : Int) := by
  subst h; congr 1; omega
theorem lenV_bd {B : List Pt} {o : Int} (ho : 1 ≤ o ∧ o ≤ 60) (hB : B.length ≤ 12) : 0 ≤ lenV B o ∧ lenV B o ≤ 720 := by
  have hm := lowN_le (m := mk B o 0 (B.length - 1)) (mk_lt13 B o 0 _ (by omega))
  unfold lenV
  refine ⟨Int.mul_nonneg (by omega) (by omega), ?_⟩
  have : o * (lowN (mk B o 0 (B.length - 1)) : Int) ≤ 60 * 12 := Int.mul_le_mul (by omega) (by omega) (by omega) (by omega)
  omega
theorem isDivider71t (A0 A1 A2 : Option Addr) (n0 n1 n2 c0 c1 c2 : Nat) (cw : Int) (k : Nat) (w : World) (hn : n1 ≤ 140737488355328) (hk : k < n1) :
    Calls Tryd.prog 71 #[.agg #[.slice A0 n0 c0, .slice A1 n1 c1, .slice A2 n2 c2, .int .i64 cw], .int .i64 k] w fun e w' => e = .returned (.bool true) ∧ Below w.heap.size w w' :=
  cbB (b := btw (k : Int) 0 ((n1 : Int) - 1)) (by rw [btw_iff]; omega) (isDivider71 _ _ _ _ _ _ _ _ _ _ _ _ hn)
set_option maxRecDepth 100000 in
set_option maxHeartbeats 8000000 in
theorem longer29_core (A0 A1 A2 : Option Addr) (n0 n1 n2 c0 c1 c2 : Nat) (cw : Int) (a b : Nat) (B D : List Pt) (R : List Rep) (w : World) (hC : RdC w A0 A1 A2 n0 n1 n2 B D R) (hT : Tab w) (hV : Hid (Val cw B D R)) (ha : a < n1) (hb : b < n1) (hE : Hid (opE cw B D R true = 0)) :
    Calls Tryd.prog 29 #[.agg #[.slice A0 n0 c0, .slice A1 n1 c1, .slice A2 n2 c2, .int .i64 cw], .int .i64 a, .int .i64 b] w fun e w' => e = .returned (.tuple #[.int .i64 (lonV cw B D R a b), .int .i64 0]) ∧ Below w.heap.size w w' := by
  have HC := Lib.hid hC
  have HT := Lib.hid hT
  have HL := Lib.hid hC.h0
  have HL1 := Lib.hid hC.h1
  have hl1 := hC.l1
  have hn1 : n1 ≤ 4 := by have := hV.out.d; have := HL1.out; omega
  have hR := hV.out.r
  have hmm := @run_makeMap Tryd.prog
  clear hC hT
  have hda : Hid (btw (a : Int) 0 ((n1 : Int) - 1) = true) := by show _ = _; rw [btw_iff]; omega
  have hdb : Hid (btw (b : Int) 0 ((n1 : Int) - 1) = true) := by show _ = _; rw [btw_iff]; omega
  have hs0 : (1 : Int) ≤ n1 := by omega
  have o0 : Own (w.alloc (.cells #[.slice A0 n0 c0, .slice A1 n1 c1, .slice A2 n2 c2, .int .i64 cw] 26)) w.heap.size [.slice A0 n0 c0, .slice A1 n1 c1, .slice A2 n2 c2, .int .i64 cw] := Own.new' _ _ rfl rfl
  have oB : Below w.heap.size w (w.alloc (.cells #[.slice A0 n0 c0, .slice A1 n1 c1, .slice A2 n2 c2, .int .i64 cw] 26)) := by (repeat' (first | (with_reducible exact Below.refl _ _) | (with_reducible assumption) | (with_reducible refine Below.drew ?_) | (with_reducible refine below_drewN ?_ _) | (with_reducible refine Below.setCell ?_ ?_ _) | (with_reducible refine Below.alloc ?_ ?_ _) | (refine Below.trans ?_ (Below.mono (by with_reducible assumption) ?_)) | omega | (exact Below.size (by with_reducible assumption)) | (simp; done) | (simp; omega)))
  go_enter Tryd.func29, Tryd.ntmps29
  go_upto_region 1 with fail
  go_cut [8, 9] (fun p e wx => ∃ cb, p = .pointer (some ⟨cb, 0, none⟩) ∧ e = .int .i64 0 ∧ Chart wx cb A0 A1 A2 n0 n1 n2 c0 c1 c2 cw B D R ∧ Own wx w.heap.size [.slice A0 n0 c0, .slice A1 n1 c1, .slice A2 n2 c2, .int .i64 cw] ∧ Below w.heap.size w wx)
  case first =>
    go_region_with ((first | (go_at_call 71; refine (isDivider71t _ _ _ _ _ _ _ _ _ _ _ _ hl1 (by assumption)).mono ?_; rintro e w1 ⟨rfl, hb1⟩; have hz1 := hb1.size; (try simp at hz1); have hc1 := fun i => (bcell hb1).1 w.heap.size i (by first | omega | (simp; done) | (simp; omega))) | (go_at_call 70; refine (open70_ok A0 A1 A2 n0 n1 n2 c0 c1 c2 cw true B D R _ (HC.out.below (b := w.heap.size) (by (repeat' (first | (with_reducible exact Below.refl _ _) | (with_reducible assumption) | (with_reducible refine Below.drew ?_) | (with_reducible refine below_drewN ?_ _) | (with_reducible refine Below.setCell ?_ ?_ _) | (with_reducible refine Below.alloc ?_ ?_ _) | (refine Below.trans ?_ (Below.mono (by with_reducible assumption) ?_)) | omega | (exact Below.size (by with_reducible assumption)) | (simp; done) | (simp; omega)))) (Nat.le_refl _)) hE.out).mono ?_; rintro e w2 ⟨cb, hcb, rfl, hch, hb2⟩)))
    all_goals
      go_wp2
      go_meet
      exact ⟨cb, rfl, rfl, hch, by (repeat' (first | (with_reducible assumption) | (with_reducible exact Own.mk (by with_reducible assumption) (by with_reducible assumption) (by with_reducible assumption)) | (with_reducible refine Own.new' _ _ (by first | rfl | (simp; done)) rfl) | (with_reducible refine Own.drew ?_) | (with_reducible refine Own.drewN ?_ _) | (with_reducible refine Own.alloc ?_ _) | (with_reducible refine Own.setOther ?_ ?_ _) | (refine Own.below ?_ (by with_reducible assumption) ?_) | omega | (simp; done) | (simp; omega))), by (repeat' (first | (with_reducible exact Below.refl _ _) | (with_reducible assumption) | (with_reducible refine Below.drew ?_) | (with_reducible refine below_drewN ?_ _) | (with_reducible refine Below.setCell ?_ ?_ _) | (with_reducible refine Below.alloc ?_ ?_ _) | (refine Below.trans ?_ (Below.mono (by with_reducible assumption) ?_)) | omega | (exact Below.size (by with_reducible assumption)) | (simp; done) | (simp; omega)))⟩
  case rest =>
    clear o0 oB
    obtain ⟨cb, rfl, rfl, hch, q0, hbw⟩ := hcut
    have HCH := Lib.hid hch
    clear hch
    have hla := opsD_len hV.out (d := a) (by have := HL1.out; omega)
    have hlb := opsD_len hV.out (d := b) (by have := HL1.out; omega)
    have hsa := sAt_val hV.out (d := a) (by have := HL1.out; omega)
    have hsb := sAt_val hV.out (d := b) (by have := HL1.out; omega)
    go_wp2_with fail
    refine (openings72 cb A0 A1 A2 n0 n1 n2 c0 c1 c2 cw a B D R _ (HC.out.below hbw (Nat.le_refl _)) HCH.out hV ha).mono ?_
    rintro e w2 ⟨A', cap', rfl, hra, hb2⟩
    have HRA := Lib.hid hra
    have q2 := q0.below hb2 q0.lt
    have hch2 := HCH.out.below hb2 (Nat.le_refl _)
    have HCH2 := Lib.hid hch2
    have hB2 : Below w.heap.size w w2 := by (repeat' (first | (with_reducible exact Below.refl _ _) | (with_reducible assumption) | (with_reducible refine Below.drew ?_) | (with_reducible refine below_drewN ?_ _) | (with_reducible refine Below.setCell ?_ ?_ _) | (with_reducible refine Below.alloc ?_ ?_ _) | (refine Below.trans ?_ (Below.mono (by with_reducible assumption) ?_)) | omega | (exact Below.size (by with_reducible assumption)) | (simp; done) | (simp; omega)))
    clear q0 hb2 hbw hra hch2 HCH
    obtain ⟨xs, hxs⟩ : ∃ xs, xs = opsD cw B D R a := ⟨_, rfl⟩
    obtain ⟨ys, hys⟩ : ∃ ys, ys = opsD cw B D R b := ⟨_, rfl⟩
    rw [← hxs] at HRA hla ⊢
    rw [← hys] at hlb
    have HX := Lib.hid hxs
    have HY := Lib.hid hys
    clear hxs hys
    go_wp2_with fail
    go_loopg [10, 11, 38] xs.length (fun K s t y wr => ∃ i : Nat, K + i = xs.length ∧ y = .int .i64 i ∧ s = .int .i64 (cnt2 (soP cw B D R a b) (xs.take i) ys : Nat) ∧ t = .int .i64 (cnt2 (noP cw B D R a b) (xs.take i) ys : Nat) ∧ Own wr w.heap.size [.slice A0 n0 c0, .slice A1 n1 c1, .slice A2 n2 c2, .int .i64 cw] ∧ Below w2.heap.size w2 wr)
    case atStart => exact ⟨0, rfl, rfl, rfl, rfl, q2, Below.refl _ _⟩
    case round =>
      clear q2
      obtain ⟨i, hi, rfl, rfl, rfl, q0, hbw⟩ := hrel
      have hbi1 := cnt2_le (soP cw B D R a b) ys (xs.take i)
      have hbi2 := cnt2_le (noP cw B D R a b) ys (xs.take i)
      have hti : (xs.take i).length ≤ 60 := Nat.le_trans (List.length_take_le' _ _) hla
      have hmx : (xs.take i).length * ys.length ≤ 60 * 60 := Nat.mul_le_mul hti hlb
      by_cases hit : i < xs.length
      · obtain ⟨x, hx⟩ : ∃ x, Hid (xs[i]? = some x) := ⟨xs[i], by simp [Hid]⟩
        obtain ⟨b9, off9, rfl, hb9, hc9⟩ := (HRA.out.below hbw (Nat.le_refl _)).elem hx.out
        have hxm := opsD_mem (HX.out ▸ List.mem_of_getElem? hx.out)
        have hst := take_snoc hx.out
        have hS1 : Hid (cnt2 (soP cw B D R a b) (xs.take (i + 1)) ys = cnt2 (soP cw B D R a b) (xs.take i) ys + cnt1 (soP cw B D R a b) x ys) := by show _ = _; rw [hst, cnt2_snoc]
        have hS2 : Hid (cnt2 (noP cw B D R a b) (xs.take (i + 1)) ys = cnt2 (noP cw B D R a b) (xs.take i) ys + cnt1 (noP cw B D R a b) x ys) := by show _ = _; rw [hst, cnt2_snoc]
        clear hst
        obtain ⟨wo, rfl⟩ : ∃ wo : World, wo = wr := ⟨_, rfl⟩
        have hBo : Below w.heap.size w wo := by (repeat' (first | (with_reducible exact Below.refl _ _) | (with_reducible assumption) | (with_reducible refine Below.drew ?_) | (with_reducible refine below_drewN ?_ _) | (with_reducible refine Below.setCell ?_ ?_ _) | (with_reducible refine Below.alloc ?_ ?_ _) | (refine Below.trans ?_ (Below.mono (by with_reducible assumption) ?_)) | omega | (exact Below.size (by with_reducible assumption)) | (simp; done) | (simp; omega)))
        go_wp2_with fail
        refine (openings72 cb A0 A1 A2 n0 n1 n2 c0 c1 c2 cw b B D R _ (HC.out.below hBo (Nat.le_refl _)) (HCH2.out.below hbw (Nat.le_refl _)) hV hb).mono ?_
        rintro e w3 ⟨A3, cap3, rfl, hrb, hb3⟩
        have HRB := Lib.hid hrb
        rw [← HY.out] at HRB ⊢
        have q3 := q0.below hb3 q0.lt
        have hB3 : Below w2.heap.size w2 w3 := hbw.trans (hb3.mono hbw.size)
        have hBw3 : Below w.heap.size w w3 := hB2.trans (hB3.mono hB2.size)
        clear hrb hb3 hbw q0 hc9 hb9 hBo
        generalize cnt2 (soP cw B D R a b) (xs.take i) ys = s0 at *
        generalize cnt2 (noP cw B D R a b) (xs.take i) ys = t0 at *
        go_wp2_with fail
        go_loopg [10, 11, 46] ys.length (fun K s t y wr => ∃ j : Nat, K + j = ys.length ∧ y = .int .i64 j ∧ s = .int .i64 (s0 + cnt1 (soP cw B D R a b) x (ys.take j) : Nat) ∧ t = .int .i64 (t0 + cnt1 (noP cw B D R a b) x (ys.take j) : Nat) ∧ Own wr w.heap.size [.slice A0 n0 c0, .slice A1 n1 c1, .slice A2 n2 c2, .int .i64 cw] ∧ Below w3.heap.size w3 wr)
        case atStart => exact ⟨0, rfl, rfl, rfl, rfl, q3, Below.refl _ _⟩
        case round =>
          clear q3
          obtain ⟨j, hj, rfl, rfl, rfl, q0, hbw⟩ := hrel
          have hci1 := cnt1_le (soP cw B D R a b) x (ys.take j)
          have hci2 := cnt1_le (noP cw B D R a b) x (ys.take j)
          have htj : (ys.take j).length ≤ 60 := Nat.le_trans (List.length_take_le' _ _) hlb
          by_cases hjt : j < ys.length
          · obtain ⟨y, hy⟩ : ∃ y, Hid (ys[j]? = some y) := ⟨ys[j], by simp [Hid]⟩
            obtain ⟨b9, off9, rfl, hb9, hc9⟩ := (HRB.out.below hbw (Nat.le_refl _)).elem hy.out
            have hym := opsD_mem (HY.out ▸ List.mem_of_getElem? hy.out)
            have hst := take_snoc hy.out
            have hJ1 : Hid (cnt1 (soP cw B D R a b) x (ys.take (j + 1)) = cnt1 (soP cw B D R a b) x (ys.take j) + (if soP cw B D R a b x y = true then 1 else 0)) := by show _ = _; rw [hst, cnt1_snoc]
            have hJ2 : Hid (cnt1 (noP cw B D R a b) x (ys.take (j + 1)) = cnt1 (noP cw B D R a b) x (ys.take j) + (if noP cw B D R a b x y = true then 1 else 0)) := by show _ = _; rw [hst, cnt1_snoc]
            clear hst
            have hkk := q0
            obtain ⟨l1, k1, f1⟩ := hkk
            have hBw : Below w.heap.size w wr := hBw3.trans (hbw.mono hBw3.size)
            by_cases hskip : a = b ∧ x ≠ y
            · have hok : okT cw B D R a b x y = false := by unfold okT; rw [decide_eq_true hskip.1, decide_eq_true hskip.2]; rfl
              have hso : soP cw B D R a b x y = false := by unfold soP; rw [hok]; rfl
              have hno : noP cw B D R a b x y = false := by unfold noP; rw [hok]; rfl
              rw [hso] at hJ1
              rw [hno] at hJ2
              have hab : ((a : Int) == (b : Int)) = true := by rw [hskip.1]; simp
              have hxy : (x != y) = true := by simpa using hskip.2
              have hx0 := Aft.cell q0
              clear hskip hok hso hno
              go_wp2
              refine wp_region_aft (by kernel_rfl) (by kernel_rfl) ?_; (repeat (go_big_quiet_step ((fail)))); refine wpQuiet_nil ?_; rintro w5 ⟨⟨_, hb5⟩, rfl⟩
              have q5 := q0.below hb5 l1
              have hB5 : Below w3.heap.size w3 w5 := by (repeat' (first | (with_reducible exact Below.refl _ _) | (with_reducible assumption) | (with_reducible refine Below.drew ?_) | (with_reducible refine below_drewN ?_ _) | (with_reducible refine Below.setCell ?_ ?_ _) | (with_reducible refine Below.alloc ?_ ?_ _) | (refine Below.trans ?_ (Below.mono (by with_reducible assumption) ?_)) | omega | (exact Below.size (by with_reducible assumption)) | (simp; done) | (simp; omega)))
              clear hx0 hb5 q0 k1 f1 hc9 hb9 hbw hBw
              go_wp2
              go_roundg (ys.length - (j + 1))
              case measure => omega
              case rel => exact ⟨j + 1, by omega, by go_num, by rw [hJ1.out]; rfl, by rw [hJ2.out]; rfl, q5, hB5⟩
            · have hwa : (Lit.int .i64 (a : Int)).wf = true := WalkArith.wf_i64 (by omega)
              have hwb : (Lit.int .i64 (b : Int)).wf = true := WalkArith.wf_i64 (by omega)
              have hwx : (Lit.int .i64 x).wf = true := WalkArith.wf_i64 (by omega)
              have hwy : (Lit.int .i64 y).wf = true := WalkArith.wf_i64 (by omega)
              obtain ⟨w4, hr1, hm4, hg4⟩ := MapI.run_put (w := (wr.alloc (.map #[] 0)).drew) (MapI.made wr) 99 Tryd.underlying99 (by omega) a x hwa hwx
              obtain ⟨w5, hr2, hm5, hg5⟩ := MapI.run_put hm4 99 Tryd.underlying99 (by omega) b y hwb hwy
              obtain ⟨w4', hr1', hm4', hg4'⟩ := MapI.run_put (w := (wr.alloc (.map #[] 0)).drew) (MapI.made wr) 99 Tryd.underlying99 (by omega) b y hwb hwy
              obtain ⟨w5', hr2', hm5', hg5'⟩ := MapI.run_put hm4' 99 Tryd.underlying99 (by omega) a x hwa hwx
              have hB4' : Below wr.heap.size wr w4' := (((Below.refl _ wr).alloc (Nat.le_refl _) _).drew).grown hg4' (by simp) (fun k e => by cases e; exact Nat.le_refl _)
              have hB5' : Below wr.heap.size wr w5' := hB4'.grown hg5' hB4'.size (fun k e => by cases e; exact Nat.le_refl _)
              have HM' := Lib.hid (hm5'.cast (g := twoF a b x y) (fun k => by
                unfold twoF upd
                by_cases e1 : k = (a : Int)
                · by_cases e2 : k = (b : Int)
                  · have e3 : a = b := by omega
                    have e4 : x = y := by false_or_by_contra; rename_i h; exact hskip ⟨e3, h⟩
                    rw [if_pos e1, if_pos e2, e4]
                  · rw [if_pos e1, if_neg e2, if_pos e1]
                · rw [if_neg e1]
                  by_cases e2 : k = (b : Int)
                  · rw [if_pos e2, if_pos e2]
                  · rw [if_neg e2, if_neg e2, if_neg e1]))
              have hB4 : Below wr.heap.size wr w4 := (((Below.refl _ wr).alloc (Nat.le_refl _) _).drew).grown hg4 (by simp) (fun k e => by cases e; exact Nat.le_refl _)
              have hB5 : Below wr.heap.size wr w5 := hB4.grown hg5 hB4.size (fun k e => by cases e; exact Nat.le_refl _)
              have HM := Lib.hid hm5
              have q5 := q0.below hB5 l1
              have q5' := q0.below hB5' l1
              have hB5w' : Below w3.heap.size w3 w5' := hbw.trans (hB5'.mono hbw.size)
              have HC5' := Lib.hid (HCH2.out.below (hB3.trans (hB5w'.mono hB3.size)) (Nat.le_refl _))
              have hB5w : Below w3.heap.size w3 w5 := hbw.trans (hB5.mono hbw.size)
              have hC5 := HCH2.out.below (hB3.trans (hB5w.mono hB3.size)) (Nat.le_refl _)
              have HC5 := Lib.hid hC5
              have hpp : okT cw B D R a b x y = decide ((totF B D R (twoF a b x y) D.length : Int) ≤ cw) := by
                unfold okT
                rw [show (decide (a = b) && decide (x ≠ y)) = false by rw [← Bool.not_eq_true]; simpa using hskip, Bool.not_false, Bool.true_and]
              have hff : ∀ k c, twoF a b x y k = some c → 0 ≤ k ∧ k < n1 ∧ (sAt D k.toNat).1 ≤ c ∧ c ≤ (sAt D k.toNat).2 := by
                intro k c h
                rcases twoF_some h with ⟨rfl, rfl⟩ | ⟨rfl, rfl⟩
                · rw [Int.toNat_natCast]; omega
                · rw [Int.toNat_natCast]; omega
              have HFF := Lib.hid hff
              have hsplit : (((a : Int) == (b : Int)) = false) ∨ ((((a : Int) == (b : Int)) = true) ∧ ((x != y) = false)) := by
                by_cases e : a = b
                · refine Or.inr ⟨by rw [e]; simp, ?_⟩
                  have : x = y := by false_or_by_contra; rename_i h; exact hskip ⟨e, h⟩
                  rw [this]; simp
                · exact Or.inl (by simp; omega)
              clear hwa hwb hwx hwy hm4 hm5 hg4 hg5 hB4 hm4' hm5' hg4' hg5' hB4' hC5 hBw hskip hff
              cases hok : decide ((totF B D R (twoF a b x y) D.length : Int) ≤ cw)
              · have HOK : Hid (decide ((totF B D R (twoF a b x y) n1 : Int) ≤ cw) = false) := by show _ = _; rw [HL1.out]; exact hok
                rw [hok] at hpp
                have hso : soP cw B D R a b x y = false := by unfold soP; rw [hpp]; rfl
                have hno : noP cw B D R a b x y = false := by unfold noP; rw [hpp]; rfl
                rw [hso] at hJ1
                rw [hno] at hJ2
                clear hok hpp hso hno
                rcases hsplit with hab | ⟨hab, hxy⟩
                · go_wp2
                  refine rg_start (fun _ => True) 21 (by kernel_rfl) rfl ?_
                  refine rg_take (fuel := 7) [0, 1, 2, 3, 4, 5, 6, 7, 8, 9, 11, 12, 14, 15] (by kernel_rfl) (by intro _ _ d _ _ h; cases d <;> exact h) rfl (by kernel_rfl) (by kernel_rfl) trivial ?_; simp only [pickL, pick1, List.cons_append, List.nil_append]
                  (refine wpTake_cons (v := ?_) (Or.inl ⟨by rfl, ?_⟩) ?_; rotate_left; (intro w' hSw; go_simp; (try with_reducible rfl)); (try simp only [Act.put, List.setIfInBounds_toArray, List.set_cons_zero, List.set_cons_succ]))
                  (refine wpTake_cons (v := ?_) (Or.inl ⟨by rfl, ?_⟩) ?_; rotate_left; (intro w' hSw; go_simp; (try with_reducible rfl)); (try simp only [Act.put, List.setIfInBounds_toArray, List.set_cons_zero, List.set_cons_succ]))
                  (refine wpTake_cons (v := ?_) (Or.inl ⟨by rfl, ?_⟩) ?_; rotate_left; (intro w' hSw; go_simp; (try with_reducible rfl)); (try simp only [Act.put, List.setIfInBounds_toArray, List.set_cons_zero, List.set_cons_succ]))
                  (refine wpTake_cons (v := ?_) (Or.inl ⟨by rfl, ?_⟩) ?_; rotate_left; (intro w' hSw; go_simp; (try with_reducible rfl)); (try simp only [Act.put, List.setIfInBounds_toArray, List.set_cons_zero, List.set_cons_succ]))
                  (refine wpTake_cons (v := undef) (Or.inr ⟨by rfl, rfl⟩) ?_; (try simp only [Act.put, List.setIfInBounds_toArray, List.set_cons_zero, List.set_cons_succ]))
                  (refine wpTake_cons (v := undef) (Or.inr ⟨by rfl, rfl⟩) ?_; (try simp only [Act.put, List.setIfInBounds_toArray, List.set_cons_zero, List.set_cons_succ]))
                  (refine wpTake_cons (v := undef) (Or.inr ⟨by rfl, rfl⟩) ?_; (try simp only [Act.put, List.setIfInBounds_toArray, List.set_cons_zero, List.set_cons_succ]))
                  (refine wpTake_cons (v := ?_) (Or.inl ⟨by rfl, ?_⟩) ?_; rotate_left; (intro w' hSw; go_simp; (try with_reducible rfl)); (try simp only [Act.put, List.setIfInBounds_toArray, List.set_cons_zero, List.set_cons_succ]))
                  (refine wpTake_cons (v := ?_) (Or.inl ⟨by rfl, ?_⟩) ?_; rotate_left; (intro w' hSw; go_simp; (try with_reducible rfl)); (try simp only [Act.put, List.setIfInBounds_toArray, List.set_cons_zero, List.set_cons_succ]))
                  (refine wpTake_cons (v := ?_) (Or.inl ⟨by rfl, ?_⟩) ?_; rotate_left; (intro w' hSw; go_simp; (try with_reducible rfl)); (try simp only [Act.put, List.setIfInBounds_toArray, List.set_cons_zero, List.set_cons_succ]))
                  (refine wpTake_cons (v := ?_) (Or.inl ⟨by rfl, ?_⟩) ?_; rotate_left; (intro w' hSw; go_simp; (try with_reducible rfl)); (try simp only [Act.put, List.setIfInBounds_toArray, List.set_cons_zero, List.set_cons_succ]))
                  (refine wpTake_cons (v := ?_) (Or.inl ⟨by rfl, ?_⟩) ?_; rotate_left; (intro w' hSw; go_simp; (try with_reducible rfl)); (try simp only [Act.put, List.setIfInBounds_toArray, List.set_cons_zero, List.set_cons_succ]))
                  (refine wpTake_cons (v := ?_) (Or.inl ⟨by rfl, ?_⟩) ?_; rotate_left; (intro w' hSw; go_simp; (try with_reducible rfl)); (try simp only [Act.put, List.setIfInBounds_toArray, List.set_cons_zero, List.set_cons_succ]))
                  (refine wpTake_cons (v := ?_) (Or.inl ⟨by rfl, ?_⟩) ?_; rotate_left; (intro w' hSw; go_simp; (try with_reducible rfl)); (try simp only [Act.put, List.setIfInBounds_toArray, List.set_cons_zero, List.set_cons_succ]))
                  refine wpTake_nil ?_
                  refine rg_one (fuel := 6) 10 rfl (by kernel_rfl) (by kernel_rfl) ?_; simp only [pick1, wpHead]
                  intro K' hK
                  rw [if_pos (by rfl)]
                  go_simp
                  refine hK.out _ _ trivial ?_
                  clear hK K'
                  (try simp only [Act.put, List.setIfInBounds_toArray, List.set_cons_zero, List.set_cons_succ])
                  refine rg_two (fuel := 5) 13 16 rfl (by kernel_rfl) (by kernel_rfl) ?_ ?_ <;> simp only [pick1, wpHead]
                  · intro K' hK
                    rw [if_pos (by rfl)]
                    go_simp
                    refine hK.out _ _ trivial ?_
                    clear hK K'
                    (try simp only [Act.put, List.setIfInBounds_toArray, List.set_cons_zero, List.set_cons_succ])
                    refine rg_one (fuel := 4) 16 rfl (by kernel_rfl) (by kernel_rfl) ?_; simp only [pick1, wpHead]
                    intro K' hK
                    rw [if_pos (by rfl)]
                    go_simp
                    refine hK.out _ _ trivial ?_
                    clear hK K'
                    (try simp only [Act.put, List.setIfInBounds_toArray, List.set_cons_zero, List.set_cons_succ])
                    refine rg_take (fuel := 3) [17] (by kernel_rfl) (by intro _ _ d _ _ h; cases d <;> exact h) rfl (by kernel_rfl) (by kernel_rfl) trivial ?_; simp only [pickL, pick1, List.cons_append, List.nil_append]
                    (refine wpTake_cons (v := ?_) (Or.inl ⟨by rfl, ?_⟩) ?_; rotate_left; (intro w' hSw; go_simp; (try with_reducible rfl)); (try simp only [Act.put, List.setIfInBounds_toArray, List.set_cons_zero, List.set_cons_succ]))
                    refine wpTake_nil ?_
                    refine rg_one (fuel := 2) 18 rfl (by kernel_rfl) (by kernel_rfl) ?_; simp only [pick1, wpHead]
                    intro K' hK
                    go_simp
                    refine (can73 cb A0 A1 A2 n0 n1 n2 c0 c1 c2 cw B D R wr.heap.size 2 (twoF a b x y) w5 HC5.out HM.out (by omega) hn1 hR HFF.out).mono ?_
                    rw [HOK.out]
                    rintro e w6 ⟨rfl, hb6⟩
                    go_wp2_with fail
                    refine hK.out _ _ trivial ?_
                    clear hK K'
                    (try simp only [Act.put, List.setIfInBounds_toArray, List.set_cons_zero, List.set_cons_succ])
                    refine rg_take (fuel := 0) [19, 20] (by kernel_rfl) (by intro _ _ d _ _ h; cases d <;> exact h) rfl (by kernel_rfl) (by kernel_rfl) trivial ?_; simp only [pickL, pick1, List.cons_append, List.nil_append]
                    (refine wpTake_cons (v := ?_) (Or.inl ⟨by rfl, ?_⟩) ?_; rotate_left; (intro w' hSw; go_simp; (try with_reducible rfl)); (try simp only [Act.put, List.setIfInBounds_toArray, List.set_cons_zero, List.set_cons_succ]))
                    (refine wpTake_cons (v := ?_) (Or.inl ⟨by rfl, ?_⟩) ?_; rotate_left; (intro w' hSw; go_simp; (try with_reducible rfl)); (try simp only [Act.put, List.setIfInBounds_toArray, List.set_cons_zero, List.set_cons_succ]))
                    refine wpTake_nil ?_
                    refine rg_done (by kernel_rfl) ?_
                    have q6 := q5.below hb6 q5.lt
                    have hB6 : Below w3.heap.size w3 w6 := hB5w.trans (hb6.mono hB5w.size)
                    clear hb6 hr1 hr2 hr1' hr2' q0 q5 q5' k1 f1 hc9 hb9 hbw hB5 hB5' hB5w hB5w'
                    go_wp2
                    go_roundg (ys.length - (j + 1))
                    case measure => omega
                    case rel => exact ⟨j + 1, by omega, by go_num, by rw [hJ1.out]; rfl, by rw [hJ2.out]; rfl, q6, hB6⟩
                  · intro K' hK
                    rw [if_pos (by rfl)]
                    go_simp
                    refine hK.out _ _ trivial ?_
                    clear hK K'
                    (try simp only [Act.put, List.setIfInBounds_toArray, List.set_cons_zero, List.set_cons_succ])
                    refine rg_one (fuel := 4) 13 rfl (by kernel_rfl) (by kernel_rfl) ?_; simp only [pick1, wpHead]
                    intro K' hK
                    rw [if_pos (by rfl)]
                    go_simp
                    refine hK.out _ _ trivial ?_
                    clear hK K'
                    (try simp only [Act.put, List.setIfInBounds_toArray, List.set_cons_zero, List.set_cons_succ])
                    refine rg_take (fuel := 3) [17] (by kernel_rfl) (by intro _ _ d _ _ h; cases d <;> exact h) rfl (by kernel_rfl) (by kernel_rfl) trivial ?_; simp only [pickL, pick1, List.cons_append, List.nil_append]
                    (refine wpTake_cons (v := ?_) (Or.inl ⟨by rfl, ?_⟩) ?_; rotate_left; (intro w' hSw; go_simp; (try with_reducible rfl)); (try simp only [Act.put, List.setIfInBounds_toArray, List.set_cons_zero, List.set_cons_succ]))
                    refine wpTake_nil ?_
                    refine rg_one (fuel := 2) 18 rfl (by kernel_rfl) (by kernel_rfl) ?_; simp only [pick1, wpHead]
                    intro K' hK
                    go_simp
                    refine (can73 cb A0 A1 A2 n0 n1 n2 c0 c1 c2 cw B D R wr.heap.size 2 (twoF a b x y) w5' HC5'.out HM'.out (by omega) hn1 hR HFF.out).mono ?_
                    rw [HOK.out]
                    rintro e w6 ⟨rfl, hb6⟩
                    go_wp2_with fail
                    refine hK.out _ _ trivial ?_
                    clear hK K'
                    (try simp only [Act.put, List.setIfInBounds_toArray, List.set_cons_zero, List.set_cons_succ])
                    refine rg_take (fuel := 0) [19, 20] (by kernel_rfl) (by intro _ _ d _ _ h; cases d <;> exact h) rfl (by kernel_rfl) (by kernel_rfl) trivial ?_; simp only [pickL, pick1, List.cons_append, List.nil_append]
                    (refine wpTake_cons (v := ?_) (Or.inl ⟨by rfl, ?_⟩) ?_; rotate_left; (intro w' hSw; go_simp; (try with_reducible rfl)); (try simp only [Act.put, List.setIfInBounds_toArray, List.set_cons_zero, List.set_cons_succ]))
                    (refine wpTake_cons (v := ?_) (Or.inl ⟨by rfl, ?_⟩) ?_; rotate_left; (intro w' hSw; go_simp; (try with_reducible rfl)); (try simp only [Act.put, List.setIfInBounds_toArray, List.set_cons_zero, List.set_cons_succ]))
                    refine wpTake_nil ?_
                    refine rg_done (by kernel_rfl) ?_
                    have q6 := q5'.below hb6 q5'.lt
                    have hB6 : Below w3.heap.size w3 w6 := hB5w'.trans (hb6.mono hB5w'.size)
                    clear hb6 hr1 hr2 hr1' hr2' q0 q5 q5' k1 f1 hc9 hb9 hbw hB5 hB5' hB5w hB5w'
                    go_wp2
                    go_roundg (ys.length - (j + 1))
                    case measure => omega
                    case rel => exact ⟨j + 1, by omega, by go_num, by rw [hJ1.out]; rfl, by rw [hJ2.out]; rfl, q6, hB6⟩
                · go_wp2
                  refine rg_start (fun _ => True) 21 (by kernel_rfl) rfl ?_
                  refine rg_take (fuel := 7) [0, 1, 2, 3, 4, 5, 6, 7, 8, 9, 11, 12, 14, 15] (by kernel_rfl) (by intro _ _ d _ _ h; cases d <;> exact h) rfl (by kernel_rfl) (by kernel_rfl) trivial ?_; simp only [pickL, pick1, List.cons_append, List.nil_append]
                  (refine wpTake_cons (v := ?_) (Or.inl ⟨by rfl, ?_⟩) ?_; rotate_left; (intro w' hSw; go_simp; (try with_reducible rfl)); (try simp only [Act.put, List.setIfInBounds_toArray, List.set_cons_zero, List.set_cons_succ]))
                  (refine wpTake_cons (v := ?_) (Or.inl ⟨by rfl, ?_⟩) ?_; rotate_left; (intro w' hSw; go_simp; (try with_reducible rfl)); (try simp only [Act.put, List.setIfInBounds_toArray, List.set_cons_zero, List.set_cons_succ]))
                  (refine wpTake_cons (v := ?_) (Or.inl ⟨by rfl, ?_⟩) ?_; rotate_left; (intro w' hSw; go_simp; (try with_reducible rfl)); (try simp only [Act.put, List.setIfInBounds_toArray, List.set_cons_zero, List.set_cons_succ]))
                  (refine wpTake_cons (v := ?_) (Or.inl ⟨by rfl, ?_⟩) ?_; rotate_left; (intro w' hSw; go_simp; (try with_reducible rfl)); (try simp only [Act.put, List.setIfInBounds_toArray, List.set_cons_zero, List.set_cons_succ]))
                  (refine wpTake_cons (v := ?_) (Or.inl ⟨by rfl, ?_⟩) ?_; rotate_left; (intro w' hSw; go_simp; (try with_reducible rfl)); (try simp only [Act.put, List.setIfInBounds_toArray, List.set_cons_zero, List.set_cons_succ]))
                  (refine wpTake_cons (v := ?_) (Or.inl ⟨by rfl, ?_⟩) ?_; rotate_left; (intro w' hSw; go_simp; (try with_reducible rfl)); (try simp only [Act.put, List.setIfInBounds_toArray, List.set_cons_zero, List.set_cons_succ]))
                  (refine wpTake_cons (v := ?_) (Or.inl ⟨by rfl, ?_⟩) ?_; rotate_left; (intro w' hSw; go_simp; (try with_reducible rfl)); (try simp only [Act.put, List.setIfInBounds_toArray, List.set_cons_zero, List.set_cons_succ]))
                  (refine wpTake_cons (v := ?_) (Or.inl ⟨by rfl, ?_⟩) ?_; rotate_left; (intro w' hSw; go_simp; (try with_reducible rfl)); (try simp only [Act.put, List.setIfInBounds_toArray, List.set_cons_zero, List.set_cons_succ]))
                  (refine wpTake_cons (v := ?_) (Or.inl ⟨by rfl, ?_⟩) ?_; rotate_left; (intro w' hSw; go_simp; (try with_reducible rfl)); (try simp only [Act.put, List.setIfInBounds_toArray, List.set_cons_zero, List.set_cons_succ]))
                  (refine wpTake_cons (v := ?_) (Or.inl ⟨by rfl, ?_⟩) ?_; rotate_left; (intro w' hSw; go_simp; (try with_reducible rfl)); (try simp only [Act.put, List.setIfInBounds_toArray, List.set_cons_zero, List.set_cons_succ]))
                  (refine wpTake_cons (v := ?_) (Or.inl ⟨by rfl, ?_⟩) ?_; rotate_left; (intro w' hSw; go_simp; (try with_reducible rfl)); (try simp only [Act.put, List.setIfInBounds_toArray, List.set_cons_zero, List.set_cons_succ]))
                  (refine wpTake_cons (v := ?_) (Or.inl ⟨by rfl, ?_⟩) ?_; rotate_left; (intro w' hSw; go_simp; (try with_reducible rfl)); (try simp only [Act.put, List.setIfInBounds_toArray, List.set_cons_zero, List.set_cons_succ]))
                  (refine wpTake_cons (v := ?_) (Or.inl ⟨by rfl, ?_⟩) ?_; rotate_left; (intro w' hSw; go_simp; (try with_reducible rfl)); (try simp only [Act.put, List.setIfInBounds_toArray, List.set_cons_zero, List.set_cons_succ]))
                  (refine wpTake_cons (v := ?_) (Or.inl ⟨by rfl, ?_⟩) ?_; rotate_left; (intro w' hSw; go_simp; (try with_reducible rfl)); (try simp only [Act.put, List.setIfInBounds_toArray, List.set_cons_zero, List.set_cons_succ]))
                  refine wpTake_nil ?_
                  refine rg_one (fuel := 6) 10 rfl (by kernel_rfl) (by kernel_rfl) ?_; simp only [pick1, wpHead]
                  intro K' hK
                  rw [if_pos (by rfl)]
                  go_simp
                  refine hK.out _ _ trivial ?_
                  clear hK K'
                  (try simp only [Act.put, List.setIfInBounds_toArray, List.set_cons_zero, List.set_cons_succ])
                  refine rg_two (fuel := 5) 13 16 rfl (by kernel_rfl) (by kernel_rfl) ?_ ?_ <;> simp only [pick1, wpHead]
                  · intro K' hK
                    rw [if_pos (by rfl)]
                    go_simp
                    refine hK.out _ _ trivial ?_
                    clear hK K'
                    (try simp only [Act.put, List.setIfInBounds_toArray, List.set_cons_zero, List.set_cons_succ])
                    refine rg_one (fuel := 4) 16 rfl (by kernel_rfl) (by kernel_rfl) ?_; simp only [pick1, wpHead]
                    intro K' hK
                    rw [if_pos (by rfl)]
                    go_simp
                    refine hK.out _ _ trivial ?_
                    clear hK K'
                    (try simp only [Act.put, List.setIfInBounds_toArray, List.set_cons_zero, List.set_cons_succ])
                    refine rg_take (fuel := 3) [17] (by kernel_rfl) (by intro _ _ d _ _ h; cases d <;> exact h) rfl (by kernel_rfl) (by kernel_rfl) trivial ?_; simp only [pickL, pick1, List.cons_append, List.nil_append]
                    (refine wpTake_cons (v := ?_) (Or.inl ⟨by rfl, ?_⟩) ?_; rotate_left; (intro w' hSw; go_simp; (try with_reducible rfl)); (try simp only [Act.put, List.setIfInBounds_toArray, List.set_cons_zero, List.set_cons_succ]))
                    refine wpTake_nil ?_
                    refine rg_one (fuel := 2) 18 rfl (by kernel_rfl) (by kernel_rfl) ?_; simp only [pick1, wpHead]
                    intro K' hK
                    go_simp
                    refine (can73 cb A0 A1 A2 n0 n1 n2 c0 c1 c2 cw B D R wr.heap.size 2 (twoF a b x y) w5 HC5.out HM.out (by omega) hn1 hR HFF.out).mono ?_
                    rw [HOK.out]
                    rintro e w6 ⟨rfl, hb6⟩
                    go_wp2_with fail
                    refine hK.out _ _ trivial ?_
                    clear hK K'
                    (try simp only [Act.put, List.setIfInBounds_toArray, List.set_cons_zero, List.set_cons_succ])
                    refine rg_take (fuel := 0) [19, 20] (by kernel_rfl) (by intro _ _ d _ _ h; cases d <;> exact h) rfl (by kernel_rfl) (by kernel_rfl) trivial ?_; simp only [pickL, pick1, List.cons_append, List.nil_append]
                    (refine wpTake_cons (v := ?_) (Or.inl ⟨by rfl, ?_⟩) ?_; rotate_left; (intro w' hSw; go_simp; (try with_reducible rfl)); (try simp only [Act.put, List.setIfInBounds_toArray, List.set_cons_zero, List.set_cons_succ]))
                    (refine wpTake_cons (v := ?_) (Or.inl ⟨by rfl, ?_⟩) ?_; rotate_left; (intro w' hSw; go_simp; (try with_reducible rfl)); (try simp only [Act.put, List.setIfInBounds_toArray, List.set_cons_zero, List.set_cons_succ]))
                    refine wpTake_nil ?_
                    refine rg_done (by kernel_rfl) ?_
                    have q6 := q5.below hb6 q5.lt
                    have hB6 : Below w3.heap.size w3 w6 := hB5w.trans (hb6.mono hB5w.size)
                    clear hb6 hr1 hr2 hr1' hr2' q0 q5 q5' k1 f1 hc9 hb9 hbw hB5 hB5' hB5w hB5w'
                    go_wp2
                    go_roundg (ys.length - (j + 1))
                    case measure => omega
                    case rel => exact ⟨j + 1, by omega, by go_num, by rw [hJ1.out]; rfl, by rw [hJ2.out]; rfl, q6, hB6⟩
                  · intro K' hK
                    rw [if_pos (by rfl)]
                    go_simp
                    refine hK.out _ _ trivial ?_
                    clear hK K'
                    (try simp only [Act.put, List.setIfInBounds_toArray, List.set_cons_zero, List.set_cons_succ])
                    refine rg_one (fuel := 4) 13 rfl (by kernel_rfl) (by kernel_rfl) ?_; simp only [pick1, wpHead]
                    intro K' hK
                    rw [if_pos (by rfl)]
                    go_simp
                    refine hK.out _ _ trivial ?_
                    clear hK K'
                    (try simp only [Act.put, List.setIfInBounds_toArray, List.set_cons_zero, List.set_cons_succ])
                    refine rg_take (fuel := 3) [17] (by kernel_rfl) (by intro _ _ d _ _ h; cases d <;> exact h) rfl (by kernel_rfl) (by kernel_rfl) trivial ?_; simp only [pickL, pick1, List.cons_append, List.nil_append]
                    (refine wpTake_cons (v := ?_) (Or.inl ⟨by rfl, ?_⟩) ?_; rotate_left; (intro w' hSw; go_simp; (try with_reducible rfl)); (try simp only [Act.put, List.setIfInBounds_toArray, List.set_cons_zero, List.set_cons_succ]))
                    refine wpTake_nil ?_
                    refine rg_one (fuel := 2) 18 rfl (by kernel_rfl) (by kernel_rfl) ?_; simp only [pick1, wpHead]
                    intro K' hK
                    go_simp
                    refine (can73 cb A0 A1 A2 n0 n1 n2 c0 c1 c2 cw B D R wr.heap.size 2 (twoF a b x y) w5' HC5'.out HM'.out (by omega) hn1 hR HFF.out).mono ?_
                    rw [HOK.out]
                    rintro e w6 ⟨rfl, hb6⟩
                    go_wp2_with fail
                    refine hK.out _ _ trivial ?_
                    clear hK K'
                    (try simp only [Act.put, List.setIfInBounds_toArray, List.set_cons_zero, List.set_cons_succ])
                    refine rg_take (fuel := 0) [19, 20] (by kernel_rfl) (by intro _ _ d _ _ h; cases d <;> exact h) rfl (by kernel_rfl) (by kernel_rfl) trivial ?_; simp only [pickL, pick1, List.cons_append, List.nil_append]
                    (refine wpTake_cons (v := ?_) (Or.inl ⟨by rfl, ?_⟩) ?_; rotate_left; (intro w' hSw; go_simp; (try with_reducible rfl)); (try simp only [Act.put, List.setIfInBounds_toArray, List.set_cons_zero, List.set_cons_succ]))
                    (refine wpTake_cons (v := ?_) (Or.inl ⟨by rfl, ?_⟩) ?_; rotate_left; (intro w' hSw; go_simp; (try with_reducible rfl)); (try simp only [Act.put, List.setIfInBounds_toArray, List.set_cons_zero, List.set_cons_succ]))
                    refine wpTake_nil ?_
                    refine rg_done (by kernel_rfl) ?_
                    have q6 := q5'.below hb6 q5'.lt
                    have hB6 : Below w3.heap.size w3 w6 := hB5w'.trans (hb6.mono hB5w'.size)
                    clear hb6 hr1 hr2 hr1' hr2' q0 q5 q5' k1 f1 hc9 hb9 hbw hB5 hB5' hB5w hB5w'
                    go_wp2
                    go_roundg (ys.length - (j + 1))
                    case measure => omega
                    case rel => exact ⟨j + 1, by omega, by go_num, by rw [hJ1.out]; rfl, by rw [hJ2.out]; rfl, q6, hB6⟩
              · have HOK : Hid (decide ((totF B D R (twoF a b x y) n1 : Int) ≤ cw) = true) := by show _ = _; rw [HL1.out]; exact hok
                rw [hok] at hpp
                clear hok
                have hox : 1 ≤ x ∧ x ≤ 60 := by omega
                have hoy : 1 ≤ y ∧ y ≤ 60 := by omega
                have hn12 : B.length ≤ 12 := hV.out.b2
                have hxl := lenV_bd hox hn12
                have hyl := lenV_bd hoy hn12
                rcases hsplit with hab | ⟨hab, hxy⟩
                · go_wp2
                  refine rg_start (fun _ => True) 21 (by kernel_rfl) rfl ?_
                  refine rg_take (fuel := 7) [0, 1, 2, 3, 4, 5, 6, 7, 8, 9, 11, 12, 14, 15] (by kernel_rfl) (by intro _ _ d _ _ h; cases d <;> exact h) rfl (by kernel_rfl) (by kernel_rfl) trivial ?_; simp only [pickL, pick1, List.cons_append, List.nil_append]
                  (refine wpTake_cons (v := ?_) (Or.inl ⟨by rfl, ?_⟩) ?_; rotate_left; (intro w' hSw; go_simp; (try with_reducible rfl)); (try simp only [Act.put, List.setIfInBounds_toArray, List.set_cons_zero, List.set_cons_succ]))
                  (refine wpTake_cons (v := ?_) (Or.inl ⟨by rfl, ?_⟩) ?_; rotate_left; (intro w' hSw; go_simp; (try with_reducible rfl)); (try simp only [Act.put, List.setIfInBounds_toArray, List.set_cons_zero, List.set_cons_succ]))
                  (refine wpTake_cons (v := ?_) (Or.inl ⟨by rfl, ?_⟩) ?_; rotate_left; (intro w' hSw; go_simp; (try with_reducible rfl)); (try simp only [Act.put, List.setIfInBounds_toArray, List.set_cons_zero, List.set_cons_succ]))
                  (refine wpTake_cons (v := ?_) (Or.inl ⟨by rfl, ?_⟩) ?_; rotate_left; (intro w' hSw; go_simp; (try with_reducible rfl)); (try simp only [Act.put, List.setIfInBounds_toArray, List.set_cons_zero, List.set_cons_succ]))
                  (refine wpTake_cons (v := undef) (Or.inr ⟨by rfl, rfl⟩) ?_; (try simp only [Act.put, List.setIfInBounds_toArray, List.set_cons_zero, List.set_cons_succ]))
                  (refine wpTake_cons (v := undef) (Or.inr ⟨by rfl, rfl⟩) ?_; (try simp only [Act.put, List.setIfInBounds_toArray, List.set_cons_zero, List.set_cons_succ]))
                  (refine wpTake_cons (v := undef) (Or.inr ⟨by rfl, rfl⟩) ?_; (try simp only [Act.put, List.setIfInBounds_toArray, List.set_cons_zero, List.set_cons_succ]))
                  (refine wpTake_cons (v := ?_) (Or.inl ⟨by rfl, ?_⟩) ?_; rotate_left; (intro w' hSw; go_simp; (try with_reducible rfl)); (try simp only [Act.put, List.setIfInBounds_toArray, List.set_cons_zero, List.set_cons_succ]))
                  (refine wpTake_cons (v := ?_) (Or.inl ⟨by rfl, ?_⟩) ?_; rotate_left; (intro w' hSw; go_simp; (try with_reducible rfl)); (try simp only [Act.put, List.setIfInBounds_toArray, List.set_cons_zero, List.set_cons_succ]))
                  (refine wpTake_cons (v := ?_) (Or.inl ⟨by rfl, ?_⟩) ?_; rotate_left; (intro w' hSw; go_simp; (try with_reducible rfl)); (try simp only [Act.put, List.setIfInBounds_toArray, List.set_cons_zero, List.set_cons_succ]))
                  (refine wpTake_cons (v := ?_) (Or.inl ⟨by rfl, ?_⟩) ?_; rotate_left; (intro w' hSw; go_simp; (try with_reducible rfl)); (try simp only [Act.put, List.setIfInBounds_toArray, List.set_cons_zero, List.set_cons_succ]))
                  (refine wpTake_cons (v := ?_) (Or.inl ⟨by rfl, ?_⟩) ?_; rotate_left; (intro w' hSw; go_simp; (try with_reducible rfl)); (try simp only [Act.put, List.setIfInBounds_toArray, List.set_cons_zero, List.set_cons_succ]))
                  (refine wpTake_cons (v := ?_) (Or.inl ⟨by rfl, ?_⟩) ?_; rotate_left; (intro w' hSw; go_simp; (try with_reducible rfl)); (try simp only [Act.put, List.setIfInBounds_toArray, List.set_cons_zero, List.set_cons_succ]))
                  (refine wpTake_cons (v := ?_) (Or.inl ⟨by rfl, ?_⟩) ?_; rotate_left; (intro w' hSw; go_simp; (try with_reducible rfl)); (try simp only [Act.put, List.setIfInBounds_toArray, List.set_cons_zero, List.set_cons_succ]))
                  refine wpTake_nil ?_
                  refine rg_one (fuel := 6) 10 rfl (by kernel_rfl) (by kernel_rfl) ?_; simp only [pick1, wpHead]
                  intro K' hK
                  rw [if_pos (by rfl)]
                  go_simp
                  refine hK.out _ _ trivial ?_
                  clear hK K'
                  (try simp only [Act.put, List.setIfInBounds_toArray, List.set_cons_zero, List.set_cons_succ])
                  refine rg_two (fuel := 5) 13 16 rfl (by kernel_rfl) (by kernel_rfl) ?_ ?_ <;> simp only [pick1, wpHead]
                  · intro K' hK
                    rw [if_pos (by rfl)]
                    go_simp
                    refine hK.out _ _ trivial ?_
                    clear hK K'
                    (try simp only [Act.put, List.setIfInBounds_toArray, List.set_cons_zero, List.set_cons_succ])
                    refine rg_one (fuel := 4) 16 rfl (by kernel_rfl) (by kernel_rfl) ?_; simp only [pick1, wpHead]
                    intro K' hK
                    rw [if_pos (by rfl)]
                    go_simp
                    refine hK.out _ _ trivial ?_
                    clear hK K'
                    (try simp only [Act.put, List.setIfInBounds_toArray, List.set_cons_zero, List.set_cons_succ])
                    refine rg_take (fuel := 3) [17] (by kernel_rfl) (by intro _ _ d _ _ h; cases d <;> exact h) rfl (by kernel_rfl) (by kernel_rfl) trivial ?_; simp only [pickL, pick1, List.cons_append, List.nil_append]
                    (refine wpTake_cons (v := ?_) (Or.inl ⟨by rfl, ?_⟩) ?_; rotate_left; (intro w' hSw; go_simp; (try with_reducible rfl)); (try simp only [Act.put, List.setIfInBounds_toArray, List.set_cons_zero, List.set_cons_succ]))
                    refine wpTake_nil ?_
                    refine rg_one (fuel := 2) 18 rfl (by kernel_rfl) (by kernel_rfl) ?_; simp only [pick1, wpHead]
                    intro K' hK
                    go_simp
                    refine (can73 cb A0 A1 A2 n0 n1 n2 c0 c1 c2 cw B D R wr.heap.size 2 (twoF a b x y) w5 HC5.out HM.out (by omega) hn1 hR HFF.out).mono ?_
                    rw [HOK.out]
                    rintro e w6 ⟨rfl, hb6⟩
                    go_wp2_with fail
                    refine hK.out _ _ trivial ?_
                    clear hK K'
                    (try simp only [Act.put, List.setIfInBounds_toArray, List.set_cons_zero, List.set_cons_succ])
                    refine rg_take (fuel := 0) [19, 20] (by kernel_rfl) (by intro _ _ d _ _ h; cases d <;> exact h) rfl (by kernel_rfl) (by kernel_rfl) trivial ?_; simp only [pickL, pick1, List.cons_append, List.nil_append]
                    (refine wpTake_cons (v := ?_) (Or.inl ⟨by rfl, ?_⟩) ?_; rotate_left; (intro w' hSw; go_simp; (try with_reducible rfl)); (try simp only [Act.put, List.setIfInBounds_toArray, List.set_cons_zero, List.set_cons_succ]))
                    (refine wpTake_cons (v := ?_) (Or.inl ⟨by rfl, ?_⟩) ?_; rotate_left; (intro w' hSw; go_simp; (try with_reducible rfl)); (try simp only [Act.put, List.setIfInBounds_toArray, List.set_cons_zero, List.set_cons_succ]))
                    refine wpTake_nil ?_
                    refine rg_done (by kernel_rfl) ?_
                    have q6 := q5.below hb6 q5.lt
                    have hB6 : Below w3.heap.size w3 w6 := hB5w.trans (hb6.mono hB5w.size)
                    clear hb6 hr1 hr2 hr1' hr2' q0 q5 q5' k1 f1 hc9 hb9 hbw hB5 hB5' hB5w hB5w'
                    have hB6w : Below w.heap.size w w6 := hBw3.trans (hB6.mono hBw3.size)
                    have hlen : ∀ (v : Int) (hv : 1 ≤ v ∧ v ≤ 60) (z : Aft w6), Calls Tryd.prog 74 #[.agg #[.slice A0 n0 c0, .slice A1 n1 c1, .slice A2 n2 c2, .int .i64 cw], .int .i64 v] z.w (fun e w' => e = .returned (.int .i64 (lenV B v)) ∧ Below z.w.heap.size z.w w') := fun v hv z => ciB (by unfold lenV; rw [HL.out]) (length74 A0 A1 A2 n0 n1 n2 c0 c1 c2 cw B D R v z.w (HC.out.below (hB6w.trans (z.h.mono hB6w.size)) (Nat.le_refl _)) (HT.out.below (hB6w.trans (z.h.mono hB6w.size)) (Nat.le_refl _)) hV hv)
                    have hx0 := Aft.cell q6
                    go_wp2
                    refine wp_region_aft (by kernel_rfl) (by kernel_rfl) ?_; (repeat (go_big_quiet_step ((go_at_call 74; exact aft_of (hlen _ (by omega) _))))); refine wpQuiet_nil ?_; rintro w7 ⟨⟨_, hb7⟩, rfl⟩
                    have q7 := q6.below hb7 q6.lt
                    have hB7 : Below w3.heap.size w3 w7 := by (repeat' (first | (with_reducible exact Below.refl _ _) | (with_reducible assumption) | (with_reducible refine Below.drew ?_) | (with_reducible refine below_drewN ?_ _) | (with_reducible refine Below.setCell ?_ ?_ _) | (with_reducible refine Below.alloc ?_ ?_ _) | (refine Below.trans ?_ (Below.mono (by with_reducible assumption) ?_)) | omega | (exact Below.size (by with_reducible assumption)) | (simp; done) | (simp; omega)))
                    clear hlen hx0 hb7 q6 hB6 hB6w
                    cases h1 : decide (lenV B y < lenV B x)
                    · have hlg : longB B x y = false := by unfold longB; rw [h1]; rfl
                      have hso : soP cw B D R a b x y = false := by unfold soP; rw [hpp, hlg]; rfl
                      have hno : noP cw B D R a b x y = true := by unfold noP; rw [hpp, hlg]; rfl
                      rw [hso] at hJ1
                      rw [hno] at hJ2
                      clear hso hno hpp hlg
                      go_wp2
                      go_roundg (ys.length - (j + 1))
                      case measure => omega
                      case rel => exact ⟨j + 1, by omega, by go_num, by rw [hJ1.out]; first | rfl | (congr 1; simp; done) | (congr 1; simp; omega), by rw [hJ2.out]; first | rfl | (congr 1; simp; done) | (congr 1; simp; omega), q7, hB7⟩
                    · cases h2 : decide (0 < lenV B y)
                      · have hlg : longB B x y = false := by unfold longB; rw [h1, h2]; rfl
                        have hso : soP cw B D R a b x y = false := by unfold soP; rw [hpp, hlg]; rfl
                        have hno : noP cw B D R a b x y = true := by unfold noP; rw [hpp, hlg]; rfl
                        rw [hso] at hJ1
                        rw [hno] at hJ2
                        clear hso hno hpp hlg
                        go_wp2
                        go_roundg (ys.length - (j + 1))
                        case measure => omega
                        case rel => exact ⟨j + 1, by omega, by go_num, by rw [hJ1.out]; first | rfl | (congr 1; simp; done) | (congr 1; simp; omega), by rw [hJ2.out]; first | rfl | (congr 1; simp; done) | (congr 1; simp; omega), q7, hB7⟩
                      · have hlg : longB B x y = true := by unfold longB; rw [h1, h2]; rfl
                        have hso : soP cw B D R a b x y = true := by unfold soP; rw [hpp, hlg]; rfl
                        have hno : noP cw B D R a b x y = false := by unfold noP; rw [hpp, hlg]; rfl
                        rw [hso] at hJ1
                        rw [hno] at hJ2
                        clear hso hno hpp hlg
                        go_wp2
                        go_roundg (ys.length - (j + 1))
                        case measure => omega
                        case rel => exact ⟨j + 1, by omega, by go_num, by rw [hJ1.out]; first | rfl | (congr 1; simp; done) | (congr 1; simp; omega), by rw [hJ2.out]; first | rfl | (congr 1; simp; done) | (congr 1; simp; omega), q7, hB7⟩
                  · intro K' hK
                    rw [if_pos (by rfl)]
                    go_simp
                    refine hK.out _ _ trivial ?_
                    clear hK K'
                    (try simp only [Act.put, List.setIfInBounds_toArray, List.set_cons_zero, List.set_cons_succ])
                    refine rg_one (fuel := 4) 13 rfl (by kernel_rfl) (by kernel_rfl) ?_; simp only [pick1, wpHead]
                    intro K' hK
                    rw [if_pos (by rfl)]
                    go_simp
                    refine hK.out _ _ trivial ?_
                    clear hK K'
                    (try simp only [Act.put, List.setIfInBounds_toArray, List.set_cons_zero, List.set_cons_succ])
                    refine rg_take (fuel := 3) [17] (by kernel_rfl) (by intro _ _ d _ _ h; cases d <;> exact h) rfl (by kernel_rfl) (by kernel_rfl) trivial ?_; simp only [pickL, pick1, List.cons_append, List.nil_append]
                    (refine wpTake_cons (v := ?_) (Or.inl ⟨by rfl, ?_⟩) ?_; rotate_left; (intro w' hSw; go_simp; (try with_reducible rfl)); (try simp only [Act.put, List.setIfInBounds_toArray, List.set_cons_zero, List.set_cons_succ]))
                    refine wpTake_nil ?_
                    refine rg_one (fuel := 2) 18 rfl (by kernel_rfl) (by kernel_rfl) ?_; simp only [pick1, wpHead]
                    intro K' hK
                    go_simp
                    refine (can73 cb A0 A1 A2 n0 n1 n2 c0 c1 c2 cw B D R wr.heap.size 2 (twoF a b x y) w5' HC5'.out HM'.out (by omega) hn1 hR HFF.out).mono ?_
                    rw [HOK.out]
                    rintro e w6 ⟨rfl, hb6⟩
                    go_wp2_with fail
                    refine hK.out _ _ trivial ?_
                    clear hK K'
                    (try simp only [Act.put, List.setIfInBounds_toArray, List.set_cons_zero, List.set_cons_succ])
                    refine rg_take (fuel := 0) [19, 20] (by kernel_rfl) (by intro _ _ d _ _ h; cases d <;> exact h) rfl (by kernel_rfl) (by kernel_rfl) trivial ?_; simp only [pickL, pick1, List.cons_append, List.nil_append]
                    (refine wpTake_cons (v := ?_) (Or.inl ⟨by rfl, ?_⟩) ?_; rotate_left; (intro w' hSw; go_simp; (try with_reducible rfl)); (try simp only [Act.put, List.setIfInBounds_toArray, List.set_cons_zero, List.set_cons_succ]))
                    (refine wpTake_cons (v := ?_) (Or.inl ⟨by rfl, ?_⟩) ?_; rotate_left; (intro w' hSw; go_simp; (try with_reducible rfl)); (try simp only [Act.put, List.setIfInBounds_toArray, List.set_cons_zero, List.set_cons_succ]))
                    refine wpTake_nil ?_
                    refine rg_done (by kernel_rfl) ?_
                    have q6 := q5'.below hb6 q5'.lt
                    have hB6 : Below w3.heap.size w3 w6 := hB5w'.trans (hb6.mono hB5w'.size)
                    clear hb6 hr1 hr2 hr1' hr2' q0 q5 q5' k1 f1 hc9 hb9 hbw hB5 hB5' hB5w hB5w'
                    have hB6w : Below w.heap.size w w6 := hBw3.trans (hB6.mono hBw3.size)
                    have hlen : ∀ (v : Int) (hv : 1 ≤ v ∧ v ≤ 60) (z : Aft w6), Calls Tryd.prog 74 #[.agg #[.slice A0 n0 c0, .slice A1 n1 c1, .slice A2 n2 c2, .int .i64 cw], .int .i64 v] z.w (fun e w' => e = .returned (.int .i64 (lenV B v)) ∧ Below z.w.heap.size z.w w') := fun v hv z => ciB (by unfold lenV; rw [HL.out]) (length74 A0 A1 A2 n0 n1 n2 c0 c1 c2 cw B D R v z.w (HC.out.below (hB6w.trans (z.h.mono hB6w.size)) (Nat.le_refl _)) (HT.out.below (hB6w.trans (z.h.mono hB6w.size)) (Nat.le_refl _)) hV hv)
                    have hx0 := Aft.cell q6
                    go_wp2
                    refine wp_region_aft (by kernel_rfl) (by kernel_rfl) ?_; (repeat (go_big_quiet_step ((go_at_call 74; exact aft_of (hlen _ (by omega) _))))); refine wpQuiet_nil ?_; rintro w7 ⟨⟨_, hb7⟩, rfl⟩
                    have q7 := q6.below hb7 q6.lt
                    have hB7 : Below w3.heap.size w3 w7 := by (repeat' (first | (with_reducible exact Below.refl _ _) | (with_reducible assumption) | (with_reducible refine Below.drew ?_) | (with_reducible refine below_drewN ?_ _) | (with_reducible refine Below.setCell ?_ ?_ _) | (with_reducible refine Below.alloc ?_ ?_ _) | (refine Below.trans ?_ (Below.mono (by with_reducible assumption) ?_)) | omega | (exact Below.size (by with_reducible assumption)) | (simp; done) | (simp; omega)))
                    clear hlen hx0 hb7 q6 hB6 hB6w
                    cases h1 : decide (lenV B y < lenV B x)
                    · have hlg : longB B x y = false := by unfold longB; rw [h1]; rfl
                      have hso : soP cw B D R a b x y = false := by unfold soP; rw [hpp, hlg]; rfl
                      have hno : noP cw B D R a b x y = true := by unfold noP; rw [hpp, hlg]; rfl
                      rw [hso] at hJ1
                      rw [hno] at hJ2
                      clear hso hno hpp hlg
                      go_wp2
                      go_roundg (ys.length - (j + 1))
                      case measure => omega
                      case rel => exact ⟨j + 1, by omega, by go_num, by rw [hJ1.out]; first | rfl | (congr 1; simp; done) | (congr 1; simp; omega), by rw [hJ2.out]; first | rfl | (congr 1; simp; done) | (congr 1; simp; omega), q7, hB7⟩
                    · cases h2 : decide (0 < lenV B y)
                      · have hlg : longB B x y = false := by unfold longB; rw [h1, h2]; rfl
                        have hso : soP cw B D R a b x y = false := by unfold soP; rw [hpp, hlg]; rfl
                        have hno : noP cw B D R a b x y = true := by unfold noP; rw [hpp, hlg]; rfl
                        rw [hso] at hJ1
                        rw [hno] at hJ2
                        clear hso hno hpp hlg
                        go_wp2
                        go_roundg (ys.length - (j + 1))
                        case measure => omega
                        case rel => exact ⟨j + 1, by omega, by go_num, by rw [hJ1.out]; first | rfl | (congr 1; simp; done) | (congr 1; simp; omega), by rw [hJ2.out]; first | rfl | (congr 1; simp; done) | (congr 1; simp; omega), q7, hB7⟩
                      · have hlg : longB B x y = true := by unfold longB; rw [h1, h2]; rfl
                        have hso : soP cw B D R a b x y = true := by unfold soP; rw [hpp, hlg]; rfl
                        have hno : noP cw B D R a b x y = false := by unfold noP; rw [hpp, hlg]; rfl
                        rw [hso] at hJ1
                        rw [hno] at hJ2
                        clear hso hno hpp hlg
                        go_wp2
                        go_roundg (ys.length - (j + 1))
                        case measure => omega
                        case rel => exact ⟨j + 1, by omega, by go_num, by rw [hJ1.out]; first | rfl | (congr 1; simp; done) | (congr 1; simp; omega), by rw [hJ2.out]; first | rfl | (congr 1; simp; done) | (congr 1; simp; omega), q7, hB7⟩
                · go_wp2
                  refine rg_start (fun _ => True) 21 (by kernel_rfl) rfl ?_
                  refine rg_take (fuel := 7) [0, 1, 2, 3, 4, 5, 6, 7, 8, 9, 11, 12, 14, 15] (by kernel_rfl) (by intro _ _ d _ _ h; cases d <;> exact h) rfl (by kernel_rfl) (by kernel_rfl) trivial ?_; simp only [pickL, pick1, List.cons_append, List.nil_append]
                  (refine wpTake_cons (v := ?_) (Or.inl ⟨by rfl, ?_⟩) ?_; rotate_left; (intro w' hSw; go_simp; (try with_reducible rfl)); (try simp only [Act.put, List.setIfInBounds_toArray, List.set_cons_zero, List.set_cons_succ]))
                  (refine wpTake_cons (v := ?_) (Or.inl ⟨by rfl, ?_⟩) ?_; rotate_left; (intro w' hSw; go_simp; (try with_reducible rfl)); (try simp only [Act.put, List.setIfInBounds_toArray, List.set_cons_zero, List.set_cons_succ]))
                  (refine wpTake_cons (v := ?_) (Or.inl ⟨by rfl, ?_⟩) ?_; rotate_left; (intro w' hSw; go_simp; (try with_reducible rfl)); (try simp only [Act.put, List.setIfInBounds_toArray, List.set_cons_zero, List.set_cons_succ]))
                  (refine wpTake_cons (v := ?_) (Or.inl ⟨by rfl, ?_⟩) ?_; rotate_left; (intro w' hSw; go_simp; (try with_reducible rfl)); (try simp only [Act.put, List.setIfInBounds_toArray, List.set_cons_zero, List.set_cons_succ]))
                  (refine wpTake_cons (v := ?_) (Or.inl ⟨by rfl, ?_⟩) ?_; rotate_left; (intro w' hSw; go_simp; (try with_reducible rfl)); (try simp only [Act.put, List.setIfInBounds_toArray, List.set_cons_zero, List.set_cons_succ]))
                  (refine wpTake_cons (v := ?_) (Or.inl ⟨by rfl, ?_⟩) ?_; rotate_left; (intro w' hSw; go_simp; (try with_reducible rfl)); (try simp only [Act.put, List.setIfInBounds_toArray, List.set_cons_zero, List.set_cons_succ]))
                  (refine wpTake_cons (v := ?_) (Or.inl ⟨by rfl, ?_⟩) ?_; rotate_left; (intro w' hSw; go_simp; (try with_reducible rfl)); (try simp only [Act.put, List.setIfInBounds_toArray, List.set_cons_zero, List.set_cons_succ]))
                  (refine wpTake_cons (v := ?_) (Or.inl ⟨by rfl, ?_⟩) ?_; rotate_left; (intro w' hSw; go_simp; (try with_reducible rfl)); (try simp only [Act.put, List.setIfInBounds_toArray, List.set_cons_zero, List.set_cons_succ]))
                  (refine wpTake_cons (v := ?_) (Or.inl ⟨by rfl, ?_⟩) ?_; rotate_left; (intro w' hSw; go_simp; (try with_reducible rfl)); (try simp only [Act.put, List.setIfInBounds_toArray, List.set_cons_zero, List.set_cons_succ]))
                  (refine wpTake_cons (v := ?_) (Or.inl ⟨by rfl, ?_⟩) ?_; rotate_left; (intro w' hSw; go_simp; (try with_reducible rfl)); (try simp only [Act.put, List.setIfInBounds_toArray, List.set_cons_zero, List.set_cons_succ]))
                  (refine wpTake_cons (v := ?_) (Or.inl ⟨by rfl, ?_⟩) ?_; rotate_left; (intro w' hSw; go_simp; (try with_reducible rfl)); (try simp only [Act.put, List.setIfInBounds_toArray, List.set_cons_zero, List.set_cons_succ]))
                  (refine wpTake_cons (v := ?_) (Or.inl ⟨by rfl, ?_⟩) ?_; rotate_left; (intro w' hSw; go_simp; (try with_reducible rfl)); (try simp only [Act.put, List.setIfInBounds_toArray, List.set_cons_zero, List.set_cons_succ]))
                  (refine wpTake_cons (v := ?_) (Or.inl ⟨by rfl, ?_⟩) ?_; rotate_left; (intro w' hSw; go_simp; (try with_reducible rfl)); (try simp only [Act.put, List.setIfInBounds_toArray, List.set_cons_zero, List.set_cons_succ]))
                  (refine wpTake_cons (v := ?_) (Or.inl ⟨by rfl, ?_⟩) ?_; rotate_left; (intro w' hSw; go_simp; (try with_reducible rfl)); (try simp only [Act.put, List.setIfInBounds_toArray, List.set_cons_zero, List.set_cons_succ]))
                  refine wpTake_nil ?_
                  refine rg_one (fuel := 6) 10 rfl (by kernel_rfl) (by kernel_rfl) ?_; simp only [pick1, wpHead]
                  intro K' hK
                  rw [if_pos (by rfl)]
                  go_simp
                  refine hK.out _ _ trivial ?_
                  clear hK K'
                  (try simp only [Act.put, List.setIfInBounds_toArray, List.set_cons_zero, List.set_cons_succ])
                  refine rg_two (fuel := 5) 13 16 rfl (by kernel_rfl) (by kernel_rfl) ?_ ?_ <;> simp only [pick1, wpHead]
                  · intro K' hK
                    rw [if_pos (by rfl)]
                    go_simp
                    refine hK.out _ _ trivial ?_
                    clear hK K'
                    (try simp only [Act.put, List.setIfInBounds_toArray, List.set_cons_zero, List.set_cons_succ])
                    refine rg_one (fuel := 4) 16 rfl (by kernel_rfl) (by kernel_rfl) ?_; simp only [pick1, wpHead]
                    intro K' hK
                    rw [if_pos (by rfl)]
                    go_simp
                    refine hK.out _ _ trivial ?_
                    clear hK K'
                    (try simp only [Act.put, List.setIfInBounds_toArray, List.set_cons_zero, List.set_cons_succ])
                    refine rg_take (fuel := 3) [17] (by kernel_rfl) (by intro _ _ d _ _ h; cases d <;> exact h) rfl (by kernel_rfl) (by kernel_rfl) trivial ?_; simp only [pickL, pick1, List.cons_append, List.nil_append]
                    (refine wpTake_cons (v := ?_) (Or.inl ⟨by rfl, ?_⟩) ?_; rotate_left; (intro w' hSw; go_simp; (try with_reducible rfl)); (try simp only [Act.put, List.setIfInBounds_toArray, List.set_cons_zero, List.set_cons_succ]))
                    refine wpTake_nil ?_
                    refine rg_one (fuel := 2) 18 rfl (by kernel_rfl) (by kernel_rfl) ?_; simp only [pick1, wpHead]
                    intro K' hK
                    go_simp
                    refine (can73 cb A0 A1 A2 n0 n1 n2 c0 c1 c2 cw B D R wr.heap.size 2 (twoF a b x y) w5 HC5.out HM.out (by omega) hn1 hR HFF.out).mono ?_
                    rw [HOK.out]
                    rintro e w6 ⟨rfl, hb6⟩
                    go_wp2_with fail
                    refine hK.out _ _ trivial ?_
                    clear hK K'
                    (try simp only [Act.put, List.setIfInBounds_toArray, List.set_cons_zero, List.set_cons_succ])
                    refine rg_take (fuel := 0) [19, 20] (by kernel_rfl) (by intro _ _ d _ _ h; cases d <;> exact h) rfl (by kernel_rfl) (by kernel_rfl) trivial ?_; simp only [pickL, pick1, List.cons_append, List.nil_append]
                    (refine wpTake_cons (v := ?_) (Or.inl ⟨by rfl, ?_⟩) ?_; rotate_left; (intro w' hSw; go_simp; (try with_reducible rfl)); (try simp only [Act.put, List.setIfInBounds_toArray, List.set_cons_zero, List.set_cons_succ]))
                    (refine wpTake_cons (v := ?_) (Or.inl ⟨by rfl, ?_⟩) ?_; rotate_left; (intro w' hSw; go_simp; (try with_reducible rfl)); (try simp only [Act.put, List.setIfInBounds_toArray, List.set_cons_zero, List.set_cons_succ]))
                    refine wpTake_nil ?_
                    refine rg_done (by kernel_rfl) ?_
                    have q6 := q5.below hb6 q5.lt
                    have hB6 : Below w3.heap.size w3 w6 := hB5w.trans (hb6.mono hB5w.size)
                    clear hb6 hr1 hr2 hr1' hr2' q0 q5 q5' k1 f1 hc9 hb9 hbw hB5 hB5' hB5w hB5w'
                    have hB6w : Below w.heap.size w w6 := hBw3.trans (hB6.mono hBw3.size)
                    have hlen : ∀ (v : Int) (hv : 1 ≤ v ∧ v ≤ 60) (z : Aft w6), Calls Tryd.prog 74 #[.agg #[.slice A0 n0 c0, .slice A1 n1 c1, .slice A2 n2 c2, .int .i64 cw], .int .i64 v] z.w (fun e w' => e = .returned (.int .i64 (lenV B v)) ∧ Below z.w.heap.size z.w w') := fun v hv z => ciB (by unfold lenV; rw [HL.out]) (length74 A0 A1 A2 n0 n1 n2 c0 c1 c2 cw B D R v z.w (HC.out.below (hB6w.trans (z.h.mono hB6w.size)) (Nat.le_refl _)) (HT.out.below (hB6w.trans (z.h.mono hB6w.size)) (Nat.le_refl _)) hV hv)
                    have hx0 := Aft.cell q6
                    go_wp2
                    refine wp_region_aft (by kernel_rfl) (by kernel_rfl) ?_; (repeat (go_big_quiet_step ((go_at_call 74; exact aft_of (hlen _ (by omega) _))))); refine wpQuiet_nil ?_; rintro w7 ⟨⟨_, hb7⟩, rfl⟩
                    have q7 := q6.below hb7 q6.lt
                    have hB7 : Below w3.heap.size w3 w7 := by (repeat' (first | (with_reducible exact Below.refl _ _) | (with_reducible assumption) | (with_reducible refine Below.drew ?_) | (with_reducible refine below_drewN ?_ _) | (with_reducible refine Below.setCell ?_ ?_ _) | (with_reducible refine Below.alloc ?_ ?_ _) | (refine Below.trans ?_ (Below.mono (by with_reducible assumption) ?_)) | omega | (exact Below.size (by with_reducible assumption)) | (simp; done) | (simp; omega)))
                    clear hlen hx0 hb7 q6 hB6 hB6w
                    cases h1 : decide (lenV B y < lenV B x)
                    · have hlg : longB B x y = false := by unfold longB; rw [h1]; rfl
                      have hso : soP cw B D R a b x y = false := by unfold soP; rw [hpp, hlg]; rfl
                      have hno : noP cw B D R a b x y = true := by unfold noP; rw [hpp, hlg]; rfl
                      rw [hso] at hJ1
                      rw [hno] at hJ2
                      clear hso hno hpp hlg
                      go_wp2
                      go_roundg (ys.length - (j + 1))
                      case measure => omega
                      case rel => exact ⟨j + 1, by omega, by go_num, by rw [hJ1.out]; first | rfl | (congr 1; simp; done) | (congr 1; simp; omega), by rw [hJ2.out]; first | rfl | (congr 1; simp; done) | (congr 1; simp; omega), q7, hB7⟩
                    · cases h2 : decide (0 < lenV B y)
                      · have hlg : longB B x y = false := by unfold longB; rw [h1, h2]; rfl
                        have hso : soP cw B D R a b x y = false := by unfold soP; rw [hpp, hlg]; rfl
                        have hno : noP cw B D R a b x y = true := by unfold noP; rw [hpp, hlg]; rfl
                        rw [hso] at hJ1
                        rw [hno] at hJ2
                        clear hso hno hpp hlg
                        go_wp2
                        go_roundg (ys.length - (j + 1))
                        case measure => omega
                        case rel => exact ⟨j + 1, by omega, by go_num, by rw [hJ1.out]; first | rfl | (congr 1; simp; done) | (congr 1; simp; omega), by rw [hJ2.out]; first | rfl | (congr 1; simp; done) | (congr 1; simp; omega), q7, hB7⟩
                      · have hlg : longB B x y = true := by unfold longB; rw [h1, h2]; rfl
                        have hso : soP cw B D R a b x y = true := by unfold soP; rw [hpp, hlg]; rfl
                        have hno : noP cw B D R a b x y = false := by unfold noP; rw [hpp, hlg]; rfl
                        rw [hso] at hJ1
                        rw [hno] at hJ2
                        clear hso hno hpp hlg
                        go_wp2
                        go_roundg (ys.length - (j + 1))
                        case measure => omega
                        case rel => exact ⟨j + 1, by omega, by go_num, by rw [hJ1.out]; first | rfl | (congr 1; simp; done) | (congr 1; simp; omega), by rw [hJ2.out]; first | rfl | (congr 1; simp; done) | (congr 1; simp; omega), q7, hB7⟩
                  · intro K' hK
                    rw [if_pos (by rfl)]
                    go_simp
                    refine hK.out _ _ trivial ?_
                    clear hK K'
                    (try simp only [Act.put, List.setIfInBounds_toArray, List.set_cons_zero, List.set_cons_succ])
                    refine rg_one (fuel := 4) 13 rfl (by kernel_rfl) (by kernel_rfl) ?_; simp only [pick1, wpHead]
                    intro K' hK
                    rw [if_pos (by rfl)]
                    go_simp
                    refine hK.out _ _ trivial ?_
                    clear hK K'
                    (try simp only [Act.put, List.setIfInBounds_toArray, List.set_cons_zero, List.set_cons_succ])
                    refine rg_take (fuel := 3) [17] (by kernel_rfl) (by intro _ _ d _ _ h; cases d <;> exact h) rfl (by kernel_rfl) (by kernel_rfl) trivial ?_; simp only [pickL, pick1, List.cons_append, List.nil_append]
                    (refine wpTake_cons (v := ?_) (Or.inl ⟨by rfl, ?_⟩) ?_; rotate_left; (intro w' hSw; go_simp; (try with_reducible rfl)); (try simp only [Act.put, List.setIfInBounds_toArray, List.set_cons_zero, List.set_cons_succ]))
                    refine wpTake_nil ?_
                    refine rg_one (fuel := 2) 18 rfl (by kernel_rfl) (by kernel_rfl) ?_; simp only [pick1, wpHead]
                    intro K' hK
                    go_simp
                    refine (can73 cb A0 A1 A2 n0 n1 n2 c0 c1 c2 cw B D R wr.heap.size 2 (twoF a b x y) w5' HC5'.out HM'.out (by omega) hn1 hR HFF.out).mono ?_
                    rw [HOK.out]
                    rintro e w6 ⟨rfl, hb6⟩
                    go_wp2_with fail
                    refine hK.out _ _ trivial ?_
                    clear hK K'
                    (try simp only [Act.put, List.setIfInBounds_toArray, List.set_cons_zero, List.set_cons_succ])
                    refine rg_take (fuel := 0) [19, 20] (by kernel_rfl) (by intro _ _ d _ _ h; cases d <;> exact h) rfl (by kernel_rfl) (by kernel_rfl) trivial ?_; simp only [pickL, pick1, List.cons_append, List.nil_append]
                    (refine wpTake_cons (v := ?_) (Or.inl ⟨by rfl, ?_⟩) ?_; rotate_left; (intro w' hSw; go_simp; (try with_reducible rfl)); (try simp only [Act.put, List.setIfInBounds_toArray, List.set_cons_zero, List.set_cons_succ]))
                    (refine wpTake_cons (v := ?_) (Or.inl ⟨by rfl, ?_⟩) ?_; rotate_left; (intro w' hSw; go_simp; (try with_reducible rfl)); (try simp only [Act.put, List.setIfInBounds_toArray, List.set_cons_zero, List.set_cons_succ]))
                    refine wpTake_nil ?_
                    refine rg_done (by kernel_rfl) ?_
                    have q6 := q5'.below hb6 q5'.lt
                    have hB6 : Below w3.heap.size w3 w6 := hB5w'.trans (hb6.mono hB5w'.size)
                    clear hb6 hr1 hr2 hr1' hr2' q0 q5 q5' k1 f1 hc9 hb9 hbw hB5 hB5' hB5w hB5w'
                    have hB6w : Below w.heap.size w w6 := hBw3.trans (hB6.mono hBw3.size)
                    have hlen : ∀ (v : Int) (hv : 1 ≤ v ∧ v ≤ 60) (z : Aft w6), Calls Tryd.prog 74 #[.agg #[.slice A0 n0 c0, .slice A1 n1 c1, .slice A2 n2 c2, .int .i64 cw], .int .i64 v] z.w (fun e w' => e = .returned (.int .i64 (lenV B v)) ∧ Below z.w.heap.size z.w w') := fun v hv z => ciB (by unfold lenV; rw [HL.out]) (length74 A0 A1 A2 n0 n1 n2 c0 c1 c2 cw B D R v z.w (HC.out.below (hB6w.trans (z.h.mono hB6w.size)) (Nat.le_refl _)) (HT.out.below (hB6w.trans (z.h.mono hB6w.size)) (Nat.le_refl _)) hV hv)
                    have hx0 := Aft.cell q6
                    go_wp2
                    refine wp_region_aft (by kernel_rfl) (by kernel_rfl) ?_; (repeat (go_big_quiet_step ((go_at_call 74; exact aft_of (hlen _ (by omega) _))))); refine wpQuiet_nil ?_; rintro w7 ⟨⟨_, hb7⟩, rfl⟩
                    have q7 := q6.below hb7 q6.lt
                    have hB7 : Below w3.heap.size w3 w7 := by (repeat' (first | (with_reducible exact Below.refl _ _) | (with_reducible assumption) | (with_reducible refine Below.drew ?_) | (with_reducible refine below_drewN ?_ _) | (with_reducible refine Below.setCell ?_ ?_ _) | (with_reducible refine Below.alloc ?_ ?_ _) | (refine Below.trans ?_ (Below.mono (by with_reducible assumption) ?_)) | omega | (exact Below.size (by with_reducible assumption)) | (simp; done) | (simp; omega)))
                    clear hlen hx0 hb7 q6 hB6 hB6w
                    cases h1 : decide (lenV B y < lenV B x)
                    · have hlg : longB B x y = false := by unfold longB; rw [h1]; rfl
                      have hso : soP cw B D R a b x y = false := by unfold soP; rw [hpp, hlg]; rfl
                      have hno : noP cw B D R a b x y = true := by unfold noP; rw [hpp, hlg]; rfl
                      rw [hso] at hJ1
                      rw [hno] at hJ2
                      clear hso hno hpp hlg
                      go_wp2
                      go_roundg (ys.length - (j + 1))
                      case measure => omega
                      case rel => exact ⟨j + 1, by omega, by go_num, by rw [hJ1.out]; first | rfl | (congr 1; simp; done) | (congr 1; simp; omega), by rw [hJ2.out]; first | rfl | (congr 1; simp; done) | (congr 1; simp; omega), q7, hB7⟩
                    · cases h2 : decide (0 < lenV B y)
                      · have hlg : longB B x y = false := by unfold longB; rw [h1, h2]; rfl
                        have hso : soP cw B D R a b x y = false := by unfold soP; rw [hpp, hlg]; rfl
                        have hno : noP cw B D R a b x y = true := by unfold noP; rw [hpp, hlg]; rfl
                        rw [hso] at hJ1
                        rw [hno] at hJ2
                        clear hso hno hpp hlg
                        go_wp2
                        go_roundg (ys.length - (j + 1))
                        case measure => omega
                        case rel => exact ⟨j + 1, by omega, by go_num, by rw [hJ1.out]; first | rfl | (congr 1; simp; done) | (congr 1; simp; omega), by rw [hJ2.out]; first | rfl | (congr 1; simp; done) | (congr 1; simp; omega), q7, hB7⟩
                      · have hlg : longB B x y = true := by unfold longB; rw [h1, h2]; rfl
                        have hso : soP cw B D R a b x y = true := by unfold soP; rw [hpp, hlg]; rfl
                        have hno : noP cw B D R a b x y = false := by unfold noP; rw [hpp, hlg]; rfl
                        rw [hso] at hJ1
                        rw [hno] at hJ2
                        clear hso hno hpp hlg
                        go_wp2
                        go_roundg (ys.length - (j + 1))
                        case measure => omega
                        case rel => exact ⟨j + 1, by omega, by go_num, by rw [hJ1.out]; first | rfl | (congr 1; simp; done) | (congr 1; simp; omega), by rw [hJ2.out]; first | rfl | (congr 1; simp; done) | (congr 1; simp; omega), q7, hB7⟩
          · have hjl : Hid (ys.take j = ys) := List.take_of_length_le (by omega)
            have hBx : Below w2.heap.size w2 wr := hB3.trans (hbw.mono hB3.size)
            rw [hjl.out]
            go_wp2_with fail
            go_roundg (xs.length - (i + 1))
            case measure => omega
            case rel => exact ⟨i + 1, by omega, by go_num, by rw [hS1.out], by rw [hS2.out], q0, hBx⟩
      · have hil : Hid (xs.take i = xs) := List.take_of_length_le (by omega)
        have hBx : Below w.heap.size w wr := hB2.trans (hbw.mono hB2.size)
        have hLV : Hid (lonV cw B D R a b = verd (cnt2 (soP cw B D R a b) xs ys) (cnt2 (noP cw B D R a b) xs ys)) := by show _ = _; unfold lonV; rw [← HX.out, ← HY.out]
        rw [hil.out]
        clear hbi1 hbi2
        generalize cnt2 (soP cw B D R a b) xs ys = sn at *
        generalize cnt2 (noP cw B D R a b) xs ys = tn at *
        by_cases ht0 : tn = 0
        · have hb1 : ((tn : Int) == 0) = true := by simp [ht0]
          have hv : Hid (verd sn tn = 1) := by show _ = _; unfold verd; rw [if_pos ht0]
          have ht' := Lib.hid ht0
          clear ht0
          go_wp2
          go_ret2
          exact ⟨by rw [hLV.out, hv.out]; rfl, hBx⟩
        · have hb1 : ((tn : Int) == 0) = false := by simp; omega
          by_cases hs0' : sn = 0
          · have hb2 : ((sn : Int) == 0) = true := by simp [hs0']
            have hv : Hid (verd sn tn = 2) := by show _ = _; unfold verd; rw [if_neg ht0, if_pos hs0']
            have ht' := Lib.hid ht0
            have hs' := Lib.hid hs0'
            clear ht0 hs0'
            go_wp2
            go_ret2
            exact ⟨by rw [hLV.out, hv.out]; rfl, hBx⟩
          · have hb2 : ((sn : Int) == 0) = false := by simp; omega
            have hv : Hid (verd sn tn = 3) := by show _ = _; unfold verd; rw [if_neg ht0, if_neg hs0']
            have ht' := Lib.hid ht0
            have hs' := Lib.hid hs0'
            clear ht0 hs0'
            go_wp2
            go_ret2
            exact ⟨by rw [hLV.out, hv.out]; rfl, hBx⟩

end Go.Proofs.YtibkgnnpmidgfaaDoor
