/- Walks: counts of the program. -/
import Derived.Test.YtibkgnnpmidgfaaDoorCc
import Derived.OwnWalk
import Derived.Laws.Bits64b
import Derived.IntWalk
import Derived.RegionTactic
import Derived.ChangeAlike
import Derived.BigRegion
import Derived.Outline
import Derived.Deep.LoopGhost
import Derived.Deep.DeepCutAuto
namespace Go.Proofs.YtibkgnnpmidgfaaDoor
open Go.RowKit

def uv (m : Nat) : Value := .int .u64 (m : Int)
def urow (m : Nat) : List Value := [uv m]
theorem own_of_made {w : World} {base e g n : Nat} {xs : List Value} (h : w.ownsRow base e 1 (.slice (some ⟨g, 0, none⟩) n n) n xs) : Own w g xs := by
  obtain ⟨h1, h2⟩ := h
  rcases h2 with ⟨h2, _⟩ | ⟨g', cap, cur, hv, hg, hh, hcap, hmax, hsz, ht⟩
  · cases h2
  · cases hv
    have e1 : cur.toList = xs := by
      rw [← ht, List.take_of_length_le (by simp [hsz])]
    refine ⟨(Array.getElem?_eq_some_iff.1 hh).1, fun i => ?_, fun i => ?_⟩
    · rw [← e1]
      simp [World.cell?, hh]
    · simp [World.frozen?, hh]
theorem made_u (n : Nat) : (madeCells (Value.int .u64 0).cells (n * 1)).toList = (List.replicate n 0).map uv := by
  rw [Nat.mul_one]
  refine List.ext_getElem (by simp [madeCells]) fun i h1 h2 => ?_
  simp [madeCells, Value.cells, uv, Nat.mod_one]
theorem Tryd.info88 : (Tryd.prog.info? 88).map (fun i => (i.zero, i.size, i.bytes)) = some (some (.int .u64 0), 1, 8) := by kernel_rfl

/-- The row of masks while bend t is worked on: p is what it has so far. -/
def rowU (B : List Pt) (o : Int) (f n t p : Nat) : List Nat := masks B o f t ++ p :: List.replicate (n - t - 1) 0
theorem rowU_len (B : List Pt) (o : Int) (f n t p : Nat) (h : t < n) : (rowU B o f n t p).length = n := by
  simp [rowU, masks_len]; omega
theorem rowU_at (B : List Pt) (o : Int) (f n t p : Nat) : ((rowU B o f n t p).map uv)[t]? = some (uv p) := by
  simp [rowU, masks_len]
theorem rowU_lo (B : List Pt) (o : Int) (f n t p i : Nat) (h : i < t) : ((rowU B o f n t p).map uv)[i]? = some (uv ((masks B o f t).getD i 0)) := by
  have hl : i < (masks B o f t).length := by rw [masks_len]; exact h
  simp [rowU, List.getElem?_append_left, hl, List.getD_eq_getElem?_getD]
theorem rowU_set (B : List Pt) (o : Int) (f n t p q : Nat) : ((rowU B o f n t p).map uv).set t (uv q) = (rowU B o f n t q).map uv := by
  have hl : (masks B o f t).length = t := masks_len B o f t
  unfold rowU
  rw [List.map_append, List.map_append, List.set_append_right _ _ (by simp [hl])]
  simp [hl]
/-- The row at the outer loop's head. -/
def rowT (B : List Pt) (o : Int) (f n t : Nat) : List Nat := masks B o f t ++ List.replicate (n - t) 0
theorem rowT_U (B : List Pt) (o : Int) (f n t : Nat) (h : t < n) : rowT B o f n t = rowU B o f n t 0 := by
  unfold rowT rowU
  rw [show n - t = (n - t - 1) + 1 by omega, List.replicate_succ]; simp
theorem rowU_T (B : List Pt) (o : Int) (f n t : Nat) (hf : f < t) : rowU B o f n t (partM B o f (masks B o f t) t (t - f)) = rowT B o f n (t + 1) := by
  unfold rowT rowU
  rw [masks, if_neg (by omega), if_neg (by omega), List.append_assoc, show n - (t + 1) = n - t - 1 by omega]; rfl
theorem rowU_T' (B : List Pt) (o : Int) (f n t b : Nat) (hf : f < t) (hb : b = t) : rowU B o f n t (partM B o f (masks B o f t) t (b - f)) = rowT B o f n (t + 1) := by
  subst hb; exact rowU_T B o f n b hf
theorem part_yes {B : List Pt} {o : Int} {f t b : Nat} {ms : List Nat} (hf : f ≤ b) (h : reachB (atB B b) (atB B t) o = true) : partM B o f ms t (b + 1 - f) = partM B o f ms t (b - f) ||| (ms.getD b 0 <<< 1) := by
  rw [show b + 1 - f = (b - f) + 1 by omega, partM, show f + (b - f) = b by omega, if_pos h]
theorem part_no {B : List Pt} {o : Int} {f t b : Nat} {ms : List Nat} (hf : f ≤ b) (h : reachB (atB B b) (atB B t) o = false) : partM B o f ms t (b + 1 - f) = partM B o f ms t (b - f) := by
  rw [show b + 1 - f = (b - f) + 1 by omega, partM, show f + (b - f) = b by omega, if_neg (by rw [h]; simp)]
theorem masks_zero (B : List Pt) (o : Int) (f : Nat) : ∀ t, t ≤ f → masks B o f t = List.replicate t 0
  | 0, _ => rfl
  | t + 1, h => by rw [masks, masks_zero B o f t (by omega), if_pos (by omega), List.replicate_succ']
theorem rowT_start (B : List Pt) (o : Int) (f n : Nat) (h : f < n) : ((List.replicate n 0).map uv).set f (uv 1) = (rowT B o f n (f + 1)).map uv := by
  have e : List.replicate n 0 = rowU B o f n f 0 := by
    unfold rowU
    rw [masks_zero B o f f (Nat.le_refl _), show (0 : Nat) :: List.replicate (n - f - 1) 0 = List.replicate (n - f) 0 by rw [show n - f = (n - f - 1) + 1 by omega, List.replicate_succ]; simp, List.replicate_append_replicate]
    congr 1; omega
  rw [e, rowU_set]
  unfold rowT rowU
  rw [masks, if_neg (by omega), if_pos rfl, List.append_assoc, show n - (f + 1) = n - f - 1 by omega]; rfl

/-- All bends are points. -/
def ptsB (B : List Pt) : Prop := ∀ (i : Nat) (p : Pt), B[i]? = some p → (-200 ≤ p.1 ∧ p.1 ≤ 200) ∧ (-200 ≤ p.2 ∧ p.2 ≤ 200)

theorem ms_lt (B : List Pt) (o : Int) (f t i : Nat) (hi : i < t) (ht : t ≤ 12) : (masks B o f t).getD i 0 < 4096 := by
  rw [masks_get B o f t i hi]
  have := mk_lt B o f i
  have h2 : 2 ^ (i + 1) ≤ 2 ^ 12 := Nat.pow_le_pow_right (by decide) (by omega)
  omega
theorem ms_lt' (B : List Pt) (o : Int) (f t i : Nat) (ht : t ≤ 12) : (masks B o f t).getD i 0 < 2 ^ 12 := by
  by_cases h : i < t
  · exact ms_lt B o f t i h ht
  · rw [List.getD_eq_getElem?_getD, List.getElem?_eq_none (by rw [masks_len]; omega)]; decide
theorem part_lt (B : List Pt) (o : Int) (f t k : Nat) (ht : t ≤ 12) : partM B o f (masks B o f t) t k < 8192 :=
  partM_lt B o f (masks B o f t) t 12 (fun j => ms_lt' B o f t j ht) k
theorem shl_u (m : Nat) (h : m < 4096) : IntKind.u64.wrap ((m : Int) * 2) = ((m <<< 1 : Nat) : Int) := by
  rw [IntKind.wrap_u64, Nat.shiftLeft_eq]; omega
theorem or_u (p m : Nat) (hp : p < 8192) (h : m < 4096) : bits .or .u64 (p : Int) ((m <<< 1 : Nat) : Int) = ((p ||| m <<< 1 : Nat) : Int) :=
  bits_or_u64_nat p (m <<< 1) (by omega) (by rw [Nat.shiftLeft_eq]; omega)

theorem reaches81v {a1 a2 b1 b2 o : Int} {v : Bool} (hv : reachB (a1, a2) (b1, b2) o = v) (w : World) (h1 : -200 ≤ a1 ∧ a1 ≤ 200) (h2 : -200 ≤ a2 ∧ a2 ≤ 200) (h3 : -200 ≤ b1 ∧ b1 ≤ 200) (h4 : -200 ≤ b2 ∧ b2 ≤ 200) (h5 : 0 ≤ o ∧ o ≤ 200) :
    Calls Tryd.prog 81 #[.agg #[.int .i64 a1, .int .i64 a2], .agg #[.int .i64 b1, .int .i64 b2], .int .i64 o] w fun e w' => e = .returned (.bool v) ∧ Below w.heap.size w w' := hv ▸ reaches81 a1 a2 b1 b2 o w h1 h2 h3 h4 h5
set_option maxRecDepth 100000 in
set_option maxHeartbeats 4000000 in
theorem counts65 (A0 A1 A2 : Option Addr) (n0 n1 n2 c0 c1 c2 : Nat) (cw : Int) (B D : List Pt) (R : List Rep) (o : Int) (f : Nat) (w : World) (hC : RdC w A0 A1 A2 n0 n1 n2 B D R) (hP : Hid (ptsB B)) (hf : f < n0) (hn : n0 ≤ 12) (ho : 0 ≤ o ∧ o ≤ 200) :
    Calls Tryd.prog 65 #[.agg #[.slice A0 n0 c0, .slice A1 n1 c1, .slice A2 n2 c2, .int .i64 cw], .int .i64 o, .int .i64 f] w fun e w' => ∃ (b cap : Nat), w.heap.size ≤ b ∧ e = .returned (.slice (some ⟨b, 0, none⟩) n0 cap) ∧ Own w' b ((masks B o f n0).map uv) ∧ Below w.heap.size w w' := by
  have HC := Lib.hid hC
  have HL := Lib.hid hC.h0
  clear hC
  obtain ⟨i0, hi0, hi1, hi2, hi3⟩ := info_parts Tryd.info88
  have o0 : Own (w.alloc (.cells #[.slice A0 n0 c0, .slice A1 n1 c1, .slice A2 n2 c2, .int .i64 cw] 26)) w.heap.size [.slice A0 n0 c0, .slice A1 n1 c1, .slice A2 n2 c2, .int .i64 cw] := Own.new' _ _ rfl rfl
  have oB : Below w.heap.size w (w.alloc (.cells #[.slice A0 n0 c0, .slice A1 n1 c1, .slice A2 n2 c2, .int .i64 cw] 26)) := by (repeat' (first | (with_reducible exact Below.refl _ _) | (with_reducible assumption) | (with_reducible refine Below.drew ?_) | (with_reducible refine below_drewN ?_ _) | (with_reducible refine Below.setCell ?_ ?_ _) | (with_reducible refine Below.alloc ?_ ?_ _) | (refine Below.trans ?_ (Below.mono (by with_reducible assumption) ?_)) | omega | (exact Below.size (by with_reducible assumption)) | (simp; done) | (simp; omega)))
  go_enter Tryd.func65, Tryd.ntmps65
  have hgrd : ((List.replicate n0 0).map uv)[f]? = some (uv 0) := by simp [hf]
  go_wp2_with (at_make; refine wpList_make_full _ rfl _ _ 89 rfl (w.heap.size + 1) 88 i0 (.int .u64 0) 1 Tryd.underlying89 hi0 hi1 hi2 .i64 .i64 _ _ n0 rfl rfl rfl rfl (by rw [hi3]; omega) (by unfold maxLen; omega) (by simp) ?_; intro w1 hown1 hgrow1; have ho1 := own_of_made hown1; rw [made_u] at ho1; (try simp only [World.size_alloc] at ho1); have q0 : Own w1 w.heap.size [.slice A0 n0 c0, .slice A1 n1 c1, .slice A2 n2 c2, .int .i64 cw] := o0.below ((Below.refl (w.heap.size + 1) _).grown hgrow1 (by simp) (fun _ e => by cases e)) (by omega); have q1 : Below w.heap.size w w1 := oB.trans (((Below.refl (w.heap.size + 1) _).grown hgrow1 (by simp) (fun _ e => by cases e)).mono (by omega)); have g0 := ho1.lt; have g1 := (ho1.c f).trans hgrd; have g2 := ho1.f; have g3 := q0.c; clear hown1 hgrow1)
  have p0 : Own (w1.setCell ⟨w.heap.size + 1, f, none⟩ (.int .u64 1)) (w.heap.size + 1) ((rowT B o f n0 (f + 1)).map uv) := by
    rw [← rowT_start B o f n0 hf]
    exact ho1.set f (by simp [hf]) _
  have p1 : Own (w1.setCell ⟨w.heap.size + 1, f, none⟩ (.int .u64 1)) w.heap.size [.slice A0 n0 c0, .slice A1 n1 c1, .slice A2 n2 c2, .int .i64 cw] := q0.setOther (by simp) _
  have p2 : Below w.heap.size w (w1.setCell ⟨w.heap.size + 1, f, none⟩ (.int .u64 1)) := q1.setCell (by simp) _
  clear g0 g1 g2 g3 ho1 q0 q1 o0 oB hgrd hi0 hi1 hi2 hi3
  go_loopg [8] (n0 - (f + 1)) (fun K t wr => ∃ T : Nat, K + T = n0 ∧ f < T ∧ t = .int .i64 T ∧ Own wr (w.heap.size + 1) ((rowT B o f n0 T).map uv) ∧ Own wr w.heap.size [.slice A0 n0 c0, .slice A1 n1 c1, .slice A2 n2 c2, .int .i64 cw] ∧ Below w.heap.size w wr)
  case atStart => exact ⟨f + 1, by omega, by omega, by go_num, p0, p1, p2⟩
  case round =>
    clear p0 p1 p2
    obtain ⟨T, hT, hfT, rfl, p0, p1, p2⟩ := hrel
    have q1 := p1
    obtain ⟨l1, k1, f1⟩ := q1
    by_cases hlt : T < n0
    · rw [rowT_U B o f n0 T hlt] at p0
      obtain ⟨wo, rfl⟩ : ∃ wo : World, wo = wr := ⟨_, rfl⟩
      have p0' : Own wo (w.heap.size + 1) ((rowU B o f n0 T (partM B o f (masks B o f T) T (f - f))).map uv) := by rw [Nat.sub_self]; exact p0
      clear p0
      go_wp2_with fail
      go_loopg [9] (T - f) (fun K y wi => ∃ b : Nat, K + b = T ∧ f ≤ b ∧ y = .int .i64 b ∧ Own wi (w.heap.size + 1) ((rowU B o f n0 T (partM B o f (masks B o f T) T (b - f))).map uv) ∧ Own wi w.heap.size [.slice A0 n0 c0, .slice A1 n1 c1, .slice A2 n2 c2, .int .i64 cw] ∧ Below w.heap.size w wi)
      case atStart => exact ⟨f, by omega, by omega, rfl, p0', p1, p2⟩
      case round =>
        clear p0' p1 p2 k1 f1 l1
        obtain ⟨b, hb, hfb, rfl, p0, p1, p2⟩ := hrel
        have q1 := p1
        obtain ⟨l1, k1, f1⟩ := q1
        by_cases hbT : b < T
        · obtain ⟨⟨gx, gy⟩, hg⟩ : ∃ g, Hid (B[b]? = some g) := ⟨B[b]'(by have := HL.out; omega), by simp [Hid]⟩
          obtain ⟨⟨kx, ky⟩, hg'⟩ : ∃ g, Hid (B[T]? = some g) := ⟨B[T]'(by have := HL.out; omega), by simp [Hid]⟩
          have ha := Lib.hid (atB_of hg.out)
          have ha' := Lib.hid (atB_of hg'.out)
          obtain ⟨b0, off, rfl, hb0, hc0, hc1⟩ := rd_pt (HC.out.below p2 (Nat.le_refl _)).r0 hg.out
          obtain ⟨b1, off1, hbb, hb1, hd0, hd1⟩ := rd_pt (HC.out.below p2 (Nat.le_refl _)).r0 hg'.out
          obtain ⟨rfl, rfl⟩ : b0 = b1 ∧ off = off1 := by simpa using hbb
          clear hbb
          dsimp only at hc0 hc1 hd0 hd1
          obtain ⟨⟨y1, y2⟩, y3, y4⟩ := hP.out _ _ hg.out
          obtain ⟨⟨z1, z2⟩, z3, z4⟩ := hP.out _ _ hg'.out
          dsimp only at y1 y2 y3 y4 z1 z2 z3 z4
          have hx0 := Aft.cell p1
          have hx1 := fun x : Aft wr => (Aft.old x hb0 _).trans hc0
          have hx2 := fun x : Aft wr => (Aft.old x hb0 _).trans hc1
          have hx3 := fun x : Aft wr => (Aft.old x hb0 _).trans hd0
          have hx4 := fun x : Aft wr => (Aft.old x hb0 _).trans hd1
          cases hr : reachB (gx, gy) (kx, ky) o
          · have hr' : Hid (reachB (atB B b) (atB B T) o = false) := by show _ = _; rw [ha.out, ha'.out]; exact hr
            go_wp2
            refine wp_region_aft (by kernel_rfl) (by kernel_rfl) ?_; (repeat (go_big_quiet_step ((go_at_call 81; exact aft_of (reaches81v hr _ ⟨y1, y2⟩ ⟨y3, y4⟩ ⟨z1, z2⟩ ⟨z3, z4⟩ ho))))); refine wpQuiet_nil ?_; rintro w5 ⟨⟨_, hb5⟩, rfl⟩
            have r0 : Own w5 (w.heap.size + 1) ((rowU B o f n0 T (partM B o f (masks B o f T) T (b + 1 - f))).map uv) := by rw [part_no hfb hr'.out]; exact p0.below hb5 p0.lt
            have r1 := p1.below hb5 p1.lt
            have r2 : Below w.heap.size w w5 := by (repeat' (first | (with_reducible exact Below.refl _ _) | (with_reducible assumption) | (with_reducible refine Below.drew ?_) | (with_reducible refine below_drewN ?_ _) | (with_reducible refine Below.setCell ?_ ?_ _) | (with_reducible refine Below.alloc ?_ ?_ _) | (refine Below.trans ?_ (Below.mono (by with_reducible assumption) ?_)) | omega | (exact Below.size (by with_reducible assumption)) | (simp; done) | (simp; omega)))
            clear hx0 hx1 hx2 hx3 hx4 hc0 hc1 hd0 hd1 hb0 hb1 hb5 k1 f1 p0 p1 p2
            go_wp2
            go_roundg (T - (b + 1))
            case measure => omega
            case rel => exact ⟨b + 1, by omega, by omega, by go_num, r0, r1, r2⟩
          · have hr' : Hid (reachB (atB B b) (atB B T) o = true) := by show _ = _; rw [ha.out, ha'.out]; exact hr
            go_wp2
            refine wp_region_aft (by kernel_rfl) (by kernel_rfl) ?_; (repeat (go_big_quiet_step ((go_at_call 81; exact aft_of (reaches81v hr _ ⟨y1, y2⟩ ⟨y3, y4⟩ ⟨z1, z2⟩ ⟨z3, z4⟩ ho))))); refine wpQuiet_nil ?_; rintro w5 ⟨⟨_, hb5⟩, rfl⟩
            have r0 := p0.below hb5 p0.lt
            have r1 := p1.below hb5 p1.lt
            have r2 : Below w.heap.size w w5 := by (repeat' (first | (with_reducible exact Below.refl _ _) | (with_reducible assumption) | (with_reducible refine Below.drew ?_) | (with_reducible refine below_drewN ?_ _) | (with_reducible refine Below.setCell ?_ ?_ _) | (with_reducible refine Below.alloc ?_ ?_ _) | (refine Below.trans ?_ (Below.mono (by with_reducible assumption) ?_)) | omega | (exact Below.size (by with_reducible assumption)) | (simp; done) | (simp; omega)))
            clear hx0 hx1 hx2 hx3 hx4 hc0 hc1 hd0 hd1 hb0 hb1 hb5 k1 f1 p0 p1 p2
            have m0 := (r0.c T).trans (rowU_at B o f n0 T _)
            have m1 := (r0.c b).trans (rowU_lo B o f n0 T _ b hbT)
            have m2 := r0.f
            have m3 := r0.lt
            have h1 := shl_u _ (ms_lt B o f T b hbT (by omega))
            have h2 := or_u _ _ (part_lt B o f T (b - f) (by omega)) (ms_lt B o f T b hbT (by omega))
            have s0 : Own (w5.setCell ⟨w.heap.size + 1, T, none⟩ (uv (partM B o f (masks B o f T) T (b + 1 - f)))) (w.heap.size + 1) ((rowU B o f n0 T (partM B o f (masks B o f T) T (b + 1 - f))).map uv) := by
              rw [← rowU_set B o f n0 T (partM B o f (masks B o f T) T (b - f)) (partM B o f (masks B o f T) T (b + 1 - f))]
              exact r0.set T (by rw [List.length_map, rowU_len B o f n0 T _ hlt]; exact hlt) _
            have pe := Lib.hid (part_yes (ms := masks B o f T) hfb hr'.out)
            rw [pe.out] at s0
            unfold uv at m0 m1 s0
            generalize partM B o f (masks B o f T) T (b - f) = pp at *
            generalize (masks B o f T).getD b 0 = mm at *
            go_wp2
            go_region
            have h3 : bits .or .u64 (pp : Int) ((mm : Int) <<< 1) = ((pp ||| mm <<< 1 : Nat) : Int) := by rw [show (mm : Int) <<< 1 = ((mm <<< 1 : Nat) : Int) by rw [Int.shiftLeft_eq, Nat.shiftLeft_eq]; simp]; exact h2
            rw [h3]
            have s1 := (r1.setOther (a := ⟨w.heap.size + 1, T, none⟩) (by simp) (.int .u64 ((pp ||| mm <<< 1 : Nat) : Int)))
            have s2 : Below w.heap.size w (w5.setCell ⟨w.heap.size + 1, T, none⟩ (.int .u64 ((pp ||| mm <<< 1 : Nat) : Int))) := r2.setCell (by simp) _
            clear h1 h2 h3 m0 m1 m2 m3 r0 r1 r2
            go_wp2
            go_roundg (T - (b + 1))
            case measure => omega
            case rel =>
              refine ⟨b + 1, by omega, by omega, by go_num, ?_, s1.drew, s2.drew⟩
              rw [pe.out]
              exact s0.drew
        · rw [rowU_T' B o f n0 T b hfT (by omega)] at p0
          go_wp2_with fail
          go_roundg (n0 - (T + 1))
          case measure => omega
          case rel => exact ⟨T + 1, by omega, by omega, by go_num, p0, p1, p2⟩
    · go_wp2_with fail
      go_ret
      have e : T = n0 := by omega
      rw [e] at p0
      refine ⟨w.heap.size + 1, n0, by omega, rfl, ?_, p2⟩
      unfold rowT at p0
      rw [Nat.sub_self, List.replicate_zero, List.append_nil] at p0
      exact p0

end Go.Proofs.YtibkgnnpmidgfaaDoor
