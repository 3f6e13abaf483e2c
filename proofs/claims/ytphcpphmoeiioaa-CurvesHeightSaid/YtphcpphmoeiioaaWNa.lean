/- Walks: middle, Draw, Best, Told. -/
import Derived.Test.YtphcpphmoeiioaaOpR
import Derived.Maps.AppendAt
import Derived.ArgAppend
namespace Go.Proofs.Ytphcpphmoeiioaa
open Go.RowKit Go.Maps

/-- Half of both ends together, rounded down. -/
def midI (lo hi : Int) : Int := (lo + hi) / 2
theorem tdiv_two {n : Int} (h : n ≤ 0) : n.tdiv 2 = -((-n) / 2) := by
  have e : n = -(-n) := by omega
  have h2 := Int.neg_tdiv (-n) 2
  rw [Int.tdiv_eq_ediv_of_nonneg (a := -n) (b := 2) (by omega)] at h2
  rw [← e] at h2
  exact h2
theorem tmod_two {n : Int} (h : n ≤ 0) : n.tmod 2 = n + 2 * ((-n) / 2) := by
  have h1 := Int.mul_tdiv_add_tmod n 2
  rw [tdiv_two h] at h1
  omega
set_option maxHeartbeats 1000000 in
theorem middle61 (lo hi : Int) (w : World) (h1 : -100000 ≤ lo ∧ lo ≤ 100000) (h2 : -100000 ≤ hi ∧ hi ≤ 100000) :
    Calls Try.prog 61 #[.agg #[.int .i64 lo, .int .i64 hi]] w fun e w' => e = .returned (.int .i64 (midI lo hi)) ∧ Below w.heap.size w w' := by
  unfold midI
  go_enter Try.func61, Try.ntmps61
  go_wp2
  all_goals go_ret
  · rename_i h3 h4
    rw [tmod_two (by omega), bne_iff_ne] at h4
    refine ⟨ret_int ?_, by (repeat' (first | (with_reducible exact Below.refl _ _) | (with_reducible assumption) | (with_reducible refine Below.drew ?_) | (with_reducible refine below_drewN ?_ _) | (with_reducible refine Below.setCell ?_ ?_ _) | (with_reducible refine Below.alloc ?_ ?_ _) | (refine Below.trans ?_ (Below.mono (by with_reducible assumption) ?_)) | omega | (exact Below.size (by with_reducible assumption)) | (simp; done) | (simp; omega)))⟩
    rw [tdiv_two (by omega)]
    omega
  · rename_i h3 h4
    have h5 : (lo + hi).tmod 2 = 0 := by simpa using h4
    rw [tmod_two (by omega)] at h5
    refine ⟨ret_int ?_, by (repeat' (first | (with_reducible exact Below.refl _ _) | (with_reducible assumption) | (with_reducible refine Below.drew ?_) | (with_reducible refine below_drewN ?_ _) | (with_reducible refine Below.setCell ?_ ?_ _) | (with_reducible refine Below.alloc ?_ ?_ _) | (refine Below.trans ?_ (Below.mono (by with_reducible assumption) ?_)) | omega | (exact Below.size (by with_reducible assumption)) | (simp; done) | (simp; omega)))⟩
    rw [tdiv_two (by omega)]
    omega
  · exact ⟨ret_int (by omega), by (repeat' (first | (with_reducible exact Below.refl _ _) | (with_reducible assumption) | (with_reducible refine Below.drew ?_) | (with_reducible refine below_drewN ?_ _) | (with_reducible refine Below.setCell ?_ ?_ _) | (with_reducible refine Below.alloc ?_ ?_ _) | (refine Below.trans ?_ (Below.mono (by with_reducible assumption) ?_)) | omega | (exact Below.size (by with_reducible assumption)) | (simp; done) | (simp; omega)))⟩
end Go.Proofs.Ytphcpphmoeiioaa
namespace Go.Proofs.Ytphcpphmoeiioaa
open Go.RowKit Go.Maps

abbrev Sp := Int × Int
def srow (s : Sp) : List Value := [.int .i64 s.1, .int .i64 s.2]
def RdS (w : World) (A : Option Addr) (ls : List Sp) : Prop := Rd 2 w A (ls.map srow)
/-- The first k spans of the drawn line. -/
def DrawL (c : Cv) (ls : List Sp) : Prop := ∀ (i : Nat) (s : Sp), ls[i]? = some s → IsSp (InP c 0 i) s.1 s.2
def DrawR (L sl rl rh wg : Int) (ks : List Kn) (ls : List Sp) (er : Int) : Prop :=
  OpenR L sl rl rh wg ks true er ∧ (er = 0 → ls.length = L.toNat + 1 ∧ DrawL (cvOf L sl rl rh wg ks) ls) ∧ (er ≠ 0 → ls = [])
theorem DrawL.snoc {c : Cv} {ls : List Sp} {lo hi : Int} (h : DrawL c ls) (k : IsSp (InP c 0 ls.length) lo hi) : DrawL c (ls ++ [(lo, hi)]) := fun i s hs => by
  by_cases e : i < ls.length
  · rw [List.getElem?_append_left e] at hs; exact h i s hs
  · rw [List.getElem?_append_right (by omega)] at hs
    by_cases e2 : i - ls.length = 0
    · rw [e2] at hs
      simp at hs
      subst hs
      have : i = ls.length := by omega
      subst this
      exact k
    · obtain ⟨j, hj⟩ : ∃ j, i - ls.length = j + 1 := ⟨i - ls.length - 1, by omega⟩
      rw [hj] at hs; simp at hs
theorem inf23 : (Try.prog.info? 23).map (fun i => (i.zero, i.size, i.bytes)) = some (some (.agg #[.int .i64 0, .int .i64 0]), 2, 16) := by kernel_rfl
set_option maxRecDepth 100000 in
set_option maxHeartbeats 4000000 in
theorem draw21 (L sl rl rh wg : Int) (A : Option Addr) (n cap : Nat) (ks : List Kn) (w : World) (hA : Rd 3 w A (ks.map krow)) (hn : Hid (n = ks.length)) (hlen : n ≤ 9223372036854775807) :
    Calls Try.prog 21 #[.agg #[.int .i64 L, .int .i64 sl, .int .i64 rl, .int .i64 rh, .slice A n cap, .int .i64 wg]] w fun e w' => ∃ (A' : Option Addr) (cap' : Nat) (ls : List Sp) (er : Int), e = .returned (.tuple #[.slice A' ls.length cap', .int .i64 er]) ∧ Hid (DrawR L sl rl rh wg ks ls er) ∧ RdS w' A' ls ∧ ls.length ≤ 13 ∧ Below w.heap.size w w' := by
  have HA := Lib.hid hA
  obtain ⟨i0, hi0, hi1, hi2, hi3⟩ := info_parts inf23
  clear hA
  go_enter Try.func21, Try.ntmps21
  go_wp2_with fail
  refine (open50 L sl rl rh wg A n cap ks true _ (HA.out.below (B := w.heap.size) (by (repeat' (first | (with_reducible exact Below.refl _ _) | (with_reducible assumption) | (with_reducible refine Below.drew ?_) | (with_reducible refine below_drewN ?_ _) | (with_reducible refine Below.setCell ?_ ?_ _) | (with_reducible refine Below.alloc ?_ ?_ _) | (refine Below.trans ?_ (Below.mono (by with_reducible assumption) ?_)) | omega | (exact Below.size (by with_reducible assumption)) | (simp; done) | (simp; omega)))) (Nat.le_refl _)) hn hlen).mono ?_
  rintro e w1 ⟨er, rfl, hO, hb1⟩
  have hz1 := hb1.size
  simp only [World.size_alloc] at hz1
  have hB1 : Below w.heap.size w w1 := by (repeat' (first | (with_reducible exact Below.refl _ _) | (with_reducible assumption) | (with_reducible refine Below.drew ?_) | (with_reducible refine below_drewN ?_ _) | (with_reducible refine Below.setCell ?_ ?_ _) | (with_reducible refine Below.alloc ?_ ?_ _) | (refine Below.trans ?_ (Below.mono (by with_reducible assumption) ?_)) | omega | (exact Below.size (by with_reducible assumption)) | (simp; done) | (simp; omega)))
  have o1 : Own w1 w.heap.size [.int .i64 L, .int .i64 sl, .int .i64 rl, .int .i64 rh, .slice A n cap, .int .i64 wg] := (Own.new' _ _ rfl rfl).below hb1 (by simp)
  clear hb1
  by_cases he : er = 0
  · have hz := openR_zero hO.out he
    have hV := Lib.hid hz.1
    have HT := Lib.hid hz.2.2
    clear hz
    have hl1 := hV.out.l1
    have hl2 := hV.out.l2
    subst he
    have hO1 := Lib.hid o1
    obtain ⟨l1, k1, f1⟩ := o1
    go_wp2
    go_loopg [6, 21] (L.toNat + 1) (fun K y z w5 => ∃ ls : List Sp, K + ls.length = L.toNat + 1 ∧ z = .int .i64 (ls.length : Nat) ∧ Hid (DrawL (cvOf L sl rl rh wg ks) ls) ∧ Gro w5 (w1.heap.size + 1) 23 2 y (ls.map srow) ∧ Own w5 w.heap.size [.int .i64 L, .int .i64 sl, .int .i64 rl, .int .i64 rh, .slice A n cap, .int .i64 wg] ∧ Own w5 w1.heap.size [.int .i64 L, .int .i64 sl, .int .i64 rl, .int .i64 rh, .slice A n cap, .int .i64 wg, .map none] ∧ w1.heap.size + 1 ≤ w5.heap.size ∧ Below w.heap.size w w5)
    case atStart => exact ⟨[], rfl, rfl, (fun i s h => by simp at h), Gro.nil _ _ _ _, hO1.out.alloc _, Own.new' _ _ rfl rfl, by simp, by (repeat' (first | (with_reducible exact Below.refl _ _) | (with_reducible assumption) | (with_reducible refine Below.drew ?_) | (with_reducible refine below_drewN ?_ _) | (with_reducible refine Below.setCell ?_ ?_ _) | (with_reducible refine Below.alloc ?_ ?_ _) | (refine Below.trans ?_ (Below.mono (by with_reducible assumption) ?_)) | omega | (exact Below.size (by with_reducible assumption)) | (simp; done) | (simp; omega)))⟩
    case round =>
      clear l1 k1 f1 hO1 hB1
      obtain ⟨ls, hK, rfl, hD, hg, ho1, ho2, hsz, hbw⟩ := hrel
      obtain ⟨l1, k1, f1⟩ := ho1
      obtain ⟨l2, k2, f2⟩ := ho2
      have ho1 := Lib.hid (Own.mk l1 k1 f1)
      have ho2 := Lib.hid (Own.mk l2 k2 f2)
      obtain ⟨PA, pc, rfl, hrd⟩ := hg.out
      by_cases hlt : ls.length < L.toNat + 1
      · clear hrd
        have HB := Lib.hid hbw
        have hszw := hbw.size
        clear hbw
        go_wp2_with fail
        refine (integral57 L sl rl rh wg A n cap ks (.map none) (fun _ => none) 0 (ls.length : Nat) wr (HA.out.below HB.out (Nat.le_refl _)) hn (Or.inl ⟨rfl, rfl⟩) hV).mono ?_
        rintro e w2 ⟨m, lo, hi, rfl, hI, hb2⟩
        have hs := Lib.hid (intR_sp hI.out HT.out)
        have hz2 := hb2.size
        have hg2 := hg.below hb2 (Nat.le_refl _)
        have hB2 := Lib.hid (HB.out.trans (hb2.mono hszw))
        have q1 := Lib.hid (ho1.out.below hb2 l1)
        have q2 := Lib.hid (ho2.out.below hb2 l2)
        clear hb2 hg l1 k1 f1 l2 k2 f2
        obtain ⟨l1, k1, f1⟩ := q1.out
        obtain ⟨l2, k2, f2⟩ := q2.out
        have hll : (ls.map srow).length = ls.length := List.length_map _
        rw [List.length_map] at hg2
        go_wp2_with (at_builtin; go_must (refine wpList_append_own _ rfl _ _ 39 rfl (w1.heap.size + 1) 23 i0 (.agg #[.int .i64 0, .int .i64 0]) 2 16 Try.underlying39 hi0 hi1 hi2 hi3 rfl (by decide) (.slice PA ls.length pc) (ls.map srow).length _ rfl ((hg2.2.alloc _).alloc _) ⟨w2.heap.size + 1, 0, none⟩ 1 1 [.int .i64 lo, .int .i64 hi] rfl rfl ?_ (by simp [Value.oneCell']) (by unfold maxLen; omega) (by omega) (by simp; omega) ?_; rotate_left; intro v' w6 hown' hgrow hnil))
        · have hbA : Below (w1.heap.size + 1) w2 w6 := (((Below.refl _ w2).alloc (by omega) _).alloc (by simp; omega) _).grown hgrow (by simp; omega) (fun i hi => (hg2.2.lt i hi).1)
          have hg6 : Gro w6 (w1.heap.size + 1) 23 2 v' (ls.map srow ++ [srow (lo, hi)]) := Gro.grown hg2 rfl hown'
          have hz6 := hbA.size
          have r1 := q1.out.below hbA (by omega)
          have r2 := q2.out.below hbA (by omega)
          have hB6 := hB2.out.trans (hbA.mono (by omega))
          clear hown' hgrow hnil hbA
          go_roundg (L.toNat + 1 - (ls.length + 1))
          case measure => omega
          case rel => exact ⟨ls ++ [(lo, hi)], by simp; omega, by simp, hD.out.snoc hs.out.2, by rw [List.map_append]; exact hg6, r1, r2, by omega, hB6⟩
        · intro j u hj
          rcases j with _ | _ | j <;> simp at hj
          all_goals (subst hj; simp [Addr.add])
      · have hln : ls.length = L.toNat + 1 := by omega
        have hres : Hid (DrawR L sl rl rh wg ks ls 0) := ⟨hO.out, fun _ => ⟨hln, hD.out⟩, fun h => absurd rfl h⟩
        rw [List.length_map]
        go_wp2
        go_ret2
        exact ⟨PA, pc, ls, 0, rfl, hres, hrd, by omega, by (repeat' (first | (with_reducible exact Below.refl _ _) | (with_reducible assumption) | (with_reducible refine Below.drew ?_) | (with_reducible refine below_drewN ?_ _) | (with_reducible refine Below.setCell ?_ ?_ _) | (with_reducible refine Below.alloc ?_ ?_ _) | (refine Below.trans ?_ (Below.mono (by with_reducible assumption) ?_)) | omega | (exact Below.size (by with_reducible assumption)) | (simp; done) | (simp; omega)))⟩
  · have hres : Hid (DrawR L sl rl rh wg ks [] er) := ⟨hO.out, fun h => absurd h he, fun _ => rfl⟩
    go_wp2
    go_ret2
    exact ⟨none, 0, [], er, rfl, hres, Rd.nil _ _ _, by simp, by (repeat' (first | (with_reducible exact Below.refl _ _) | (with_reducible assumption) | (with_reducible refine Below.drew ?_) | (with_reducible refine below_drewN ?_ _) | (with_reducible refine Below.setCell ?_ ?_ _) | (with_reducible refine Below.alloc ?_ ?_ _) | (refine Below.trans ?_ (Below.mono (by with_reducible assumption) ?_)) | omega | (exact Below.size (by with_reducible assumption)) | (simp; done) | (simp; omega)))⟩
end Go.Proofs.Ytphcpphmoeiioaa
namespace Go.Proofs.Ytphcpphmoeiioaa
open Go.RowKit Go.Maps

theorem drawR_bd {L sl rl rh wg : Int} {ks : List Kn} {ls : List Sp} {er : Int} (h : DrawR L sl rl rh wg ks ls er) (s : Sp) (hs : s ∈ ls) : (-2400 ≤ s.1 ∧ s.1 ≤ s.2 ∧ s.2 ≤ 2400) := by
  by_cases he : er = 0
  · have hV := (openR_zero h.1 he).1
    obtain ⟨i, hi, e⟩ := List.getElem_of_mem hs
    have k := (h.2.1 he).2 i s (by rw [List.getElem?_eq_getElem hi, e])
    have a1 := inF_bd hV ((inF_none _ _ _ _).2 k.1)
    have a2 := inF_bd hV ((inF_none _ _ _ _).2 k.2.1)
    have a3 := k.2.2 _ k.2.1
    omega
  · rw [h.2.2 he] at hs; cases hs
def mids (ls : List Sp) : List Int := ls.map fun s => midI s.1 s.2
theorem mids_len (ls : List Sp) : (mids ls).length = ls.length := List.length_map _
theorem mids_snoc {ls : List Sp} {k : Nat} {s : Sp} (h : ls[k]? = some s) : mids (ls.take (k + 1)) = mids (ls.take k) ++ [midI s.1 s.2] := by
  unfold mids
  rw [take_snoc h, List.map_append]; rfl
/-- One span of a slice of spans. -/
theorem rd_sp {w : World} {A : Option Addr} {ls : List Sp} (h : RdS w A ls) {i : Nat} {s : Sp} (hi : ls[i]? = some s) :
    ∃ b off, A = some ⟨b, off, none⟩ ∧ b < w.heap.size ∧ w.cell? ⟨b, off + i * 2, none⟩ = some (.int .i64 s.1) ∧ w.cell? ⟨b, off + i * 2 + 1, none⟩ = some (.int .i64 s.2) := by
  obtain ⟨b, off, e, hb, hc⟩ := Rd.elem h (i := i) (r := srow s) (by simp [hi])
  exact ⟨b, off, e, hb, by simpa using hc 0 _ rfl, by simpa using hc 1 _ rfl⟩
theorem inf3 : (Try.prog.info? 3).map (fun i => (i.zero, i.size, i.bytes)) = some (some (.int .i64 0), 1, 8) := by kernel_rfl
set_option maxRecDepth 100000 in
set_option maxHeartbeats 4000000 in
theorem best25 (L sl rl rh wg : Int) (A : Option Addr) (n cap : Nat) (ks : List Kn) (w : World) (hA : Rd 3 w A (ks.map krow)) (hn : Hid (n = ks.length)) (hlen : n ≤ 9223372036854775807) :
    Calls Try.prog 25 #[.agg #[.int .i64 L, .int .i64 sl, .int .i64 rl, .int .i64 rh, .slice A n cap, .int .i64 wg]] w fun e w' => ∃ (A' : Option Addr) (cap' : Nat) (ls : List Sp) (er : Int), e = .returned (.tuple #[.slice A' (mids ls).length cap', .int .i64 er]) ∧ Hid (DrawR L sl rl rh wg ks ls er) ∧ RdI w' A' (mids ls) ∧ ls.length ≤ 13 ∧ Below w.heap.size w w' := by
  have HA := Lib.hid hA
  obtain ⟨i0, hi0, hi1, hi2, hi3⟩ := info_parts inf3
  clear hA
  go_enter Try.func25, Try.ntmps25
  go_wp2_with fail
  refine (draw21 L sl rl rh wg A n cap ks _ (HA.out.below (B := w.heap.size) (by (repeat' (first | (with_reducible exact Below.refl _ _) | (with_reducible assumption) | (with_reducible refine Below.drew ?_) | (with_reducible refine below_drewN ?_ _) | (with_reducible refine Below.setCell ?_ ?_ _) | (with_reducible refine Below.alloc ?_ ?_ _) | (refine Below.trans ?_ (Below.mono (by with_reducible assumption) ?_)) | omega | (exact Below.size (by with_reducible assumption)) | (simp; done) | (simp; omega)))) (Nat.le_refl _)) hn hlen).mono ?_
  rintro e w1 ⟨A', cap', ls, er, rfl, hD, hrd, hll, hb1⟩
  have hz1 := hb1.size
  simp only [World.size_alloc] at hz1
  have hB1 : Below w.heap.size w w1 := by (repeat' (first | (with_reducible exact Below.refl _ _) | (with_reducible assumption) | (with_reducible refine Below.drew ?_) | (with_reducible refine below_drewN ?_ _) | (with_reducible refine Below.setCell ?_ ?_ _) | (with_reducible refine Below.alloc ?_ ?_ _) | (refine Below.trans ?_ (Below.mono (by with_reducible assumption) ?_)) | omega | (exact Below.size (by with_reducible assumption)) | (simp; done) | (simp; omega)))
  have HR := Lib.hid hrd
  clear hb1 hrd
  go_wp2
  go_loopg [6, 16] ls.length (fun K y z w5 => ∃ k : Nat, K + k = ls.length ∧ z = .int .i64 k ∧ Gro w5 w1.heap.size 3 1 y ((mids (ls.take k)).map irow) ∧ w1.heap.size ≤ w5.heap.size ∧ Below w1.heap.size w1 w5)
  case atStart => exact ⟨0, rfl, rfl, Gro.nil _ _ _ _, Nat.le_refl _, Below.refl _ _⟩
  case round =>
    obtain ⟨k, hK, rfl, hg, hsz, hbw⟩ := hrel
    obtain ⟨PA, pc, rfl, hrd⟩ := hg.out
    have hmk : (mids (ls.take k)).length ≤ k := by rw [mids_len, List.length_take]; omega
    by_cases hlt : k < ls.length
    · clear hrd
      obtain ⟨s, hs⟩ : ∃ s, Hid (ls[k]? = some s) := ⟨ls[k]'hlt, by simp [Hid]⟩
      have hbd := drawR_bd hD.out s (List.mem_of_getElem? hs.out)
      obtain ⟨b, off, rfl, hb, hc0, hc1⟩ := rd_sp (HR.out.below hbw (Nat.le_refl _)) hs.out
      have hsn := Lib.hid (mids_snoc hs.out)
      rw [List.length_map] at hg
      go_wp2_with fail
      refine (middle61 s.1 s.2 _ (by omega) (by omega)).mono ?_
      rintro e w2 ⟨rfl, hb2⟩
      have hz2 := hb2.size
      simp only [World.size_alloc] at hz2
      have hb2' : Below wr.heap.size wr w2 := by (repeat' (first | (with_reducible exact Below.refl _ _) | (with_reducible assumption) | (with_reducible refine Below.drew ?_) | (with_reducible refine below_drewN ?_ _) | (with_reducible refine Below.setCell ?_ ?_ _) | (with_reducible refine Below.alloc ?_ ?_ _) | (refine Below.trans ?_ (Below.mono (by with_reducible assumption) ?_)) | omega | (exact Below.size (by with_reducible assumption)) | (simp; done) | (simp; omega)))
      have hg2 := hg.below hb2' (Nat.le_refl _)
      have hbw2 := hbw.trans (hb2'.mono hsz)
      clear hb2
      go_wp2_with (at_builtin; go_must (refine wpList_append_own _ rfl _ _ 44 rfl w1.heap.size 3 i0 (.int .i64 0) 1 8 Try.underlying44 hi0 hi1 hi2 hi3 rfl (by decide) (.slice PA (mids (ls.take k)).length pc) ((mids (ls.take k)).map irow).length _ rfl (hg2.2.alloc _) ⟨w2.heap.size, 0, none⟩ 1 1 [.int .i64 (midI s.1 s.2)] rfl rfl (cell_one_new _ _ _) (by intro u hu; simp at hu; subst hu; rfl) (by rw [List.length_map]; unfold maxLen; omega) (by rw [List.length_map]; omega) (by simp; omega) ?_; intro v' w6 hown' hgrow hnil))
      have hbA : Below w1.heap.size w2 w6 := ((Below.refl _ w2).alloc (by omega) _).grown hgrow (by simp; omega) (fun i hi => (hg2.2.lt i hi).1)
      have hg6 : Gro w6 w1.heap.size 3 1 v' ((mids (ls.take k)).map irow ++ [irow (midI s.1 s.2)]) := Gro.grown hg2 rfl hown'
      have hz6 := hbA.size
      have hB6 := hbw2.trans hbA
      clear hown' hgrow hnil hbA
      go_roundg (ls.length - (k + 1))
      case measure => omega
      case rel => exact ⟨k + 1, by omega, by go_num, by rw [hsn.out, List.map_append]; exact hg6, by omega, hB6⟩
    · obtain rfl : k = ls.length := by omega
      rw [List.length_map]
      rw [List.take_of_length_le (Nat.le_refl _)] at hrd ⊢
      go_wp2
      go_ret2
      exact ⟨PA, pc, ls, er, rfl, hD, hrd, hll, hB1.trans (hbw.mono (by omega))⟩
end Go.Proofs.Ytphcpphmoeiioaa
namespace Go.Proofs.Ytphcpphmoeiioaa
open Go.RowKit Go.Maps

/-- By how much the drawn line can be off at the most. -/
def ToldL (ls : List Sp) (m : Int) : Prop :=
  (0 ≤ m ∧ m ≤ 4800) ∧ (m = 0 ∨ ∃ s, s ∈ ls ∧ m = max (midI s.1 s.2 - s.1) (s.2 - midI s.1 s.2)) ∧ ∀ s, s ∈ ls → midI s.1 s.2 - s.1 ≤ m ∧ s.2 - midI s.1 s.2 ≤ m
theorem ToldL.nil : ToldL [] 0 := ⟨by omega, Or.inl rfl, fun s h => by cases h⟩
theorem ToldL.snoc {ls : List Sp} {m : Int} (h : ToldL ls m) (s : Sp) (hs : -2400 ≤ s.1 ∧ s.1 ≤ s.2 ∧ s.2 ≤ 2400) : ToldL (ls ++ [s]) (max (max m (midI s.1 s.2 - s.1)) (s.2 - midI s.1 s.2)) := by
  obtain ⟨h1, h2, h3⟩ := h
  have hm : 2 * midI s.1 s.2 ≤ s.1 + s.2 ∧ s.1 + s.2 ≤ 2 * midI s.1 s.2 + 1 := by unfold midI; omega
  refine ⟨by omega, ?_, fun t ht => ?_⟩
  · by_cases e : max (midI s.1 s.2 - s.1) (s.2 - midI s.1 s.2) ≤ m
    · rcases h2 with h2 | ⟨t, ht, h2⟩
      · exact Or.inl (by omega)
      · exact Or.inr ⟨t, List.mem_append_left _ ht, by omega⟩
    · exact Or.inr ⟨s, List.mem_append_right _ (by simp), by omega⟩
  · rcases List.mem_append.1 ht with ht | ht
    · have := h3 t ht; omega
    · rw [List.mem_singleton.1 ht]; omega
set_option maxRecDepth 100000 in
set_option maxHeartbeats 4000000 in
theorem told27 (L sl rl rh wg : Int) (A : Option Addr) (n cap : Nat) (ks : List Kn) (w : World) (hA : Rd 3 w A (ks.map krow)) (hn : Hid (n = ks.length)) (hlen : n ≤ 9223372036854775807) :
    Calls Try.prog 27 #[.agg #[.int .i64 L, .int .i64 sl, .int .i64 rl, .int .i64 rh, .slice A n cap, .int .i64 wg]] w fun e w' => ∃ (ls : List Sp) (m er : Int), e = .returned (.tuple #[.int .i64 m, .int .i64 er]) ∧ Hid (DrawR L sl rl rh wg ks ls er) ∧ Hid (ToldL ls m) ∧ Below w.heap.size w w' := by
  have HA := Lib.hid hA
  clear hA
  go_enter Try.func27, Try.ntmps27
  go_wp2_with fail
  refine (draw21 L sl rl rh wg A n cap ks _ (HA.out.below (B := w.heap.size) (by (repeat' (first | (with_reducible exact Below.refl _ _) | (with_reducible assumption) | (with_reducible refine Below.drew ?_) | (with_reducible refine below_drewN ?_ _) | (with_reducible refine Below.setCell ?_ ?_ _) | (with_reducible refine Below.alloc ?_ ?_ _) | (refine Below.trans ?_ (Below.mono (by with_reducible assumption) ?_)) | omega | (exact Below.size (by with_reducible assumption)) | (simp; done) | (simp; omega)))) (Nat.le_refl _)) hn hlen).mono ?_
  rintro e w1 ⟨A', cap', ls, er, rfl, hD, hrd, hll, hb1⟩
  have hz1 := hb1.size
  simp only [World.size_alloc] at hz1
  have hB1 : Below w.heap.size w w1 := by (repeat' (first | (with_reducible exact Below.refl _ _) | (with_reducible assumption) | (with_reducible refine Below.drew ?_) | (with_reducible refine below_drewN ?_ _) | (with_reducible refine Below.setCell ?_ ?_ _) | (with_reducible refine Below.alloc ?_ ?_ _) | (refine Below.trans ?_ (Below.mono (by with_reducible assumption) ?_)) | omega | (exact Below.size (by with_reducible assumption)) | (simp; done) | (simp; omega)))
  have HR := Lib.hid hrd
  clear hb1 hrd
  go_wp2
  go_loopg [6, 16] ls.length (fun K y z w5 => ∃ (k : Nat) (m : Int), K + k = ls.length ∧ z = .int .i64 k ∧ y = .int .i64 m ∧ Hid (ToldL (ls.take k) m) ∧ w1.heap.size ≤ w5.heap.size ∧ Below w1.heap.size w1 w5)
  case atStart => exact ⟨0, 0, rfl, rfl, rfl, ToldL.nil, Nat.le_refl _, Below.refl _ _⟩
  case round =>
    obtain ⟨k, m, hK, rfl, rfl, hT, hsz, hbw⟩ := hrel
    by_cases hlt : k < ls.length
    · obtain ⟨s, hs⟩ : ∃ s, Hid (ls[k]? = some s) := ⟨ls[k]'hlt, by simp [Hid]⟩
      have hbd := drawR_bd hD.out s (List.mem_of_getElem? hs.out)
      obtain ⟨b, off, rfl, hb, hc0, hc1⟩ := rd_sp (HR.out.below hbw (Nat.le_refl _)) hs.out
      have hmb := hT.out.1
      have hmid : 2 * midI s.1 s.2 ≤ s.1 + s.2 ∧ s.1 + s.2 ≤ 2 * midI s.1 s.2 + 1 := by unfold midI; omega
      have hsn : Hid (ToldL (ls.take (k + 1)) (max (max m (midI s.1 s.2 - s.1)) (s.2 - midI s.1 s.2))) := by
        show ToldL _ _
        rw [take_snoc hs.out]
        exact hT.out.snoc s hbd
      go_wp2
      refine wp_gen fun W hW => ?_
      have o1 : Own W wr.heap.size [.int .i64 s.1, .int .i64 s.2] := by rw [hW]; exact Own.new' _ _ rfl rfl
      have hB5 : Below wr.heap.size wr W := by rw [hW]; (repeat' (first | (with_reducible exact Below.refl _ _) | (with_reducible assumption) | (with_reducible refine Below.drew ?_) | (with_reducible refine below_drewN ?_ _) | (with_reducible refine Below.setCell ?_ ?_ _) | (with_reducible refine Below.alloc ?_ ?_ _) | (refine Below.trans ?_ (Below.mono (by with_reducible assumption) ?_)) | omega | (exact Below.size (by with_reducible assumption)) | (simp; done) | (simp; omega)))
      have hx0 := Aft.cell (W := W) o1
      have hcall : ∀ x5 : Aft W, Calls Try.prog 61 #[.agg #[.int .i64 s.1, .int .i64 s.2]] x5.w fun e w' => e = .returned (.int .i64 (midI s.1 s.2)) ∧ Below x5.w.heap.size x5.w w' := fun x5 => middle61 s.1 s.2 _ (by omega) (by omega)
      have hs1 : IntKind.i64.wrap (midI s.1 s.2 - s.1) = midI s.1 s.2 - s.1 := IntWalk.i64_in _ (by omega)
      have hs2 : IntKind.i64.wrap (s.2 - midI s.1 s.2) = s.2 - midI s.1 s.2 := IntWalk.i64_in _ (by omega)
      clear hW hc0 hc1
      refine wp_region_aft (by kernel_rfl) (by kernel_rfl) ?_; (repeat (go_big_quiet_step ((go_at_call 61; with_reducible exact aft_of (hcall _))))); refine wpQuiet_nil ?_; rintro w6 ⟨⟨_, hb6⟩, rfl⟩
      have hmx : ∀ A B : Int, (if (if m < A then A else m) < B then B else if m < A then A else m) = max (max m A) B := fun A B => by repeat' split <;> omega
      rw [hmx]
      have hz5 := hB5.size
      have hz6 := hb6.size
      have hB6 := hbw.trans ((hB5.trans (hb6.mono hz5)).mono hsz)
      clear hmx hx0 hcall hs1 hs2
      generalize max (max m (midI s.1 s.2 - s.1)) (s.2 - midI s.1 s.2) = m' at hsn ⊢
      go_wp2
      go_roundg (ls.length - (k + 1))
      case measure => omega
      case rel => exact ⟨k + 1, m', by omega, by go_num, rfl, hsn, by omega, hB6⟩
    · obtain rfl : k = ls.length := by omega
      rw [List.take_of_length_le (Nat.le_refl _)] at hT
      go_wp2
      go_ret2
      exact ⟨ls, m, er, rfl, hD, hT, hB1.trans (hbw.mono (by omega))⟩
end Go.Proofs.Ytphcpphmoeiioaa
