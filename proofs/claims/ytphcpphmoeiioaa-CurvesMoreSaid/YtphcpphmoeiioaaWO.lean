/- Walks: Draw. -/
import Derived.Test.YtphcpphmoeiioaaWN
import Derived.Maps.AppendAt
import Derived.ArgAppend
namespace Go.Proofs.Ytphcpphmoeiioaa
open Go.RowKit Go.Maps

abbrev Sp := Int × Int
def srow (s : Sp) : List Value := [.int .i64 s.1, .int .i64 s.2]
def RdS (w : World) (A : Option Addr) (ls : List Sp) : Prop := Rd 2 w A (ls.map srow)
/-- The first k spans of the drawn line. -/
def DrawL (c : Cv) (ls : List Sp) : Prop := ∀ (i : Nat) (s : Sp), ls[i]? = some s → IsSp (InP c 0 i) s.1 s.2
def DrawR (L sl rl rh wg : Int) (ks : List Kn) (ls : List Sp) (er : Int) : Prop :=
  OpenR L sl rl rh wg ks true er ∧ (er = 0 → ls.length = L.toNat + 1 ∧ DrawL (cvOf L sl rl rh wg ks) ls) ∧ (er ≠ 0 → ls = [])
theorem DrawL.snoc {c : Cv} {ls : List Sp} {lo hi : Int} (h : DrawL c ls) (k : IsSp (InP c 0 ls.length) lo hi) : DrawL c (ls ++ [(lo, hi)]) := fun i s hs => by
  by_cases e : i < ls.length
  · rw [List.getElem?_append_left e] at hs; exact h i s hs
  · rw [List.getElem?_append_right (by omega)] at hs
    by_cases e2 : i - ls.length = 0
    · rw [e2] at hs
      simp at hs
      subst hs
      have : i = ls.length := by omega
      subst this
      exact k
    · obtain ⟨j, hj⟩ : ∃ j, i - ls.length = j + 1 := ⟨i - ls.length - 1, by omega⟩
      rw [hj] at hs; simp at hs
theorem inf23 : (Try.prog.info? 23).map (fun i => (i.zero, i.size, i.bytes)) = some (some (.agg #[.int .i64 0, .int .i64 0]), 2, 16) := by kernel_rfl
set_option maxRecDepth 100000 in
set_option maxHeartbeats 4000000 in
theorem draw21 (L sl rl rh wg : Int) (A : Option Addr) (n cap : Nat) (ks : List Kn) (w : World) (hA : Rd 3 w A (ks.map krow)) (hn : Hid (n = ks.length)) (hlen : n ≤ 9223372036854775807) :
    Calls Try.prog 21 #[.agg #[.int .i64 L, .int .i64 sl, .int .i64 rl, .int .i64 rh, .slice A n cap, .int .i64 wg]] w fun e w' => ∃ (A' : Option Addr) (cap' : Nat) (ls : List Sp) (er : Int), e = .returned (.tuple #[.slice A' ls.length cap', .int .i64 er]) ∧ Hid (DrawR L sl rl rh wg ks ls er) ∧ RdS w' A' ls ∧ ls.length ≤ 13 ∧ Below w.heap.size w w' := by
  have HA := Lib.hid hA
  obtain ⟨i0, hi0, hi1, hi2, hi3⟩ := info_parts inf23
  clear hA
  go_enter Try.func21, Try.ntmps21
  go_wp2_with fail
  refine (open50 L sl rl rh wg A n cap ks true _ (HA.out.below (B := w.heap.size) (by (repeat' (first | (with_reducible exact Below.refl _ _) | (with_reducible assumption) | (with_reducible refine Below.drew ?_) | (with_reducible refine below_drewN ?_ _) | (with_reducible refine Below.setCell ?_ ?_ _) | (with_reducible refine Below.alloc ?_ ?_ _) | (refine Below.trans ?_ (Below.mono (by with_reducible assumption) ?_)) | omega | (exact Below.size (by with_reducible assumption)) | (simp; done) | (simp; omega)))) (Nat.le_refl _)) hn hlen).mono ?_
  rintro e w1 ⟨er, rfl, hO, hb1⟩
  have hz1 := hb1.size
  simp only [World.size_alloc] at hz1
  have hB1 : Below w.heap.size w w1 := by (repeat' (first | (with_reducible exact Below.refl _ _) | (with_reducible assumption) | (with_reducible refine Below.drew ?_) | (with_reducible refine below_drewN ?_ _) | (with_reducible refine Below.setCell ?_ ?_ _) | (with_reducible refine Below.alloc ?_ ?_ _) | (refine Below.trans ?_ (Below.mono (by with_reducible assumption) ?_)) | omega | (exact Below.size (by with_reducible assumption)) | (simp; done) | (simp; omega)))
  have o1 : Own w1 w.heap.size [.int .i64 L, .int .i64 sl, .int .i64 rl, .int .i64 rh, .slice A n cap, .int .i64 wg] := (Own.new' _ _ rfl rfl).below hb1 (by simp)
  clear hb1
  by_cases he : er = 0
  · have hz := openR_zero hO.out he
    have hV := Lib.hid hz.1
    have HT := Lib.hid hz.2.2
    clear hz
    have hl1 := hV.out.l1
    have hl2 := hV.out.l2
    subst he
    have hO1 := Lib.hid o1
    obtain ⟨l1, k1, f1⟩ := o1
    go_wp2
    go_loopg [6, 21] (L.toNat + 1) (fun K y z w5 => ∃ ls : List Sp, K + ls.length = L.toNat + 1 ∧ z = .int .i64 (ls.length : Nat) ∧ Hid (DrawL (cvOf L sl rl rh wg ks) ls) ∧ Gro w5 (w1.heap.size + 1) 23 2 y (ls.map srow) ∧ Own w5 w.heap.size [.int .i64 L, .int .i64 sl, .int .i64 rl, .int .i64 rh, .slice A n cap, .int .i64 wg] ∧ Own w5 w1.heap.size [.int .i64 L, .int .i64 sl, .int .i64 rl, .int .i64 rh, .slice A n cap, .int .i64 wg, .map none] ∧ w1.heap.size + 1 ≤ w5.heap.size ∧ Below w.heap.size w w5)
    case atStart => exact ⟨[], rfl, rfl, (fun i s h => by simp at h), Gro.nil _ _ _ _, hO1.out.alloc _, Own.new' _ _ rfl rfl, by simp, by (repeat' (first | (with_reducible exact Below.refl _ _) | (with_reducible assumption) | (with_reducible refine Below.drew ?_) | (with_reducible refine below_drewN ?_ _) | (with_reducible refine Below.setCell ?_ ?_ _) | (with_reducible refine Below.alloc ?_ ?_ _) | (refine Below.trans ?_ (Below.mono (by with_reducible assumption) ?_)) | omega | (exact Below.size (by with_reducible assumption)) | (simp; done) | (simp; omega)))⟩
    case round =>
      clear l1 k1 f1 hO1 hB1
      obtain ⟨ls, hK, rfl, hD, hg, ho1, ho2, hsz, hbw⟩ := hrel
      obtain ⟨l1, k1, f1⟩ := ho1
      obtain ⟨l2, k2, f2⟩ := ho2
      have ho1 := Lib.hid (Own.mk l1 k1 f1)
      have ho2 := Lib.hid (Own.mk l2 k2 f2)
      obtain ⟨PA, pc, rfl, hrd⟩ := hg.out
      by_cases hlt : ls.length < L.toNat + 1
      · clear hrd
        have HB := Lib.hid hbw
        have hszw := hbw.size
        clear hbw
        go_wp2_with fail
        refine (integral57 L sl rl rh wg A n cap ks (.map none) (fun _ => none) 0 (ls.length : Nat) wr (HA.out.below HB.out (Nat.le_refl _)) hn (Or.inl ⟨rfl, rfl⟩) hV).mono ?_
        rintro e w2 ⟨m, lo, hi, rfl, hI, hb2⟩
        have hs := Lib.hid (intR_sp hI.out HT.out)
        have hz2 := hb2.size
        have hg2 := hg.below hb2 (Nat.le_refl _)
        have hB2 := Lib.hid (HB.out.trans (hb2.mono hszw))
        have q1 := Lib.hid (ho1.out.below hb2 l1)
        have q2 := Lib.hid (ho2.out.below hb2 l2)
        clear hb2 hg l1 k1 f1 l2 k2 f2
        obtain ⟨l1, k1, f1⟩ := q1.out
        obtain ⟨l2, k2, f2⟩ := q2.out
        have hll : (ls.map srow).length = ls.length := List.length_map _
        rw [List.length_map] at hg2
        go_wp2_with (at_builtin; go_must (refine wpList_append_own _ rfl _ _ 39 rfl (w1.heap.size + 1) 23 i0 (.agg #[.int .i64 0, .int .i64 0]) 2 16 Try.underlying39 hi0 hi1 hi2 hi3 rfl (by decide) (.slice PA ls.length pc) (ls.map srow).length _ rfl ((hg2.2.alloc _).alloc _) ⟨w2.heap.size + 1, 0, none⟩ 1 1 [.int .i64 lo, .int .i64 hi] rfl rfl ?_ (by simp [Value.oneCell']) (by unfold maxLen; omega) (by omega) (by simp; omega) ?_; rotate_left; intro v' w6 hown' hgrow hnil))
        · have hbA : Below (w1.heap.size + 1) w2 w6 := (((Below.refl _ w2).alloc (by omega) _).alloc (by simp; omega) _).grown hgrow (by simp; omega) (fun i hi => (hg2.2.lt i hi).1)
          have hg6 : Gro w6 (w1.heap.size + 1) 23 2 v' (ls.map srow ++ [srow (lo, hi)]) := Gro.grown hg2 rfl hown'
          have hz6 := hbA.size
          have r1 := q1.out.below hbA (by omega)
          have r2 := q2.out.below hbA (by omega)
          have hB6 := hB2.out.trans (hbA.mono (by omega))
          clear hown' hgrow hnil hbA
          go_roundg (L.toNat + 1 - (ls.length + 1))
          case measure => omega
          case rel => exact ⟨ls ++ [(lo, hi)], by simp; omega, by simp, hD.out.snoc hs.out.2, by rw [List.map_append]; exact hg6, r1, r2, by omega, hB6⟩
        · intro j u hj
          rcases j with _ | _ | j <;> simp at hj
          all_goals (subst hj; simp [Addr.add])
      · have hln : ls.length = L.toNat + 1 := by omega
        have hres : Hid (DrawR L sl rl rh wg ks ls 0) := ⟨hO.out, fun _ => ⟨hln, hD.out⟩, fun h => absurd rfl h⟩
        rw [List.length_map]
        go_wp2
        go_ret2
        exact ⟨PA, pc, ls, 0, rfl, hres, hrd, by omega, by (repeat' (first | (with_reducible exact Below.refl _ _) | (with_reducible assumption) | (with_reducible refine Below.drew ?_) | (with_reducible refine below_drewN ?_ _) | (with_reducible refine Below.setCell ?_ ?_ _) | (with_reducible refine Below.alloc ?_ ?_ _) | (refine Below.trans ?_ (Below.mono (by with_reducible assumption) ?_)) | omega | (exact Below.size (by with_reducible assumption)) | (simp; done) | (simp; omega)))⟩
  · have hres : Hid (DrawR L sl rl rh wg ks [] er) := ⟨hO.out, fun h => absurd h he, fun _ => rfl⟩
    go_wp2
    go_ret2
    exact ⟨none, 0, [], er, rfl, hres, Rd.nil _ _ _, by simp, by (repeat' (first | (with_reducible exact Below.refl _ _) | (with_reducible assumption) | (with_reducible refine Below.drew ?_) | (with_reducible refine below_drewN ?_ _) | (with_reducible refine Below.setCell ?_ ?_ _) | (with_reducible refine Below.alloc ?_ ?_ _) | (refine Below.trans ?_ (Below.mono (by with_reducible assumption) ?_)) | omega | (exact Below.size (by with_reducible assumption)) | (simp; done) | (simp; omega)))⟩
end Go.Proofs.Ytphcpphmoeiioaa
