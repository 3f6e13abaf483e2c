/- Plain and walks: elbows on a track; tests of tracks and walks; steps of the elbow. -/
import Derived.Test.YtgmhelclofnpkaaGreatPl
import Derived.Test.YtgmhelclofnpkaaGreatKc
import Derived.Deep.LoopGhost
import Derived.Deep.DeepCutAuto
namespace Go.Proofs.YtgmhelclofnpkaaGreat
namespace Tk
def ev (E : List Int) (i : Nat) : Int := E.getD i 0
/-- The elbow behind. -/
def en (E : List Int) (i : Nat) : Int := ev E ((i + 1) % E.length)
def tp (T : List P2) (a : Int) : P2 := Pl.at' T a.toNat
/-- By how many places the elbow moves. -/
def stp (N c a b : Int) : Option Int := if a = b then some 0 else if b = a + 1 ∨ (c = 1 ∧ a = N - 1 ∧ b = 0) then some 1 else if b = a - 1 ∨ (c = 1 ∧ a = 0 ∧ b = N - 1) then some (-1) else none
def sv (N c a b : Int) : Int := (stp N c a b).getD 0
def dst (a p : P2) : Int := (a.1 - p.1) * (a.1 - p.1) + (a.2 - p.2) * (a.2 - p.2)
def rch (T : List P2) (lo hi a : Int) (p : P2) : Bool := btw (dst (tp T a) p) lo hi
/-- Places are elbows of a walk. -/
structure OkE (T : List P2) (c lo hi : Int) (P : List P2) (E : List Int) : Prop where
  len : E.length = P.length
  inn : ∀ i, i < E.length → 0 ≤ ev E i ∧ ev E i < T.length
  rch : ∀ i, i < E.length → rch T lo hi (ev E i) (Pl.at' P i) = true
  stp : ∀ i, i < E.length → (stp T.length c (ev E i) (en E i)).isSome = true
/-- A track is valid. -/
structure OkT (T : List P2) (c lo hi : Int) : Prop where
  len : 1 ≤ T.length ∧ T.length ≤ 8
  cl : 0 ≤ c ∧ c ≤ 1
  three : c = 0 ∨ 3 ≤ T.length
  pts : T.all Pl.isP = true
  arm : 0 ≤ lo ∧ lo ≤ hi ∧ hi ≤ 320000
def quad (T P : List P2) (E : List Int) (i : Nat) : List P2 := [tp T (ev E i), Pl.at' P i, Pl.at' P ((i + 1) % E.length), tp T (en E i)]
def swp (T P : List P2) (E : List Int) : Nat → Int
  | 0 => 0
  | i + 1 => swp T P E i + Pl.area (quad T P E i)
def onS (N c : Int) (E : List Int) : Nat → Int
  | 0 => 0
  | i + 1 => onS N c E i + sv N c (ev E i) (en E i)
def crs (T : List P2) (E : List Int) : Nat → Int
  | 0 => 0
  | i + 1 => crs T E i + Pl.cross (tp T (ev E i)) (tp T (en E i))
theorem area4 (a b c d : P2) : Pl.area [a, b, c, d] = Pl.cross a b + Pl.cross b c + Pl.cross c d + Pl.cross d a := by
  simp [Pl.area, Pl.sumTo, Pl.nx, Pl.at']
theorem cross_anti (a b : P2) : Pl.cross a b = -Pl.cross b a := by
  unfold Pl.cross; grind
theorem swp_go {T P : List P2} {E : List Int} (h : E.length = P.length) (k : Nat) (hk : k < E.length) :
    ∀ i, i ≤ k → swp T P E i = Pl.sumTo P i - crs T E i + Pl.cross (tp T (ev E 0)) (Pl.at' P 0) - Pl.cross (tp T (ev E i)) (Pl.at' P i)
  | 0, _ => by simp [swp, Pl.sumTo, crs]
  | i + 1, hi => by
    have ih := swp_go (T := T) h k hk i (by omega)
    have e : (i + 1) % E.length = i + 1 := Nat.mod_eq_of_lt (by omega)
    have e' : (i + 1) % P.length = i + 1 := Nat.mod_eq_of_lt (by omega)
    rw [swp, ih, Pl.sumTo, crs, quad, area4]
    unfold en Pl.nx
    rw [e, e', cross_anti (Pl.at' P (i + 1)) (tp T (ev E (i + 1))), cross_anti (tp T (ev E (i + 1))) (tp T (ev E i))]
    omega
/-- The sweep is the area less what the elbows give. -/
theorem swp_eq {T P : List P2} {E : List Int} (h : E.length = P.length) (h0 : 0 < E.length) : swp T P E E.length = Pl.area P - crs T E E.length := by
  obtain ⟨k, hk⟩ : ∃ k, E.length = k + 1 := ⟨E.length - 1, by omega⟩
  have ih := swp_go (T := T) h k (by omega) k (Nat.le_refl _)
  have e : (k + 1) % E.length = 0 := by rw [hk, Nat.mod_self]
  have e' : (k + 1) % P.length = 0 := by rw [← h, e]
  unfold Pl.area
  rw [← h, hk, swp, ih, Pl.sumTo, crs, quad, area4]
  unfold en Pl.nx
  rw [e, e', cross_anti (Pl.at' P 0) (tp T (ev E 0)), cross_anti (tp T (ev E 0)) (tp T (ev E k))]
  omega
theorem on_go {T P : List P2} {c lo hi : Int} {E : List Int} (ho : OkE T c lo hi P E) (hc : c = 1) :
    ∀ i, i ≤ E.length → ∃ q : Int, ev E 0 + onS T.length c E i = ev E (i % E.length) + q * T.length ∧ crs T E i = Pl.sumTo T (ev E (i % E.length)).toNat - Pl.sumTo T (ev E 0).toNat + q * Pl.area T
  | 0, _ => ⟨0, by simp [onS], by simp [crs]⟩
  | i + 1, hi => by
    obtain ⟨q, h1, h2⟩ := on_go ho hc i (by omega)
    have em : i % E.length = i := Nat.mod_eq_of_lt (by omega)
    rw [em] at h1 h2
    have ha := ho.inn i (by omega)
    have hb := ho.inn ((i + 1) % E.length) (Nat.mod_lt _ (by omega))
    have hs := ho.stp i (by omega)
    rw [onS, crs, h2]
    unfold en at hs ⊢
    generalize ev E ((i + 1) % E.length) = b at *
    generalize ev E i = a at *
    obtain ⟨A, rfl⟩ : ∃ A : Nat, a = A := ⟨a.toNat, by omega⟩
    obtain ⟨B, rfl⟩ : ∃ B : Nat, b = B := ⟨b.toNat, by omega⟩
    have sT : ∀ j, Pl.sumTo T (j + 1) = Pl.sumTo T j + Pl.cross (Pl.at' T j) (Pl.at' T ((j + 1) % T.length)) := fun j => rfl
    simp only [tp, Int.toNat_natCast]
    unfold sv
    unfold stp at hs ⊢
    by_cases c0 : (A : Int) = B
    · rw [if_pos c0]
      have : A = B := by omega
      subst this
      refine ⟨q, by simp only [Option.getD_some]; omega, ?_⟩
      have : Pl.cross (Pl.at' T A) (Pl.at' T A) = 0 := by have := cross_anti (Pl.at' T A) (Pl.at' T A); omega
      omega
    · rw [if_neg c0] at hs ⊢
      by_cases c1 : (B : Int) = A + 1 ∨ (c = 1 ∧ (A : Int) = T.length - 1 ∧ (B : Int) = 0)
      · rw [if_pos c1]
        simp only [Option.getD_some]
        rcases c1 with c1 | ⟨_, c2, c3⟩
        · have : B = A + 1 := by omega
          subst this
          have := sT A
          rw [Nat.mod_eq_of_lt (show A + 1 < T.length by omega)] at this
          exact ⟨q, by omega, by omega⟩
        · have e1 : A + 1 = T.length := by omega
          have e2 : B = 0 := by omega
          subst e2
          have := sT A
          rw [e1, Nat.mod_self] at this
          refine ⟨q + 1, ?_, ?_⟩
          · rw [Int.add_mul]; omega
          · rw [Int.add_mul]
            unfold Pl.area at *
            have e0 : Pl.sumTo T 0 = 0 := rfl
            omega
      · rw [if_neg c1] at hs ⊢
        by_cases c2 : (B : Int) = A - 1 ∨ (c = 1 ∧ (A : Int) = 0 ∧ (B : Int) = T.length - 1)
        · rw [if_pos c2]
          simp only [Option.getD_some]
          rcases c2 with c2 | ⟨_, c3, c4⟩
          · have : A = B + 1 := by omega
            subst this
            have := sT B
            rw [Nat.mod_eq_of_lt (show B + 1 < T.length by omega), cross_anti] at this
            exact ⟨q, by omega, by omega⟩
          · have e1 : B + 1 = T.length := by omega
            have e2 : A = 0 := by omega
            subst e2
            have := sT B
            rw [e1, Nat.mod_self, cross_anti] at this
            refine ⟨q - 1, ?_, ?_⟩
            · rw [Int.sub_mul]; omega
            · rw [Int.sub_mul]
              unfold Pl.area at *
              have e0 : Pl.sumTo T 0 = 0 := rfl
              omega
        · rw [if_neg c2] at hs
          cases hs
/-- On a closed track elbows that go around q times give q times the track's area. -/
theorem on_eq {T P : List P2} {c lo hi : Int} {E : List Int} (ho : OkE T c lo hi P E) (hc : c = 1) (hT : 0 < T.length) (h1 : (onS T.length c E E.length).tdiv T.length = 1) : crs T E E.length = Pl.area T := by
  obtain ⟨q, e1, e2⟩ := on_go ho hc E.length (Nat.le_refl _)
  rw [Nat.mod_self] at e1 e2
  have e3 : onS T.length c E E.length = q * T.length := by omega
  rw [e3, Int.mul_tdiv_cancel _ (by omega)] at h1
  subst h1
  rw [e2]; omega
theorem tp_isP {T : List P2} (h : T.all Pl.isP = true) {a : Int} (h0 : 0 ≤ a ∧ a < T.length) : Pl.isP (tp T a) = true := Pl.at_isP h (by omega)
theorem crs_bd {T P : List P2} {c lo hi : Int} {E : List Int} (ho : OkE T c lo hi P E) (hT : T.all Pl.isP = true) : ∀ k, k ≤ E.length → -80000 * (k : Int) ≤ crs T E k ∧ crs T E k ≤ 80000 * (k : Int)
  | 0, _ => by simp [crs]
  | k + 1, hk => by
    have ih := crs_bd ho hT k (by omega)
    have := Pl.cross_bd (tp_isP hT (ho.inn k (by omega))) (tp_isP hT (ho.inn ((k + 1) % E.length) (Nat.mod_lt _ (by omega))))
    simp only [crs, Pl.cross]
    unfold en
    omega
theorem sv_bd (N c a b : Int) : -1 ≤ sv N c a b ∧ sv N c a b ≤ 1 := by
  unfold sv stp
  repeat' split
  all_goals simp
theorem on_bd (N c : Int) (E : List Int) : ∀ k : Nat, -(k : Int) ≤ onS N c E k ∧ onS N c E k ≤ k
  | 0 => by simp [onS]
  | k + 1 => by
    have ih := on_bd N c E k
    have := sv_bd N c (ev E k) (en E k)
    simp only [onS]
    omega
theorem quad_isP {T P : List P2} {c lo hi : Int} {E : List Int} (ho : OkE T c lo hi P E) (hT : T.all Pl.isP = true) (hP : P.all Pl.isP = true) {k : Nat} (hk : k < E.length) : (quad T P E k).all Pl.isP = true := by
  have hl := ho.len
  have hm := Nat.mod_lt (k + 1) (show 0 < E.length by omega)
  simp only [quad, List.all_cons, List.all_nil, Bool.and_true, Bool.and_eq_true]
  exact ⟨tp_isP hT (ho.inn k hk), Pl.at_isP hP (by omega), Pl.at_isP hP (by omega), tp_isP hT (ho.inn _ hm)⟩
theorem swp_bd {T P : List P2} {c lo hi : Int} {E : List Int} (ho : OkE T c lo hi P E) (hT : T.all Pl.isP = true) (hP : P.all Pl.isP = true) : ∀ k, k ≤ E.length → -320000 * (k : Int) ≤ swp T P E k ∧ swp T P E k ≤ 320000 * (k : Int)
  | 0, _ => by simp [swp]
  | k + 1, hk => by
    have ih := swp_bd ho hT hP k (by omega)
    have := Pl.sumTo_bd (quad_isP ho hT hP (k := k) (by omega)) 4 (Nat.le_refl _)
    have e : Pl.area (quad T P E k) = Pl.sumTo (quad T P E k) 4 := rfl
    simp only [swp, e]
    omega
end Tk
end Go.Proofs.YtgmhelclofnpkaaGreat
namespace Go.Proofs.YtgmhelclofnpkaaGreat
open Go.RowKit

abbrev tkV (A : Option Addr) (n cap : Nat) (c lo hi : Int) : Value := .agg #[.slice A n cap, .int .i64 c, .int .i64 lo, .int .i64 hi]
abbrev tkC (A : Option Addr) (n cap : Nat) (c lo hi : Int) : List Value := [.slice A n cap, .int .i64 c, .int .i64 lo, .int .i64 hi]
abbrev mcV (A : Option Addr) (n cap : Nat) (c lo hi : Int) (B : Option Addr) (m cb : Nat) : Value := .agg #[.slice A n cap, .int .i64 c, .int .i64 lo, .int .i64 hi, .slice B m cb]
abbrev mcC (A : Option Addr) (n cap : Nat) (c lo hi : Int) (B : Option Addr) (m cb : Nat) : List Value := [.slice A n cap, .int .i64 c, .int .i64 lo, .int .i64 hi, .slice B m cb]
set_option maxHeartbeats 400000 in
theorem kwithinW (n lo hi : Int) (w : World) :
    Calls Tryz.prog 55 #[.int .i64 n, .int .i64 lo, .int .i64 hi] w fun e w' => e = .returned (.bool (btw n lo hi)) ∧ w = w' := by
  go_enter Tryz.func55, Tryz.ntmps55
  go_wp2
  all_goals go_ret
  · exact ⟨ret_bool (btw_t ‹_›).symm, rfl⟩
  · exact ⟨ret_bool (btw_f ‹_›).symm, rfl⟩
theorem kwithinT (n lo hi : Int) (w : World) (h : lo ≤ n ∧ n ≤ hi) :
    Calls Tryz.prog 55 #[.int .i64 n, .int .i64 lo, .int .i64 hi] w fun e w' => e = .returned (.bool true) ∧ w = w' := by
  have e : btw n lo hi = true := by rw [btw_iff]; exact h
  rw [← e]; exact kwithinW n lo hi w
set_option maxHeartbeats 400000 in
theorem kisStrangeW (x y : Int) (w : World) (h : Pl.isP (x, y) = true) :
    Calls Tryz.prog 56 #[.agg #[.int .i64 x, .int .i64 y]] w fun e w' => e = .returned (.bool false) ∧ Below w.heap.size w w' := by
  have H := Lib.hid (Pl.isP_iff.1 h)
  clear h
  go_enter Tryz.func56, Tryz.ntmps56
  go_wp2_with fail
  refine (kwithinT _ _ _ _ H.out.1).mono ?_
  rintro e w1 ⟨rfl, rfl⟩
  go_wp2_with fail
  refine (kwithinT _ _ _ _ H.out.2).mono ?_
  rintro e w1 ⟨rfl, rfl⟩
  go_wp2
  go_ret
  exact ⟨rfl, by (repeat' (first | (with_reducible exact Below.refl _ _) | (with_reducible assumption) | (with_reducible refine Below.drew ?_) | (with_reducible refine below_drewN ?_ _) | (with_reducible refine Below.setCell ?_ ?_ _) | (with_reducible refine Below.alloc ?_ ?_ _) | (refine Below.trans ?_ (Below.mono (by with_reducible assumption) ?_)) | omega | (exact Below.size (by with_reducible assumption)) | (simp; done) | (simp; omega)))⟩
set_option maxHeartbeats 1000000 in
theorem kIfPtW (A : Option Addr) (ps : List P2) (n cap : Nat) (w : World) (hA : Rd 2 w A (ps.map ptrow)) (hn : Hid (n = ps.length)) (hlen : n ≤ 9223372036854775807) (hp : Hid (ps.all Pl.isP = true)) :
    Calls Tryz.prog 70 #[.slice A n cap, .func (.func 56) #[] #[]] w fun e w' => e = .returned (.int .i64 (-1)) ∧ Below w.heap.size w w' := by
  have HA := Lib.hid hA
  clear hA
  go_enter Tryz.func70, Tryz.ntmps70
  go_wp2
  go_loopw [8] (fun i wr => ∃ k : Nat, k ≤ n ∧ i = .int .i64 k ∧ Below w.heap.size w wr) (fun i _ => n - (intOf i).toNat)
  case atStart => exact ⟨0, Nat.zero_le _, rfl, Below.refl _ _⟩
  case round =>
    obtain ⟨k, hk, rfl, hbw⟩ := hrel
    by_cases hlt : k < n
    · obtain ⟨g, hg⟩ : ∃ g, Hid (ps[k]? = some g) := ⟨ps[k]'(by have := hn.out; omega), by simp [Hid]⟩
      have hs := Lib.hid (show Pl.isP (g.1, g.2) = true from List.all_eq_true.1 hp.out g (List.mem_of_getElem? hg.out))
      obtain ⟨b, off, rfl, hb, hc0, hc1⟩ := rd_p2 (HA.out.below hbw (Nat.le_refl _)) hg.out
      go_wp2_with fail
      refine (kisStrangeW g.1 g.2 _ hs.out).mono ?_
      rintro e w1 ⟨rfl, hb1⟩
      clear hc0 hc1 hb
      go_wp2
      go_roundw
      case rel => exact ⟨k + 1, by omega, by go_num, by (repeat' (first | (with_reducible exact Below.refl _ _) | (with_reducible assumption) | (with_reducible refine Below.drew ?_) | (with_reducible refine below_drewN ?_ _) | (with_reducible refine Below.setCell ?_ ?_ _) | (with_reducible refine Below.alloc ?_ ?_ _) | (refine Below.trans ?_ (Below.mono (by with_reducible assumption) ?_)) | omega | (exact Below.size (by with_reducible assumption)) | (simp; done) | (simp; omega)))⟩
      case measure => simp only [intOf]; omega
    · go_wp2
      go_ret
      exact ⟨rfl, hbw⟩
set_option maxHeartbeats 1000000 in
theorem kCfPtW (A : Option Addr) (ps : List P2) (n cap : Nat) (w : World) (hA : Rd 2 w A (ps.map ptrow)) (hn : Hid (n = ps.length)) (hlen : n ≤ 9223372036854775807) (hp : Hid (ps.all Pl.isP = true)) :
    Calls Tryz.prog 49 #[.slice A n cap, .func (.func 56) #[] #[]] w fun e w' => e = .returned (.bool false) ∧ Below w.heap.size w w' := by
  have HI := Lib.hid (kIfPtW A ps n cap w hA hn hlen hp)
  clear hA
  go_enter Tryz.func49, Tryz.ntmps49
  go_wp2_with fail
  refine HI.out.mono ?_
  rintro e w1 ⟨rfl, hb1⟩
  go_wp2
  go_ret
  exact ⟨rfl, hb1⟩
set_option maxHeartbeats 1000000 in
theorem kisWalkW (A : Option Addr) (ps : List P2) (n cap : Nat) (w : World) (hA : Rd 2 w A (ps.map ptrow)) (hn : Hid (n = ps.length)) (hn8 : 1 ≤ n ∧ n ≤ 8) (hp : Hid (ps.all Pl.isP = true)) :
    Calls Tryz.prog 31 #[.slice A n cap] w fun e w' => e = .returned (.bool true) ∧ Below w.heap.size w w' := by
  have HI := Lib.hid (kCfPtW A ps n cap w hA hn (by omega) hp)
  clear hA
  go_enter Tryz.func31, Tryz.ntmps31
  go_wp2_with fail
  refine (kwithinT _ _ _ _ (by omega)).mono ?_
  rintro e w1 ⟨rfl, rfl⟩
  go_wp2_with fail
  refine HI.out.mono ?_
  rintro e w1 ⟨rfl, hb1⟩
  go_wp2
  go_ret
  exact ⟨rfl, hb1⟩
set_option maxHeartbeats 2000000 in
theorem kisTrackW (A : Option Addr) (T : List P2) (n cap : Nat) (c lo hi : Int) (w : World) (hA : Rd 2 w A (T.map ptrow)) (hn : Hid (n = T.length)) (hT : Hid (Tk.OkT T c lo hi)) :
    Calls Tryz.prog 66 #[tkV A n cap c lo hi] w fun e w' => e = .returned (.bool true) ∧ Below w.heap.size w w' := by
  have HA := Lib.hid hA
  have hn8 : 1 ≤ n ∧ n ≤ 8 := by have := hT.out.len; have := hn.out; omega
  have k1 := Lib.hid hT.out.cl
  have k3 := Lib.hid hT.out.arm
  have k2 : c = 0 ∨ 3 ≤ n := by have := hT.out.three; have := hn.out; omega
  have o0 : Own (w.alloc (.cells #[.slice A n cap, .int .i64 c, .int .i64 lo, .int .i64 hi] 26)) w.heap.size (tkC A n cap c lo hi) := Own.new' _ _ rfl rfl
  have oB : Below w.heap.size w (w.alloc (.cells #[.slice A n cap, .int .i64 c, .int .i64 lo, .int .i64 hi] 26)) := by (repeat' (first | (with_reducible exact Below.refl _ _) | (with_reducible assumption) | (with_reducible refine Below.drew ?_) | (with_reducible refine below_drewN ?_ _) | (with_reducible refine Below.setCell ?_ ?_ _) | (with_reducible refine Below.alloc ?_ ?_ _) | (refine Below.trans ?_ (Below.mono (by with_reducible assumption) ?_)) | omega | (exact Below.size (by with_reducible assumption)) | (simp; done) | (simp; omega)))
  have O0 := Lib.hid o0
  obtain ⟨l0, c0, f0⟩ := o0
  clear hA
  rcases k2 with rfl | k2
  · go_enter Tryz.func66, Tryz.ntmps66
    go_wp2_with fail
    refine (kwithinT _ _ _ _ (by omega)).mono ?_
    rintro e w1 ⟨rfl, rfl⟩
    go_wp2_with fail
    refine (kwithinT _ _ _ _ (by omega)).mono ?_
    rintro e w1 ⟨rfl, rfl⟩
    go_wp2_with fail
    refine (kCfPtW A T n cap _ (HA.out.below oB (Nat.le_refl _)) hn (by omega) (Lib.hid hT.out.pts)).mono ?_
    rintro e w1 ⟨rfl, hb1⟩
    have o1 := O0.out.below hb1 O0.out.lt
    have hB1 := oB.trans (hb1.mono oB.size)
    clear hb1 l0 c0 f0 O0 oB
    obtain ⟨l0, c0, f0⟩ := o1
    go_wp2_with fail
    refine (kwithinT _ _ _ _ (by have := k3.out; omega)).mono ?_
    rintro e w2 ⟨rfl, rfl⟩
    have k4 : hi ≤ 320000 := k3.out.2.2
    go_wp2
    go_ret
    exact ⟨rfl, hB1⟩
  · have hc := k1.out
    by_cases hc0 : c = 0
    · subst hc0
      go_enter Tryz.func66, Tryz.ntmps66
      go_wp2_with fail
      refine (kwithinT _ _ _ _ (by omega)).mono ?_
      rintro e w1 ⟨rfl, rfl⟩
      go_wp2_with fail
      refine (kwithinT _ _ _ _ (by omega)).mono ?_
      rintro e w1 ⟨rfl, rfl⟩
      go_wp2_with fail
      refine (kCfPtW A T n cap _ (HA.out.below oB (Nat.le_refl _)) hn (by omega) (Lib.hid hT.out.pts)).mono ?_
      rintro e w1 ⟨rfl, hb1⟩
      have o1 := O0.out.below hb1 O0.out.lt
      have hB1 := oB.trans (hb1.mono oB.size)
      clear hb1 l0 c0 f0 O0 oB
      obtain ⟨l0, c0, f0⟩ := o1
      go_wp2_with fail
      refine (kwithinT _ _ _ _ (by have := k3.out; omega)).mono ?_
      rintro e w2 ⟨rfl, rfl⟩
      have k4 : hi ≤ 320000 := k3.out.2.2
      go_wp2
      go_ret
      exact ⟨rfl, hB1⟩
    · have e0 : (c == 0) = false := by simpa using hc0
      go_enter Tryz.func66, Tryz.ntmps66
      go_wp2_with fail
      refine (kwithinT _ _ _ _ (by omega)).mono ?_
      rintro e w1 ⟨rfl, rfl⟩
      go_wp2_with fail
      refine (kwithinT _ _ _ _ hc).mono ?_
      rintro e w1 ⟨rfl, rfl⟩
      go_wp2_with fail
      refine (kCfPtW A T n cap _ (HA.out.below oB (Nat.le_refl _)) hn (by omega) (Lib.hid hT.out.pts)).mono ?_
      rintro e w1 ⟨rfl, hb1⟩
      have o1 := O0.out.below hb1 O0.out.lt
      have hB1 := oB.trans (hb1.mono oB.size)
      clear hb1 l0 c0 f0 O0 oB
      obtain ⟨l0, c0, f0⟩ := o1
      go_wp2_with fail
      refine (kwithinT _ _ _ _ (by have := k3.out; omega)).mono ?_
      rintro e w2 ⟨rfl, rfl⟩
      have k4 : hi ≤ 320000 := k3.out.2.2
      go_wp2
      go_ret
      exact ⟨rfl, hB1⟩
set_option maxHeartbeats 1000000 in
theorem kCheckW (A B : Option Addr) (T P : List P2) (n cap m cb : Nat) (c lo hi : Int) (w : World) (hA : Rd 2 w A (T.map ptrow)) (hB : Rd 2 w B (P.map ptrow)) (hn : Hid (n = T.length)) (hm : Hid (m = P.length)) (hT : Hid (Tk.OkT T c lo hi)) (hm8 : 1 ≤ m ∧ m ≤ 8) (hP : Hid (P.all Pl.isP = true)) :
    Calls Tryz.prog 44 #[tkV A n cap c lo hi, .slice B m cb] w fun e w' => e = .returned (.int .i64 0) ∧ Below w.heap.size w w' := by
  have HA := Lib.hid hA
  have HB := Lib.hid hB
  have oB : Below w.heap.size w (w.alloc (.cells #[.slice A n cap, .int .i64 c, .int .i64 lo, .int .i64 hi] 26)) := by (repeat' (first | (with_reducible exact Below.refl _ _) | (with_reducible assumption) | (with_reducible refine Below.drew ?_) | (with_reducible refine below_drewN ?_ _) | (with_reducible refine Below.setCell ?_ ?_ _) | (with_reducible refine Below.alloc ?_ ?_ _) | (refine Below.trans ?_ (Below.mono (by with_reducible assumption) ?_)) | omega | (exact Below.size (by with_reducible assumption)) | (simp; done) | (simp; omega)))
  clear hA hB
  go_enter Tryz.func44, Tryz.ntmps44
  go_wp2_with fail
  refine (kisTrackW A T n cap c lo hi _ (HA.out.below oB (Nat.le_refl _)) hn hT).mono ?_
  rintro e w1 ⟨rfl, hb1⟩
  have hB1 := oB.trans (hb1.mono oB.size)
  clear hb1 oB
  go_wp2_with fail
  refine (kisWalkW B P m cb _ (HB.out.below hB1 (Nat.le_refl _)) hm hm8 hP).mono ?_
  rintro e w2 ⟨rfl, hb2⟩
  go_wp2
  go_ret
  exact ⟨rfl, hB1.trans (hb2.mono hB1.size)⟩
end Go.Proofs.YtgmhelclofnpkaaGreat
namespace Go.Proofs.YtgmhelclofnpkaaGreat
open Go.RowKit

theorem at_of {ps : List P2} {i : Nat} {g : P2} (h : ps[i]? = some g) : Pl.at' ps i = g := by simp [Pl.at', List.getD_eq_getElem?_getD, h]
theorem ev_of {E : List Int} {i : Nat} {x : Int} (h : E[i]? = some x) : Tk.ev E i = x := by simp [Tk.ev, List.getD_eq_getElem?_getD, h]
theorem rd_p2c {w : World} {b off : Nat} {ps : List P2} (h : Rd 2 w (some ⟨b, off, none⟩) (ps.map ptrow)) {i : Nat} {p : P2} (hi : ps[i]? = some p) :
    w.cell? ⟨b, off + i * 2, none⟩ = some (.int .i64 p.1) ∧ w.cell? ⟨b, off + i * 2 + 1, none⟩ = some (.int .i64 p.2) := by
  obtain ⟨b', off', e, _, h1, h2⟩ := rd_p2 h hi
  simp only [Option.some.injEq, Addr.mk.injEq] at e
  obtain ⟨rfl, rfl, _⟩ := e
  exact ⟨h1, h2⟩
theorem rdi_c {w : World} {b off : Nat} {E : List Int} (h : RdI w (some ⟨b, off, none⟩) E) {i : Nat} {x : Int} (hi : E[i]? = some x) : w.cell? ⟨b, off + i, none⟩ = some (.int .i64 x) := by
  obtain ⟨b', off', e, _, h1⟩ := RdI.elem h hi
  simp only [Option.some.injEq, Addr.mk.injEq] at e
  obtain ⟨rfl, rfl, _⟩ := e
  exact h1
set_option maxHeartbeats 2000000 in
theorem karoundW (A : Option Addr) (ps : List P2) (n cap : Nat) (w : World) (hA : Rd 2 w A (ps.map ptrow)) (hn : Hid (n = ps.length)) (hn8 : 1 ≤ n ∧ n ≤ 8) (hp : Hid (ps.all Pl.isP = true)) :
    Calls Tryz.prog 32 #[.slice A n cap] w fun e w' => e = .returned (.int .i64 (Pl.area ps)) ∧ Below w.heap.size w w' := by
  have HA := Lib.hid hA
  clear hA
  have hr : Pl.area ps = Pl.sumTo ps n := by rw [hn.out]; rfl
  rw [hr]
  clear hr
  go_enter Tryz.func32, Tryz.ntmps32
  go_wp2
  go_loopg [3, 9] n (fun K c y wr => ∃ k : Nat, K + k = n ∧ y = .int .i64 k ∧ c = .int .i64 (Pl.sumTo ps k) ∧ Below w.heap.size w wr)
  case atStart => exact ⟨0, rfl, rfl, rfl, Below.refl _ _⟩
  case round =>
    obtain ⟨k, hk', rfl, rfl, hbw⟩ := hrel
    have hsb := Pl.sumTo_bd hp.out k (by have := hn.out; omega)
    have hzw := hbw.size
    by_cases hlt : k < n
    · obtain ⟨j, hj⟩ : ∃ j, (k + 1) % n = j := ⟨_, rfl⟩
      have hjn : j < n := by rw [← hj]; exact Nat.mod_lt _ (by omega)
      obtain ⟨g, hg⟩ : ∃ g, Hid (ps[k]? = some g) := ⟨ps[k]'(by have := hn.out; omega), by simp [Hid]⟩
      obtain ⟨g2, hg2⟩ : ∃ g, Hid (ps[j]? = some g) := ⟨ps[j]'(by have := hn.out; omega), by simp [Hid]⟩
      have hR := HA.out.below hbw (Nat.le_refl _)
      obtain ⟨b, off, rfl, hb, hc0, hc1⟩ := rd_p2 hR hg.out
      obtain ⟨hd0, hd1⟩ := rd_p2c hR hg2.out
      have hstep : Pl.sumTo ps (k + 1) = Pl.sumTo ps k + (g.1 * g2.2 - g.2 * g2.1) := by
        rw [Pl.sumTo, Pl.cross, Pl.nx, ← hn.out, hj, at_of hg.out, at_of hg2.out]
      have hst := Lib.hid hstep
      have hcb := Pl.cross_bd (List.all_eq_true.1 hp.out g (List.mem_of_getElem? hg.out)) (List.all_eq_true.1 hp.out g2 (List.mem_of_getElem? hg2.out))
      have e1 : IntKind.i64.wrap ((k : Int) + 1) = (k : Int) + 1 := IntWalk.i64_in _ (by omega)
      have e2 : ((k : Int) + 1).tmod (n : Int) = (j : Int) := by
        rw [Int.tmod_eq_emod_of_nonneg (by omega), ← hj]; simp
      have e3 : ¬ (n : Int) = 0 := by omega
      have e4 : IntKind.i64.wrap ((j : Nat) : Int) = ((j : Nat) : Int) := IntWalk.i64_in _ (by omega)
      have hsc : -640000 ≤ Pl.sumTo ps k ∧ Pl.sumTo ps k ≤ 640000 := by omega
      clear hstep hR hj hsb
      go_wp2
      go_roundg (n - (k + 1))
      case measure => omega
      case rel =>
        refine ⟨k + 1, by omega, by go_num, ?_, by (repeat' (first | (with_reducible exact Below.refl _ _) | (with_reducible assumption) | (with_reducible refine Below.drew ?_) | (with_reducible refine below_drewN ?_ _) | (with_reducible refine Below.setCell ?_ ?_ _) | (with_reducible refine Below.alloc ?_ ?_ _) | (refine Below.trans ?_ (Below.mono (by with_reducible assumption) ?_)) | omega | (exact Below.size (by with_reducible assumption)) | (simp; done) | (simp; omega)))⟩
        rw [hst.out]
    · have e : k = n := by omega
      subst e
      go_wp2
      go_ret
      exact ⟨rfl, hbw⟩
set_option maxHeartbeats 1000000 in
theorem kAreaW (A : Option Addr) (ps : List P2) (n cap : Nat) (w : World) (hA : Rd 2 w A (ps.map ptrow)) (hn : Hid (n = ps.length)) (hn8 : 1 ≤ n ∧ n ≤ 8) (hp : Hid (ps.all Pl.isP = true)) :
    Calls Tryz.prog 12 #[.slice A n cap] w fun e w' => e = .returned (.tuple #[.int .i64 (Pl.area ps), .int .i64 0]) ∧ Below w.heap.size w w' := by
  have HA := Lib.hid hA
  clear hA
  go_enter Tryz.func12, Tryz.ntmps12
  go_wp2_with fail
  refine (kisWalkW A ps n cap _ HA.out hn hn8 hp).mono ?_
  rintro e w1 ⟨rfl, hb1⟩
  go_wp2_with fail
  refine (karoundW A ps n cap _ (HA.out.below hb1 (Nat.le_refl _)) hn hn8 hp).mono ?_
  rintro e w2 ⟨rfl, hb2⟩
  go_wp2
  go_ret2
  exact ⟨rfl, hb1.trans (hb2.mono hb1.size)⟩
set_option maxHeartbeats 1000000 in
theorem knextW (A : Option Addr) (E : List Int) (n cap i j : Nat) (w : World) (hA : RdI w A E) (hn : Hid (n = E.length)) (hi : i < n) (hn8 : n ≤ 1000) (hj : Hid ((i + 1) % n = j)) :
    Calls Tryz.prog 46 #[.int .i64 i, .slice A n cap] w fun e w' => e = .returned (.tuple #[.int .i64 j, .int .i64 (Tk.en E i)]) ∧ Below w.heap.size w w' := by
  have hjn : j < n := by rw [← hj.out]; exact Nat.mod_lt _ (by omega)
  obtain ⟨x, hx⟩ : ∃ x, Hid (E[j]? = some x) := ⟨E[j]'(by have := hn.out; omega), by simp [Hid]⟩
  have he : Tk.en E i = x := by unfold Tk.en; rw [← hn.out, hj.out]; exact ev_of hx.out
  rw [he]
  clear he
  obtain ⟨b, off, rfl, hb, hc0⟩ := RdI.elem hA hx.out
  have hx0 := fun x : Aft w => (Aft.old x hb _).trans hc0
  have e1 : IntKind.i64.wrap ((i : Int) + 1) = (i : Int) + 1 := IntWalk.i64_in _ (by omega)
  have e2 : ((i : Int) + 1).tmod (n : Int) = (j : Int) := by
    rw [Int.tmod_eq_emod_of_nonneg (by omega), ← hj.out]; simp
  have e3 : ¬ (n : Int) = 0 := by omega
  have e4 : IntKind.i64.wrap ((j : Nat) : Int) = ((j : Nat) : Int) := IntWalk.i64_in _ (by omega)
  clear hA hc0
  go_enter Tryz.func46, Tryz.ntmps46
  go_wp2
  refine wp_region_aft (by kernel_rfl) (by kernel_rfl) ?_; (repeat (go_big_quiet_step (fail))); refine wpQuiet_nil ?_; rintro w1 ⟨⟨_, hb1⟩, rfl⟩
  clear hx0
  go_wp2
  go_ret2
  exact ⟨rfl, hb1⟩
set_option maxHeartbeats 2000000 in
theorem kreachesW (A B : Option Addr) (T : List P2) (n cap m cb K : Nat) (c lo hi : Int) (g p : P2) (w : World) (hA : Rd 2 w A (T.map ptrow)) (hn : Hid (n = T.length)) (hn8 : n ≤ 1000) (hg : Hid (T[K]? = some g)) (hr : Hid (btw (Tk.dst g p) lo hi = true)) (hg1 : Pl.isP g = true) (hp1 : Pl.isP p = true) :
    Calls Tryz.prog 69 #[mcV A n cap c lo hi B m cb, .int .i64 K, ptV p] w fun e w' => e = .returned (.bool true) ∧ Below w.heap.size w w' := by
  obtain ⟨b, off, rfl, hb, hc0, hc1⟩ := rd_p2 hA hg.out
  have hK : K < n := by have := (List.getElem?_eq_some_iff.1 hg.out).1; have := hn.out; omega
  obtain ⟨p1, p2⟩ := p
  have i1 := Pl.isP_iff.1 hg1
  have i2 := Pl.isP_iff.1 hp1
  have q1 := Pl.mul_bd (a := g.1 - p1) (b := g.1 - p1) (A := 400) (B := 400) (by omega) (by omega)
  have q2 := Pl.mul_bd (a := g.2 - p2) (b := g.2 - p2) (A := 400) (B := 400) (by omega) (by omega)
  have hD := Lib.hid ((btw_iff).1 hr.out)
  have oB : Below w.heap.size w ((w.alloc (.cells #[.slice (some ⟨b, off, none⟩) n cap, .int .i64 c, .int .i64 lo, .int .i64 hi, .slice B m cb] 62)).alloc (.cells #[.int .i64 p1, .int .i64 p2] 52)) := by (repeat' (first | (with_reducible exact Below.refl _ _) | (with_reducible assumption) | (with_reducible refine Below.drew ?_) | (with_reducible refine below_drewN ?_ _) | (with_reducible refine Below.setCell ?_ ?_ _) | (with_reducible refine Below.alloc ?_ ?_ _) | (refine Below.trans ?_ (Below.mono (by with_reducible assumption) ?_)) | omega | (exact Below.size (by with_reducible assumption)) | (simp; done) | (simp; omega)))
  have o0 : Own ((w.alloc (.cells #[.slice (some ⟨b, off, none⟩) n cap, .int .i64 c, .int .i64 lo, .int .i64 hi, .slice B m cb] 62)).alloc (.cells #[.int .i64 p1, .int .i64 p2] 52)) w.heap.size (mcC (some ⟨b, off, none⟩) n cap c lo hi B m cb) := (Own.new' _ _ rfl rfl).alloc _
  have o1 : Own ((w.alloc (.cells #[.slice (some ⟨b, off, none⟩) n cap, .int .i64 c, .int .i64 lo, .int .i64 hi, .slice B m cb] 62)).alloc (.cells #[.int .i64 p1, .int .i64 p2] 52)) (w.heap.size + 1) [.int .i64 p1, .int .i64 p2] := Own.new' _ _ (by simp) rfl
  have hx0 := Aft.cell o0
  have hx1 := Aft.cell o1
  have hx2 := fun x : Aft ((w.alloc (.cells #[.slice (some ⟨b, off, none⟩) n cap, .int .i64 c, .int .i64 lo, .int .i64 hi, .slice B m cb] 62)).alloc (.cells #[.int .i64 p1, .int .i64 p2] 52)) => (x.h.cell (p := ⟨b, off + K * 2, none⟩) (by simp; omega)).trans ((oB.cell (p := ⟨b, off + K * 2, none⟩) hb).trans hc0)
  have hx3 := fun x : Aft ((w.alloc (.cells #[.slice (some ⟨b, off, none⟩) n cap, .int .i64 c, .int .i64 lo, .int .i64 hi, .slice B m cb] 62)).alloc (.cells #[.int .i64 p1, .int .i64 p2] 52)) => (x.h.cell (p := ⟨b, off + K * 2 + 1, none⟩) (by simp; omega)).trans ((oB.cell (p := ⟨b, off + K * 2 + 1, none⟩) hb).trans hc1)
  have O0 := Lib.hid o0
  simp only at q1 q2 i1 i2
  clear hA o0 o1 hg1 hp1
  go_enter Tryz.func69, Tryz.ntmps69
  go_wp2
  refine wp_region_aft (by kernel_rfl) (by kernel_rfl) ?_; (repeat (go_big_quiet_step (fail))); refine wpQuiet_nil ?_; rintro w1 ⟨⟨_, hb1⟩, rfl⟩
  clear hx0 hx1 hx2 hx3
  obtain ⟨l0, c0, f0⟩ := O0.out.below hb1 O0.out.lt
  have hB1 := oB.trans (hb1.mono oB.size)
  clear hb1 oB hc0 hc1 hb
  go_wp2_with fail
  refine (kwithinT _ _ _ _ hD.out).mono ?_
  rintro e w2 ⟨rfl, rfl⟩
  go_wp2
  go_ret
  exact ⟨rfl, hB1⟩
end Go.Proofs.YtgmhelclofnpkaaGreat
namespace Go.Proofs.YtgmhelclofnpkaaGreat
open Go.RowKit

theorem kstepX (A B : Option Addr) (n cap m cb : Nat) (c lo hi a b v : Int) (w : World) (h : ∀ w, Calls Tryz.prog 47 #[mcV A n cap c lo hi B m cb, .int .i64 a, .int .i64 b] w fun e w' => e = .returned (.tuple #[.int .i64 v, .bool true]) ∧ Below w.heap.size w w') (e : Tk.stp n c a b = some v) :
    Calls Tryz.prog 47 #[mcV A n cap c lo hi B m cb, .int .i64 a, .int .i64 b] w fun e w' => e = .returned (.tuple #[.int .i64 (Tk.sv n c a b), .bool true]) ∧ Below w.heap.size w w' := by
  have : Tk.sv n c a b = v := by unfold Tk.sv; rw [e]; rfl
  rw [this]; exact h w
set_option maxHeartbeats 4000000 in
theorem kstepW (A B : Option Addr) (n cap m cb : Nat) (c lo hi a b : Int) (w : World) (ha : 0 ≤ a ∧ a < n) (hb : 0 ≤ b ∧ b < n) (hn8 : n ≤ 8) (hs : (Tk.stp n c a b).isSome = true) :
    Calls Tryz.prog 47 #[mcV A n cap c lo hi B m cb, .int .i64 a, .int .i64 b] w fun e w' => e = .returned (.tuple #[.int .i64 (Tk.sv n c a b), .bool true]) ∧ Below w.heap.size w w' := by
  by_cases c0 : a = b
  · have e : Tk.stp n c a b = some 0 := by unfold Tk.stp; rw [if_pos c0]
    refine kstepX A B n cap m cb c lo hi a b 0 w (fun w => ?_) e
    clear hs e
    subst c0
    go_enter Tryz.func47, Tryz.ntmps47
    go_wp2
    go_ret2
    exact ⟨rfl, by (repeat' (first | (with_reducible exact Below.refl _ _) | (with_reducible assumption) | (with_reducible refine Below.drew ?_) | (with_reducible refine below_drewN ?_ _) | (with_reducible refine Below.setCell ?_ ?_ _) | (with_reducible refine Below.alloc ?_ ?_ _) | (refine Below.trans ?_ (Below.mono (by with_reducible assumption) ?_)) | omega | (exact Below.size (by with_reducible assumption)) | (simp; done) | (simp; omega)))⟩
  · have q0 : (a == b) = false := by simpa using c0
    have q0' : decide (a = b) = false := decide_eq_false c0
    have w1 : IntKind.i64.wrap (a + 1) = a + 1 := IntWalk.i64_in _ (by omega)
    have w2 : IntKind.i64.wrap (a - 1) = a - 1 := IntWalk.i64_in _ (by omega)
    have w3 : IntKind.i64.wrap ((n : Int) - 1) = (n : Int) - 1 := IntWalk.i64_in _ (by omega)
    by_cases c1 : b = a + 1
    · have e : Tk.stp n c a b = some 1 := by unfold Tk.stp; rw [if_neg c0, if_pos (Or.inl c1)]
      refine kstepX A B n cap m cb c lo hi a b 1 w (fun w => ?_) e
      have q1 : (b == a + 1) = true := by simpa using c1
      clear hs e
      go_enter Tryz.func47, Tryz.ntmps47
      go_wp2
      go_ret2
      exact ⟨rfl, by (repeat' (first | (with_reducible exact Below.refl _ _) | (with_reducible assumption) | (with_reducible refine Below.drew ?_) | (with_reducible refine below_drewN ?_ _) | (with_reducible refine Below.setCell ?_ ?_ _) | (with_reducible refine Below.alloc ?_ ?_ _) | (refine Below.trans ?_ (Below.mono (by with_reducible assumption) ?_)) | omega | (exact Below.size (by with_reducible assumption)) | (simp; done) | (simp; omega)))⟩
    · have q1 : (b == a + 1) = false := by simpa using c1
      by_cases c2 : c = 1 ∧ a = n - 1 ∧ b = 0
      · have e : Tk.stp n c a b = some 1 := by unfold Tk.stp; rw [if_neg c0, if_pos (Or.inr c2)]
        refine kstepX A B n cap m cb c lo hi a b 1 w (fun w => ?_) e
        obtain ⟨rfl, c3, rfl⟩ := c2
        have q2 : (a == (n : Int) - 1) = true := by simpa using c3
        clear hs e
        go_enter Tryz.func47, Tryz.ntmps47
        go_wp2
        go_ret2
        exact ⟨rfl, by (repeat' (first | (with_reducible exact Below.refl _ _) | (with_reducible assumption) | (with_reducible refine Below.drew ?_) | (with_reducible refine below_drewN ?_ _) | (with_reducible refine Below.setCell ?_ ?_ _) | (with_reducible refine Below.alloc ?_ ?_ _) | (refine Below.trans ?_ (Below.mono (by with_reducible assumption) ?_)) | omega | (exact Below.size (by with_reducible assumption)) | (simp; done) | (simp; omega)))⟩
      · by_cases c3 : b = a - 1
        · have e : Tk.stp n c a b = some (-1) := by unfold Tk.stp; rw [if_neg c0, if_neg (by omega), if_pos (Or.inl c3)]
          refine kstepX A B n cap m cb c lo hi a b (-1) w (fun w => ?_) e
          have q3 : (b == a - 1) = true := by simpa using c3
          clear hs e
          by_cases d1 : c = 1
          · subst d1
            by_cases d2 : a = n - 1
            · have q4 : (a == (n : Int) - 1) = true := by simpa using d2
              have q5 : (b == 0) = false := by simpa using (show ¬ b = 0 by omega)
              clear c0 c1 c2 c3 d2
              go_enter Tryz.func47, Tryz.ntmps47
              go_wp2
              go_ret2
              exact ⟨rfl, by (repeat' (first | (with_reducible exact Below.refl _ _) | (with_reducible assumption) | (with_reducible refine Below.drew ?_) | (with_reducible refine below_drewN ?_ _) | (with_reducible refine Below.setCell ?_ ?_ _) | (with_reducible refine Below.alloc ?_ ?_ _) | (refine Below.trans ?_ (Below.mono (by with_reducible assumption) ?_)) | omega | (exact Below.size (by with_reducible assumption)) | (simp; done) | (simp; omega)))⟩
            · have q4 : (a == (n : Int) - 1) = false := by simpa using d2
              clear c0 c1 c2 c3 d2
              go_enter Tryz.func47, Tryz.ntmps47
              go_wp2
              go_ret2
              exact ⟨rfl, by (repeat' (first | (with_reducible exact Below.refl _ _) | (with_reducible assumption) | (with_reducible refine Below.drew ?_) | (with_reducible refine below_drewN ?_ _) | (with_reducible refine Below.setCell ?_ ?_ _) | (with_reducible refine Below.alloc ?_ ?_ _) | (refine Below.trans ?_ (Below.mono (by with_reducible assumption) ?_)) | omega | (exact Below.size (by with_reducible assumption)) | (simp; done) | (simp; omega)))⟩
          · have q4 : (c == 1) = false := by simpa using d1
            clear c0 c1 c2 c3 d1
            go_enter Tryz.func47, Tryz.ntmps47
            go_wp2
            go_ret2
            exact ⟨rfl, by (repeat' (first | (with_reducible exact Below.refl _ _) | (with_reducible assumption) | (with_reducible refine Below.drew ?_) | (with_reducible refine below_drewN ?_ _) | (with_reducible refine Below.setCell ?_ ?_ _) | (with_reducible refine Below.alloc ?_ ?_ _) | (refine Below.trans ?_ (Below.mono (by with_reducible assumption) ?_)) | omega | (exact Below.size (by with_reducible assumption)) | (simp; done) | (simp; omega)))⟩
        · have q3 : (b == a - 1) = false := by simpa using c3
          have c4 : c = 1 ∧ a = 0 ∧ b = n - 1 := by
            unfold Tk.stp at hs
            rw [if_neg c0, if_neg (by omega)] at hs
            by_cases d : b = a - 1 ∨ (c = 1 ∧ a = 0 ∧ b = n - 1)
            · omega
            · rw [if_neg d] at hs; cases hs
          have e : Tk.stp n c a b = some (-1) := by unfold Tk.stp; rw [if_neg c0, if_neg (by omega), if_pos (Or.inr c4)]
          refine kstepX A B n cap m cb c lo hi a b (-1) w (fun w => ?_) e
          obtain ⟨rfl, rfl, c5⟩ := c4
          have q4 : ((0 : Int) == (n : Int) - 1) = false := by simpa using (show ¬ (0 : Int) = (n : Int) - 1 by omega)
          have q5 : (b == (n : Int) - 1) = true := by simpa using c5
          clear hs e
          go_enter Tryz.func47, Tryz.ntmps47
          go_wp2
          go_ret2
          exact ⟨rfl, by (repeat' (first | (with_reducible exact Below.refl _ _) | (with_reducible assumption) | (with_reducible refine Below.drew ?_) | (with_reducible refine below_drewN ?_ _) | (with_reducible refine Below.setCell ?_ ?_ _) | (with_reducible refine Below.alloc ?_ ?_ _) | (refine Below.trans ?_ (Below.mono (by with_reducible assumption) ?_)) | omega | (exact Below.size (by with_reducible assumption)) | (simp; done) | (simp; omega)))⟩
set_option maxHeartbeats 1000000 in
theorem kare1W (A B : Option Addr) (n cap m cb : Nat) (c lo hi x : Int) (Bk : Nat) (w : World) (ho : Own w Bk (mcC A n cap c lo hi B m cb)) (hn8 : n ≤ 1000) (hx : 0 ≤ x ∧ x < n) :
    Calls Tryz.prog 68 #[.int .i64 x, .pointer (some ⟨Bk, 0, none⟩)] w fun e w' => e = .returned (.bool false) ∧ w = w' := by
  obtain ⟨l0, c0, f0⟩ := ho
  have w3 : IntKind.i64.wrap ((n : Int) - 1) = (n : Int) - 1 := IntWalk.i64_in _ (by omega)
  go_enter Tryz.func68, Tryz.ntmps68
  go_wp2_with fail
  refine (kwithinT _ _ _ _ (by omega)).mono ?_
  rintro e w2 ⟨rfl, rfl⟩
  go_wp2
  go_ret
  exact ⟨rfl, rfl⟩
set_option maxHeartbeats 1000000 in
theorem kIfIntW (A B A1 : Option Addr) (E : List Int) (n cap m cb n1 cap1 : Nat) (c lo hi : Int) (Bk : Nat) (w : World) (hA : RdI w A1 E) (hn : Hid (n1 = E.length)) (hn1 : n1 ≤ 1000) (ho : Own w Bk (mcC A n cap c lo hi B m cb)) (hn8 : n ≤ 1000) (hx : Hid (∀ x ∈ E, 0 ≤ x ∧ x < n)) :
    Calls Tryz.prog 87 #[.slice A1 n1 cap1, .func (.func 68) #[] #[.pointer (some ⟨Bk, 0, none⟩)]] w fun e w' => e = .returned (.int .i64 (-1)) ∧ Below w.heap.size w w' := by
  have HA := Lib.hid hA
  have HO := Lib.hid ho
  clear hA ho
  go_enter Tryz.func87, Tryz.ntmps87
  go_wp2
  go_loopw [8] (fun i wr => ∃ k : Nat, k ≤ n1 ∧ i = .int .i64 k ∧ Below w.heap.size w wr) (fun i _ => n1 - (intOf i).toNat)
  case atStart => exact ⟨0, Nat.zero_le _, rfl, Below.refl _ _⟩
  case round =>
    obtain ⟨k, hk', rfl, hbw⟩ := hrel
    by_cases hlt : k < n1
    · obtain ⟨g, hg⟩ : ∃ g, Hid (E[k]? = some g) := ⟨E[k]'(by have := hn.out; omega), by simp [Hid]⟩
      obtain ⟨b, off, rfl, hb, hc0⟩ := RdI.elem (show RdI wr A1 E from HA.out.below hbw (Nat.le_refl _)) hg.out
      go_wp2_with fail
      refine (kare1W A B n cap m cb c lo hi g Bk _ (HO.out.below hbw HO.out.lt) hn8 (hx.out _ (List.mem_of_getElem? hg.out))).mono ?_
      rintro e w1 ⟨rfl, rfl⟩
      clear hc0 hb
      go_wp2
      go_roundw
      case rel => exact ⟨k + 1, by omega, by go_num, hbw⟩
      case measure => simp only [intOf]; omega
    · go_wp2
      go_ret
      exact ⟨rfl, hbw⟩
set_option maxHeartbeats 1000000 in
theorem kCfIntW (A B A1 : Option Addr) (E : List Int) (n cap m cb n1 cap1 : Nat) (c lo hi : Int) (Bk : Nat) (w : World) (hA : RdI w A1 E) (hn : Hid (n1 = E.length)) (hn1 : n1 ≤ 1000) (ho : Own w Bk (mcC A n cap c lo hi B m cb)) (hn8 : n ≤ 1000) (hx : Hid (∀ x ∈ E, 0 ≤ x ∧ x < n)) :
    Calls Tryz.prog 67 #[.slice A1 n1 cap1, .func (.func 68) #[] #[.pointer (some ⟨Bk, 0, none⟩)]] w fun e w' => e = .returned (.bool false) ∧ Below w.heap.size w w' := by
  have HI := Lib.hid (kIfIntW A B A1 E n cap m cb n1 cap1 c lo hi Bk w hA hn hn1 ho hn8 hx)
  clear hA ho
  go_enter Tryz.func67, Tryz.ntmps67
  go_wp2_with fail
  refine HI.out.mono ?_
  rintro e w1 ⟨rfl, hb1⟩
  go_wp2
  go_ret
  exact ⟨rfl, hb1⟩
end Go.Proofs.YtgmhelclofnpkaaGreat
