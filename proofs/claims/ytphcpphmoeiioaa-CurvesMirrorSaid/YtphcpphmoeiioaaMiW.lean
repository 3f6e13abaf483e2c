/- Walks: CurvesMirror of the program. -/
import Derived.Test.YtphcpphmoeiioaaMiA
import Derived.Test.YtphcpphmoeiioaaLean
import Derived.Test.YtphcpphmoeiioaaWW
namespace Go.Proofs.Ytphcpphmoeiioaa
open Go.RowKit Go.Maps

set_option maxRecDepth 100000 in
set_option maxHeartbeats 16000000 in
theorem mirror8 (L sl rl rh wg : Int) (A : Option Addr) (n cap : Nat) (ks : List Kn) (a b lv : Int) (w : World) (hA : Rd 3 w A (ks.map krow)) (hn : Hid (n = ks.length)) (hlen : n ≤ 9223372036854775807) :
    Calls Try.prog 8 #[.agg #[.int .i64 L, .int .i64 sl, .int .i64 rl, .int .i64 rh, .slice A n cap, .int .i64 wg], .agg #[.int .i64 a, .int .i64 b, .int .i64 lv]] w fun e w' => e = .returned (.bool true) ∧ Below w.heap.size w w' := by
  have HA := Lib.hid hA
  clear hA
  cases hr : readyB L sl rl rh wg ks
  · have HR := Lib.hid hr
    clear hr
    go_enter Try.func8, Try.ntmps8
    go_wp2_with fail
    refine calls_gen fun W1 hW => ?_
    have hB1 : Below w.heap.size w W1 := by rw [hW]; (repeat' (first | (with_reducible exact Below.refl _ _) | (with_reducible assumption) | (with_reducible refine Below.drew ?_) | (with_reducible refine below_drewN ?_ _) | (with_reducible refine Below.setCell ?_ ?_ _) | (with_reducible refine Below.alloc ?_ ?_ _) | (refine Below.trans ?_ (Below.mono (by with_reducible assumption) ?_)) | omega | (exact Below.size (by with_reducible assumption)) | (simp; done) | (simp; omega)))
    have pc : Own W1 (w.heap.size) [.int .i64 L, .int .i64 sl, .int .i64 rl, .int .i64 rh, .slice A n cap, .int .i64 wg] := by rw [hW]; exact (Own.new' _ _ rfl rfl).alloc _
    have px : Own W1 (w.heap.size + 1) [.int .i64 a, .int .i64 b, .int .i64 lv] := by rw [hW]; exact Own.new' _ _ (by simp) rfl
    try clear hBV
    try clear hB
    clear hW  
    refine (ready18v false L sl rl rh wg A n cap ks _ HR (HA.out.below hB1 (Nat.le_refl _)) hn hlen).mono ?_
    rintro e V1 ⟨rfl, hb⟩
    have hB := hB1.trans (hb.mono hB1.size)
    have qc := Lib.hid (pc.below hb pc.lt)
    have qx := Lib.hid (px.below hb px.lt)
    try clear hsz
    clear hb hB1 pc px 
    obtain ⟨lc, kc, fc⟩ := qc.out
    obtain ⟨lx, kx, fx⟩ := qx.out
    go_wp2_with fail
    refine calls_gen fun W2 hW => ?_
    have hB1 : Below w.heap.size w W2 := by rw [hW]; (repeat' (first | (with_reducible exact Below.refl _ _) | (with_reducible assumption) | (with_reducible refine Below.drew ?_) | (with_reducible refine below_drewN ?_ _) | (with_reducible refine Below.setCell ?_ ?_ _) | (with_reducible refine Below.alloc ?_ ?_ _) | (refine Below.trans ?_ (Below.mono (by with_reducible assumption) ?_)) | omega | (exact Below.size (by with_reducible assumption)) | (simp; done) | (simp; omega)))
    have pc : Own W2 (w.heap.size) [.int .i64 L, .int .i64 sl, .int .i64 rl, .int .i64 rh, .slice A n cap, .int .i64 wg] := by rw [hW]; exact qc.out
    have px : Own W2 (w.heap.size + 1) [.int .i64 a, .int .i64 b, .int .i64 lv] := by rw [hW]; exact qx.out
    try clear hBV
    try clear hB
    clear hW lc kc fc qc lx kx fx qx 
    refine (works13 _).mono ?_
    rintro e V2 ⟨rfl, hb⟩
    have hB := hB1.trans (hb.mono hB1.size)
    have qc := Lib.hid (pc.below hb pc.lt)
    have qx := Lib.hid (px.below hb px.lt)
    try clear hsz
    clear hb hB1 pc px 
    obtain ⟨lc, kc, fc⟩ := qc.out
    obtain ⟨lx, kx, fx⟩ := qx.out
    go_wp2
    go_ret
    exact ⟨rfl, hB⟩
  have HR := Lib.hid hr
  cases hk : askB L a b lv
  · have HK := Lib.hid hk
    clear hr hk
    go_enter Try.func8, Try.ntmps8
    go_wp2_with fail
    refine calls_gen fun W1 hW => ?_
    have hB1 : Below w.heap.size w W1 := by rw [hW]; (repeat' (first | (with_reducible exact Below.refl _ _) | (with_reducible assumption) | (with_reducible refine Below.drew ?_) | (with_reducible refine below_drewN ?_ _) | (with_reducible refine Below.setCell ?_ ?_ _) | (with_reducible refine Below.alloc ?_ ?_ _) | (refine Below.trans ?_ (Below.mono (by with_reducible assumption) ?_)) | omega | (exact Below.size (by with_reducible assumption)) | (simp; done) | (simp; omega)))
    have pc : Own W1 (w.heap.size) [.int .i64 L, .int .i64 sl, .int .i64 rl, .int .i64 rh, .slice A n cap, .int .i64 wg] := by rw [hW]; exact (Own.new' _ _ rfl rfl).alloc _
    have px : Own W1 (w.heap.size + 1) [.int .i64 a, .int .i64 b, .int .i64 lv] := by rw [hW]; exact Own.new' _ _ (by simp) rfl
    try clear hBV
    try clear hB
    clear hW  
    refine (ready18v true L sl rl rh wg A n cap ks _ HR (HA.out.below hB1 (Nat.le_refl _)) hn hlen).mono ?_
    rintro e V1 ⟨rfl, hb⟩
    have hB := hB1.trans (hb.mono hB1.size)
    have qc := Lib.hid (pc.below hb pc.lt)
    have qx := Lib.hid (px.below hb px.lt)
    try clear hsz
    clear hb hB1 pc px 
    obtain ⟨lc, kc, fc⟩ := qc.out
    obtain ⟨lx, kx, fx⟩ := qx.out
    go_wp2_with fail
    refine calls_gen fun W2 hW => ?_
    have hB1 : Below w.heap.size w W2 := by rw [hW]; (repeat' (first | (with_reducible exact Below.refl _ _) | (with_reducible assumption) | (with_reducible refine Below.drew ?_) | (with_reducible refine below_drewN ?_ _) | (with_reducible refine Below.setCell ?_ ?_ _) | (with_reducible refine Below.alloc ?_ ?_ _) | (refine Below.trans ?_ (Below.mono (by with_reducible assumption) ?_)) | omega | (exact Below.size (by with_reducible assumption)) | (simp; done) | (simp; omega)))
    have pc : Own W2 (w.heap.size) [.int .i64 L, .int .i64 sl, .int .i64 rl, .int .i64 rh, .slice A n cap, .int .i64 wg] := by rw [hW]; exact qc.out
    have px : Own W2 (w.heap.size + 1) [.int .i64 a, .int .i64 b, .int .i64 lv] := by rw [hW]; exact qx.out
    try clear hBV
    try clear hB
    clear hW lc kc fc qc lx kx fx qx 
    refine (isAsk19v false L sl rl rh wg _ a b lv _ HK).mono ?_
    rintro e V2 ⟨rfl, hb⟩
    have hB := hB1.trans (hb.mono hB1.size)
    have qc := Lib.hid (pc.below hb pc.lt)
    have qx := Lib.hid (px.below hb px.lt)
    try clear hsz
    clear hb hB1 pc px 
    obtain ⟨lc, kc, fc⟩ := qc.out
    obtain ⟨lx, kx, fx⟩ := qx.out
    go_wp2_with fail
    refine calls_gen fun W3 hW => ?_
    have hB1 : Below w.heap.size w W3 := by rw [hW]; (repeat' (first | (with_reducible exact Below.refl _ _) | (with_reducible assumption) | (with_reducible refine Below.drew ?_) | (with_reducible refine below_drewN ?_ _) | (with_reducible refine Below.setCell ?_ ?_ _) | (with_reducible refine Below.alloc ?_ ?_ _) | (refine Below.trans ?_ (Below.mono (by with_reducible assumption) ?_)) | omega | (exact Below.size (by with_reducible assumption)) | (simp; done) | (simp; omega)))
    have pc : Own W3 (w.heap.size) [.int .i64 L, .int .i64 sl, .int .i64 rl, .int .i64 rh, .slice A n cap, .int .i64 wg] := by rw [hW]; exact qc.out
    have px : Own W3 (w.heap.size + 1) [.int .i64 a, .int .i64 b, .int .i64 lv] := by rw [hW]; exact qx.out
    try clear hBV
    try clear hB
    clear hW lc kc fc qc lx kx fx qx 
    refine (works13 _).mono ?_
    rintro e V3 ⟨rfl, hb⟩
    have hB := hB1.trans (hb.mono hB1.size)
    have qc := Lib.hid (pc.below hb pc.lt)
    have qx := Lib.hid (px.below hb px.lt)
    try clear hsz
    clear hb hB1 pc px 
    obtain ⟨lc, kc, fc⟩ := qc.out
    obtain ⟨lx, kx, fx⟩ := qx.out
    go_wp2
    go_ret
    exact ⟨rfl, hB⟩
  have HK := Lib.hid hk
  have hc := (ready_iff.1 hr).2
  obtain ⟨ha0, hab, hbL, _, _⟩ := askB_iff.1 hk
  have HC := Lib.hid hc
  have hV := Lib.hid (cvV_of hc)
  have hl2 := hV.out.l2
  have hl1 := hV.out.l1
  have hq1 := hV.out.r1
  have hq0 := hV.out.r0
  have hq2 := hV.out.r2
  have hnk : n ≤ 8 := by have := hV.out.kl; have := hn.out; omega
  obtain ⟨E, hE⟩ := te_ex L sl rl rh wg ks
  have HE := Lib.hid hE
  have hk22 : ∀ w, Calls Try.prog 22 #[.int .i64 E] w fun e w' => e = .returned (.bool true) ∧ Below w.heap.size w w' := fun w => by have := isKnown22w E w; rwa [(te_kn hE).1] at this
  have hE03 := (te_kn hE).2
  clear hr hk hc hE
  go_enter Try.func8, Try.ntmps8
  go_wp2_with fail
  refine calls_gen fun W1 hW => ?_
  have hB1 : Below w.heap.size w W1 := by rw [hW]; (repeat' (first | (with_reducible exact Below.refl _ _) | (with_reducible assumption) | (with_reducible refine Below.drew ?_) | (with_reducible refine below_drewN ?_ _) | (with_reducible refine Below.setCell ?_ ?_ _) | (with_reducible refine Below.alloc ?_ ?_ _) | (refine Below.trans ?_ (Below.mono (by with_reducible assumption) ?_)) | omega | (exact Below.size (by with_reducible assumption)) | (simp; done) | (simp; omega)))
  have pc : Own W1 (w.heap.size) [.int .i64 L, .int .i64 sl, .int .i64 rl, .int .i64 rh, .slice A n cap, .int .i64 wg] := by rw [hW]; exact (Own.new' _ _ rfl rfl).alloc _
  have px : Own W1 (w.heap.size + 1) [.int .i64 a, .int .i64 b, .int .i64 lv] := by rw [hW]; exact Own.new' _ _ (by simp) rfl
  try clear hBV
  try clear hB
  clear hW  
  refine (ready18v true L sl rl rh wg A n cap ks _ HR (HA.out.below hB1 (Nat.le_refl _)) hn hlen).mono ?_
  rintro e V1 ⟨rfl, hb⟩
  have hB := hB1.trans (hb.mono hB1.size)
  have qc := Lib.hid (pc.below hb pc.lt)
  have qx := Lib.hid (px.below hb px.lt)
  try clear hsz
  clear hb hB1 pc px 
  obtain ⟨lc, kc, fc⟩ := qc.out
  obtain ⟨lx, kx, fx⟩ := qx.out
  go_wp2_with fail
  refine calls_gen fun W2 hW => ?_
  have hB1 : Below w.heap.size w W2 := by rw [hW]; (repeat' (first | (with_reducible exact Below.refl _ _) | (with_reducible assumption) | (with_reducible refine Below.drew ?_) | (with_reducible refine below_drewN ?_ _) | (with_reducible refine Below.setCell ?_ ?_ _) | (with_reducible refine Below.alloc ?_ ?_ _) | (refine Below.trans ?_ (Below.mono (by with_reducible assumption) ?_)) | omega | (exact Below.size (by with_reducible assumption)) | (simp; done) | (simp; omega)))
  have pc : Own W2 (w.heap.size) [.int .i64 L, .int .i64 sl, .int .i64 rl, .int .i64 rh, .slice A n cap, .int .i64 wg] := by rw [hW]; exact qc.out
  have px : Own W2 (w.heap.size + 1) [.int .i64 a, .int .i64 b, .int .i64 lv] := by rw [hW]; exact qx.out
  try clear hBV
  try clear hB
  clear hW lc kc fc qc lx kx fx qx 
  refine (isAsk19v true L sl rl rh wg _ a b lv _ HK).mono ?_
  rintro e V2 ⟨rfl, hb⟩
  have hB := hB1.trans (hb.mono hB1.size)
  have qc := Lib.hid (pc.below hb pc.lt)
  have qx := Lib.hid (px.below hb px.lt)
  try clear hsz
  clear hb hB1 pc px 
  obtain ⟨lc, kc, fc⟩ := qc.out
  obtain ⟨lx, kx, fx⟩ := qx.out
  clear HR HK
  go_wp2
  refine rg_start (fun w' => Own w' w.heap.size [.int .i64 L, .int .i64 sl, .int .i64 rl, .int .i64 rh, .slice A n cap, .int .i64 wg]) 8 (by kernel_rfl) rfl ?_
  replace hB := hB.drew
  have o := qc.out.drew
  have p := qx.out.drew
  clear lc kc fc qc lx kx fx qx
  refine rg_take (fuel := 6) [0, 2] (by kernel_rfl) (by intro _ _ d _ _ h; cases d <;> exact h) rfl (by kernel_rfl) (by kernel_rfl) o ?_
  simp only [pickL, pick1, List.cons_append, List.nil_append]
  (refine wpTake_cons (v := ?_) (Or.inl ⟨by rfl, ?_⟩) ?_; rotate_left; (intro w' hSw; have yc := hSw.c; clear hSw; go_simp; (try with_reducible rfl)); (try simp only [Act.put, List.setIfInBounds_toArray, List.set_cons_zero, List.set_cons_succ]))
  (refine wpTake_cons (v := ?_) (Or.inl ⟨by rfl, ?_⟩) ?_; rotate_left; (intro w' hSw; have yc := hSw.c; clear hSw; go_simp; (try with_reducible rfl)); (try simp only [Act.put, List.setIfInBounds_toArray, List.set_cons_zero, List.set_cons_succ]))
  refine wpTake_nil ?_
  generalize World.drew _ = W at hB o p ⊢
  generalize hQ : Exit.then _ _ = Q9
  generalize hAc : Act.mk _ _ = a0
  have rest : ∀ (ga gb nb : Nat) (X Y : Option Addr) (xx yy : Nat) (W : World), Below w.heap.size w W → Own W (w.heap.size) [.int .i64 L, .int .i64 sl, .int .i64 rl, .int .i64 rh, .slice A n cap, .int .i64 wg] → Own W (w.heap.size + 1) [.int .i64 a, .int .i64 b, .int .i64 lv] → Own W ga [.int .i64 L, .int .i64 sl, .int .i64 rl, .int .i64 rh, .slice X n xx, .int .i64 wg] → Own W gb [.int .i64 L, .int .i64 sl, .int .i64 rl, .int .i64 rh, .slice Y n yy, .int .i64 wg] → Hid (Gro W (w.heap.size + 2) 51 3 (.slice X n xx) (ks.map krow)) → Hid (Gro W nb 51 3 (.slice Y n yy) (ks.map krow)) → (w.heap.size + 2 ≤ ga ∧ w.heap.size + 2 ≤ gb ∧ ga ≠ gb ∧ w.heap.size + 2 ≤ nb) → Hid (∀ k, (Value.slice X n xx).ownBlock = Option.some k → w.heap.size + 2 ≤ k ∧ k < nb ∧ k ≠ ga ∧ k ≠ gb) → Hid (∀ k, (Value.slice Y n yy).ownBlock = Option.some k → nb ≤ k ∧ k ≠ ga ∧ k ≠ gb) →
      Q9 .normal ((((a0.put (some 32) (.agg #[.int .i64 L, .int .i64 sl, .int .i64 rl, .int .i64 rh, .slice X n xx, .int .i64 wg])).put (some 34) (.agg #[.int .i64 L, .int .i64 sl, .int .i64 rl, .int .i64 rh, .slice Y n yy, .int .i64 wg])).put (some 5) (.pointer (some ⟨ga, 0, none⟩))).put (some 6) (.pointer (some ⟨gb, 0, none⟩))) W := by
    subst hQ
    subst hAc
    clear o p hB W
    intro ga gb nb X Y xx yy W hB qc qx qd qz hGa hGb ⟨hg1, hg2, hg3, hg4⟩ hXk hYk
    simp only [Act.put, List.setIfInBounds_toArray, List.set_cons_zero, List.set_cons_succ]
    replace qc := Lib.hid qc
    replace qx := Lib.hid qx
    replace qd := Lib.hid qd
    replace qz := Lib.hid qz
    obtain ⟨lc, kc, fc⟩ := qc.out
    obtain ⟨lx, kx, fx⟩ := qx.out
    obtain ⟨ld, kd, fd⟩ := qd.out
    obtain ⟨lz, kz, fz⟩ := qz.out
    go_wp2_with fail
    refine calls_gen fun W11 hW => ?_
    have hB1 : Below w.heap.size w W11 := by rw [hW]; (repeat' (first | (with_reducible exact Below.refl _ _) | (with_reducible assumption) | (with_reducible refine Below.drew ?_) | (with_reducible refine below_drewN ?_ _) | (with_reducible refine Below.setCell ?_ ?_ _) | (with_reducible refine Below.alloc ?_ ?_ _) | (refine Below.trans ?_ (Below.mono (by with_reducible assumption) ?_)) | omega | (exact Below.size (by with_reducible assumption)) | (simp; done) | (simp; omega)))
    have hBV : Below W.heap.size W W11 := by rw [hW]; (repeat' (first | (with_reducible exact Below.refl _ _) | (with_reducible assumption) | (with_reducible refine Below.drew ?_) | (with_reducible refine below_drewN ?_ _) | (with_reducible refine Below.setCell ?_ ?_ _) | (with_reducible refine Below.alloc ?_ ?_ _) | (refine Below.trans ?_ (Below.mono (by with_reducible assumption) ?_)) | omega | (exact Below.size (by with_reducible assumption)) | (simp; done) | (simp; omega)))
    have hsz := hBV.size
    have hGa1 := Lib.hid (hGa.out.below hBV (Nat.le_refl _))
    have hGb1 := Lib.hid (hGb.out.below hBV (Nat.le_refl _))
    have pc : Own W11 (w.heap.size) [.int .i64 L, .int .i64 sl, .int .i64 rl, .int .i64 rh, .slice A n cap, .int .i64 wg] := by rw [hW]; exact qc.out
    have px : Own W11 (w.heap.size + 1) [.int .i64 a, .int .i64 b, .int .i64 lv] := by rw [hW]; exact qx.out
    have pd : Own W11 (ga) [.int .i64 L, .int .i64 sl, .int .i64 rl, .int .i64 rh, .slice X n xx, .int .i64 wg] := by rw [hW]; exact qd.out
    have pz : Own W11 (gb) [.int .i64 L, .int .i64 sl, .int .i64 rl, .int .i64 rh, .slice Y n yy, .int .i64 wg] := by rw [hW]; exact qz.out
    try clear hBV
    try clear hB
    clear hW lc kc fc qc lx kx fx qx ld kd fd qd lz kz fz qz hGa hGb
    refine (minus33 rl rh _ (by omega) (by omega)).mono ?_
    rintro e V11 ⟨rfl, hb⟩
    have hB := hB1.trans (hb.mono hB1.size)
    have hGa := Lib.hid (hGa1.out.below hb (Nat.le_refl _))
    have hGb := Lib.hid (hGb1.out.below hb (Nat.le_refl _))
    have qc := Lib.hid (pc.below hb pc.lt)
    have qx := Lib.hid (px.below hb px.lt)
    have qd := Lib.hid (pd.below hb pd.lt)
    have qz := Lib.hid (pz.below hb pz.lt)
    try clear hsz
    clear hb hB1 pc px pd pz hGa1 hGb1
    obtain ⟨lc, kc, fc⟩ := qc.out
    obtain ⟨lx, kx, fx⟩ := qx.out
    obtain ⟨ld, kd, fd⟩ := qd.out
    obtain ⟨lz, kz, fz⟩ := qz.out
    have hZX : (Value.slice X n xx).ownBlock ≠ Option.some gb := fun e => (hXk.out _ e).2.2.2 rfl
    have hZY : (Value.slice Y n yy).ownBlock ≠ Option.some gb := fun e => (hYk.out _ e).2.2 rfl
    go_wp2
    go_loopg [7] ks.length (fun K z w5 => ∃ k : Nat, K + k = ks.length ∧ z = .int .i64 k ∧ Own w5 (w.heap.size) [.int .i64 L, .int .i64 sl, .int .i64 rl, .int .i64 rh, .slice A n cap, .int .i64 wg] ∧ Own w5 (w.heap.size + 1) [.int .i64 a, .int .i64 b, .int .i64 lv] ∧ Own w5 ga [.int .i64 L, .int .i64 sl, .int .i64 rl, .int .i64 rh, .slice X n xx, .int .i64 wg] ∧ Own w5 gb [.int .i64 L, .int .i64 sl, .int .i64 (-rh), .int .i64 (-rl), .slice Y n yy, .int .i64 wg] ∧ Hid (Gro w5 (w.heap.size + 2) 51 3 (.slice X n xx) (upRows (bkk L) ks k)) ∧ Hid (Gro w5 nb 51 3 (.slice Y n yy) (upRows ngk ks k)) ∧ Below w.heap.size w w5)
    case atStart => exact ⟨0, rfl, rfl, (qc.out.setOther (by show gb ≠ _; omega) _).setOther (by show gb ≠ _; omega) _, (qx.out.setOther (by show gb ≠ _; omega) _).setOther (by show gb ≠ _; omega) _, (qd.out.setOther (by show gb ≠ _; omega) _).setOther (by show gb ≠ _; omega) _, (qz.out.set 2 (by simp) _).set 3 (by simp) _, Lib.hid (by rw [upRows_zero]; exact (hGa.out.setRow hZX _).setRow hZX _), Lib.hid (by rw [upRows_zero]; exact (hGb.out.setRow hZY _).setRow hZY _), (hB.setCell (by show w.heap.size ≤ gb; omega) _).setCell (by show w.heap.size ≤ gb; omega) _⟩
    case round =>
      clear lc kc fc lx kx fx qc qx ld kd fd qd lz kz fz qz hGa hGb hB hZX hZY
      obtain ⟨k, hK, rfl, hoc, hox, hod, hoz, hGa, hGb, hB⟩ := hrel
      have hn' := hn.out
      by_cases hlt : k < ks.length
      · obtain ⟨q, hq⟩ : ∃ q, Hid (ks[k]? = some q) := ⟨ks[k], by simp [Hid]⟩
        obtain ⟨hp1, hk1, hk2, hk3⟩ := hV.out.kn q (List.mem_of_getElem? hq.out)
        obtain ⟨b0, off, rfl, hb0, c0, c1, c2⟩ := rd_kn HA.out hq.out
        obtain ⟨g1, cg, hv⟩ := Gro.some hGa.out (by rw [upRows_len]; omega)
        obtain ⟨rfl, hnn, rfl⟩ : X = some ⟨g1, 0, none⟩ ∧ n = (upRows (bkk L) ks k).length ∧ xx = cg := by simpa using hv
        obtain ⟨g2, cg2, hv2⟩ := Gro.some hGb.out (by rw [upRows_len]; omega)
        obtain ⟨rfl, hnn2, rfl⟩ : Y = some ⟨g2, 0, none⟩ ∧ n = (upRows ngk ks k).length ∧ yy = cg2 := by simpa using hv2
        obtain ⟨ha1, ha2, ha3, ha4⟩ := hXk.out g1 rfl
        obtain ⟨hb1, hb2, hb3⟩ := hYk.out g2 rfl
        have hYX : (Value.slice (some ⟨g2, 0, none⟩) n yy).ownBlock ≠ Option.some g1 := fun e => by simp only [Value.ownBlock, Option.some.injEq] at e; omega
        have hXY : (Value.slice (some ⟨g1, 0, none⟩) n xx).ownBlock ≠ Option.some g2 := fun e => by simp only [Value.ownBlock, Option.some.injEq] at e; omega
        have y1 : (k : Int) < (n : Int) := by omega
        have y2 : k < n := by omega
        have hS := Lib.hid (show OpI w w.heap.size ga [.int .i64 L, .int .i64 sl, .int .i64 rl, .int .i64 rh, .slice (some ⟨b0, off, none⟩) n cap, .int .i64 wg] [.int .i64 L, .int .i64 sl, .int .i64 rl, .int .i64 rh, .slice (some ⟨g1, 0, none⟩) n xx, .int .i64 wg] wr from ⟨hoc, hod, hB⟩)
        have hx8 := Lib.hid hox
        have hz8 := Lib.hid hoz
        have HHa := hGa
        have HHb := hGb
        clear hox hod hoz hv hnn hv2 hnn2 hn' HA hGa hGb hXk hYk
        obtain ⟨lc, kc, fc⟩ := hoc
        go_wp2
        refine wp_nor ?_
        refine rg_start (OpI w w.heap.size ga [.int .i64 L, .int .i64 sl, .int .i64 rl, .int .i64 rh, .slice (some ⟨b0, off, none⟩) n cap, .int .i64 wg] [.int .i64 L, .int .i64 sl, .int .i64 rl, .int .i64 rh, .slice (some ⟨g1, 0, none⟩) n xx, .int .i64 wg]) 15 (by kernel_rfl) rfl ?_
        replace hS := hS.out.drew
        have hx9 := hx8.out.drew
        have hz9 := hz8.out.drew
        have hG9 : Gro (World.drew wr) _ 51 3 _ _ := HHa.out
        have hY9 : Gro (World.drew wr) _ 51 3 _ _ := HHb.out
        clear lc kc fc hx8 hz8 HHa HHb hB
        generalize World.drew _ = W at hS hx9 hz9 hG9 hY9 ⊢
        refine rg_take (fuel := 1) [0, 1, 2, 3, 4, 5, 6, 7, 8, 9, 10, 11, 12, 13] (by kernel_rfl) (by intro _ _ _ _ _ h; cases h.1) rfl (by kernel_rfl) (by kernel_rfl) hS ?_
        simp only [pickL, pick1, List.cons_append, List.nil_append]
        (refine wpTake_cons (v := ?_) (Or.inl ⟨by rfl, ?_⟩) ?_; rotate_left; (intro w' hSw; have yc := hSw.c.c; have yd := hSw.d.c; have e0 := ((bcell hSw.b).1 _ (off + k * 3) hb0).trans c0; clear hSw; go_simp; (try with_reducible rfl)); (try simp only [Act.put, List.setIfInBounds_toArray, List.set_cons_zero, List.set_cons_succ]))
        (refine wpTake_cons (v := ?_) (Or.inl ⟨by rfl, ?_⟩) ?_; rotate_left; (intro w' hSw; have yc := hSw.c.c; have yd := hSw.d.c; have e0 := ((bcell hSw.b).1 _ (off + k * 3) hb0).trans c0; clear hSw; go_simp; (try with_reducible rfl)); (try simp only [Act.put, List.setIfInBounds_toArray, List.set_cons_zero, List.set_cons_succ]))
        (refine wpTake_cons (v := ?_) (Or.inl ⟨by rfl, ?_⟩) ?_; rotate_left; (intro w' hSw; have yc := hSw.c.c; have yd := hSw.d.c; have e0 := ((bcell hSw.b).1 _ (off + k * 3) hb0).trans c0; clear hSw; go_simp; (try with_reducible rfl)); (try simp only [Act.put, List.setIfInBounds_toArray, List.set_cons_zero, List.set_cons_succ]))
        (refine wpTake_cons (v := ?_) (Or.inl ⟨by rfl, ?_⟩) ?_; rotate_left; (intro w' hSw; have yc := hSw.c.c; have yd := hSw.d.c; have e0 := ((bcell hSw.b).1 _ (off + k * 3) hb0).trans c0; clear hSw; go_simp; (try with_reducible rfl)); (try simp only [Act.put, List.setIfInBounds_toArray, List.set_cons_zero, List.set_cons_succ]))
        (refine wpTake_cons (v := ?_) (Or.inl ⟨by rfl, ?_⟩) ?_; rotate_left; (intro w' hSw; have yc := hSw.c.c; have yd := hSw.d.c; have e0 := ((bcell hSw.b).1 _ (off + k * 3) hb0).trans c0; clear hSw; go_simp; (try with_reducible rfl)); (try simp only [Act.put, List.setIfInBounds_toArray, List.set_cons_zero, List.set_cons_succ]))
        (refine wpTake_cons (v := ?_) (Or.inl ⟨by rfl, ?_⟩) ?_; rotate_left; (intro w' hSw; have yc := hSw.c.c; have yd := hSw.d.c; have e0 := ((bcell hSw.b).1 _ (off + k * 3) hb0).trans c0; clear hSw; go_simp; (try with_reducible rfl)); (try simp only [Act.put, List.setIfInBounds_toArray, List.set_cons_zero, List.set_cons_succ]))
        (refine wpTake_cons (v := ?_) (Or.inl ⟨by rfl, ?_⟩) ?_; rotate_left; (intro w' hSw; have yc := hSw.c.c; have yd := hSw.d.c; have e0 := ((bcell hSw.b).1 _ (off + k * 3) hb0).trans c0; clear hSw; go_simp; (try with_reducible rfl)); (try simp only [Act.put, List.setIfInBounds_toArray, List.set_cons_zero, List.set_cons_succ]))
        (refine wpTake_cons (v := ?_) (Or.inl ⟨by rfl, ?_⟩) ?_; rotate_left; (intro w' hSw; have yc := hSw.c.c; have yd := hSw.d.c; have e0 := ((bcell hSw.b).1 _ (off + k * 3) hb0).trans c0; clear hSw; go_simp; (try with_reducible rfl)); (try simp only [Act.put, List.setIfInBounds_toArray, List.set_cons_zero, List.set_cons_succ]))
        (refine wpTake_cons (v := ?_) (Or.inl ⟨by rfl, ?_⟩) ?_; rotate_left; (intro w' hSw; have yc := hSw.c.c; have yd := hSw.d.c; have e0 := ((bcell hSw.b).1 _ (off + k * 3) hb0).trans c0; clear hSw; go_simp; (try with_reducible rfl)); (try simp only [Act.put, List.setIfInBounds_toArray, List.set_cons_zero, List.set_cons_succ]))
        (refine wpTake_cons (v := ?_) (Or.inl ⟨by rfl, ?_⟩) ?_; rotate_left; (intro w' hSw; have yc := hSw.c.c; have yd := hSw.d.c; have e0 := ((bcell hSw.b).1 _ (off + k * 3) hb0).trans c0; clear hSw; go_simp; (try with_reducible rfl)); (try simp only [Act.put, List.setIfInBounds_toArray, List.set_cons_zero, List.set_cons_succ]))
        (refine wpTake_cons (v := ?_) (Or.inl ⟨by rfl, ?_⟩) ?_; rotate_left; (intro w' hSw; have yc := hSw.c.c; have yd := hSw.d.c; have e0 := ((bcell hSw.b).1 _ (off + k * 3) hb0).trans c0; clear hSw; go_simp; (try with_reducible rfl)); (try simp only [Act.put, List.setIfInBounds_toArray, List.set_cons_zero, List.set_cons_succ]))
        (refine wpTake_cons (v := ?_) (Or.inl ⟨by rfl, ?_⟩) ?_; rotate_left; (intro w' hSw; have yc := hSw.c.c; have yd := hSw.d.c; have e0 := ((bcell hSw.b).1 _ (off + k * 3) hb0).trans c0; clear hSw; go_simp; (try with_reducible rfl)); (try simp only [Act.put, List.setIfInBounds_toArray, List.set_cons_zero, List.set_cons_succ]))
        (refine wpTake_cons (v := ?_) (Or.inl ⟨by rfl, ?_⟩) ?_; rotate_left; (intro w' hSw; have yc := hSw.c.c; have yd := hSw.d.c; have e0 := ((bcell hSw.b).1 _ (off + k * 3) hb0).trans c0; clear hSw; go_simp; (try with_reducible rfl)); (try simp only [Act.put, List.setIfInBounds_toArray, List.set_cons_zero, List.set_cons_succ]))
        (refine wpTake_cons (v := ?_) (Or.inl ⟨by rfl, ?_⟩) ?_; rotate_left; (intro w' hSw; have yc := hSw.c.c; have yd := hSw.d.c; have e0 := ((bcell hSw.b).1 _ (off + k * 3) hb0).trans c0; clear hSw; go_simp; (try with_reducible rfl)); (try simp only [Act.put, List.setIfInBounds_toArray, List.set_cons_zero, List.set_cons_succ]))
        have hw0 := IntWalk.i64_in (L - q.pos) (by omega)
        (try simp only [hw0])
        clear hw0
        refine wpTake_nil ?_
        refine rg_one (fuel := 0) 14 rfl (by kernel_rfl) (by kernel_rfl) ?_
        simp only [pick1, wpHead]
        intro K' hK
        (first | rw [if_pos (by rfl)] | rw [if_neg (by intro h; cases h)] | skip)
        have z1 : W.cell? ⟨g1, k * 3, none⟩ = _ := Gro.cell hG9 (upRows_at hq.out) (c := 0) (u := .int .i64 q.pos) rfl
        have z3 := fun j => Gro.free hG9 j
        go_simp
        clear z1 z3
        have hG11 := Lib.hid (gro_pos (x := L - q.pos) hG9 hq.out rfl)
        have hY11 := Lib.hid (hY9.setRow (g := g1) (j := k * 3) hYX (.int .i64 (L - q.pos)))
        clear hG9 hY9
        replace hx9 := hx9.setOther (a := ⟨g1, k * 3, none⟩) (show g1 ≠ _ by omega) (.int .i64 (L - q.pos))
        replace hz9 := hz9.setOther (a := ⟨g1, k * 3, none⟩) (show g1 ≠ _ by omega) (.int .i64 (L - q.pos))
        replace hS := hS.set (g := g1) (by omega) (k * 3) (.int .i64 (L - q.pos))
        refine hK.out _ _ hS ?_
        clear hK
        (try simp only [Act.put, List.setIfInBounds_toArray, List.set_cons_zero, List.set_cons_succ])
        refine rg_done (by kernel_rfl) ?_
        refine ⟨rfl, ?_⟩
        generalize World.setCell W _ _ = W1 at hS hx9 hz9 hG11 hY11 ⊢
        clear W
        have hox := Lib.hid hx9
        have hoz := Lib.hid hz9
        have hod := Lib.hid hS.d
        have hoc := hS.c
        have hB := hS.b
        clear hS hx9 hz9
        (try simp only [Exit.then, Exit.inBlock])
        obtain ⟨lc, kc, fc⟩ := hoc
        have hoc := Lib.hid (Own.mk lc kc fc)
        go_wp2
        refine wp_nor ?_
        refine rg_start (OpI w w.heap.size gb [.int .i64 L, .int .i64 sl, .int .i64 rl, .int .i64 rh, .slice (some ⟨b0, off, none⟩) n cap, .int .i64 wg] [.int .i64 L, .int .i64 sl, .int .i64 (-rh), .int .i64 (-rl), .slice (some ⟨g2, 0, none⟩) n yy, .int .i64 wg]) 13 (by kernel_rfl) rfl ?_
        have hS : OpI w w.heap.size gb [.int .i64 L, .int .i64 sl, .int .i64 rl, .int .i64 rh, .slice (some ⟨b0, off, none⟩) n cap, .int .i64 wg] [.int .i64 L, .int .i64 sl, .int .i64 (-rh), .int .i64 (-rl), .slice (some ⟨g2, 0, none⟩) n yy, .int .i64 wg] (World.drew W1) := ⟨hoc.out.drew, hoz.out.drew, hB.drew⟩
        have hx9 := hox.out.drew
        have hd9 := hod.out.drew
        have hG9 : Gro (World.drew W1) _ 51 3 _ _ := hG11.out
        have hY9 : Gro (World.drew W1) _ 51 3 _ _ := hY11.out
        clear lc kc fc hox hod hoc hoz hG11 hY11 hB
        generalize World.drew _ = W at hS hx9 hd9 hG9 hY9 ⊢
        refine rg_take (fuel := 4) [0, 1, 2, 3, 4, 5, 6, 7, 8] (by kernel_rfl) (by intro _ _ _ _ _ h; cases h.1) rfl (by kernel_rfl) (by kernel_rfl) hS ?_
        simp only [pickL, pick1, List.cons_append, List.nil_append]
        (refine wpTake_cons (v := ?_) (Or.inl ⟨by rfl, ?_⟩) ?_; rotate_left; (intro w' hSw; have yc := hSw.c.c; have yd := hSw.d.c; have e1 := ((bcell hSw.b).1 _ (off + k * 3 + 1) hb0).trans c1; have e2 := ((bcell hSw.b).1 _ (off + k * 3 + 2) hb0).trans c2; clear hSw; go_simp; (try with_reducible rfl)); (try simp only [Act.put, List.setIfInBounds_toArray, List.set_cons_zero, List.set_cons_succ]))
        (refine wpTake_cons (v := ?_) (Or.inl ⟨by rfl, ?_⟩) ?_; rotate_left; (intro w' hSw; have yc := hSw.c.c; have yd := hSw.d.c; have e1 := ((bcell hSw.b).1 _ (off + k * 3 + 1) hb0).trans c1; have e2 := ((bcell hSw.b).1 _ (off + k * 3 + 2) hb0).trans c2; clear hSw; go_simp; (try with_reducible rfl)); (try simp only [Act.put, List.setIfInBounds_toArray, List.set_cons_zero, List.set_cons_succ]))
        (refine wpTake_cons (v := ?_) (Or.inl ⟨by rfl, ?_⟩) ?_; rotate_left; (intro w' hSw; have yc := hSw.c.c; have yd := hSw.d.c; have e1 := ((bcell hSw.b).1 _ (off + k * 3 + 1) hb0).trans c1; have e2 := ((bcell hSw.b).1 _ (off + k * 3 + 2) hb0).trans c2; clear hSw; go_simp; (try with_reducible rfl)); (try simp only [Act.put, List.setIfInBounds_toArray, List.set_cons_zero, List.set_cons_succ]))
        (refine wpTake_cons (v := ?_) (Or.inl ⟨by rfl, ?_⟩) ?_; rotate_left; (intro w' hSw; have yc := hSw.c.c; have yd := hSw.d.c; have e1 := ((bcell hSw.b).1 _ (off + k * 3 + 1) hb0).trans c1; have e2 := ((bcell hSw.b).1 _ (off + k * 3 + 2) hb0).trans c2; clear hSw; go_simp; (try with_reducible rfl)); (try simp only [Act.put, List.setIfInBounds_toArray, List.set_cons_zero, List.set_cons_succ]))
        (refine wpTake_cons (v := ?_) (Or.inl ⟨by rfl, ?_⟩) ?_; rotate_left; (intro w' hSw; have yc := hSw.c.c; have yd := hSw.d.c; have e1 := ((bcell hSw.b).1 _ (off + k * 3 + 1) hb0).trans c1; have e2 := ((bcell hSw.b).1 _ (off + k * 3 + 2) hb0).trans c2; clear hSw; go_simp; (try with_reducible rfl)); (try simp only [Act.put, List.setIfInBounds_toArray, List.set_cons_zero, List.set_cons_succ]))
        (refine wpTake_cons (v := ?_) (Or.inl ⟨by rfl, ?_⟩) ?_; rotate_left; (intro w' hSw; have yc := hSw.c.c; have yd := hSw.d.c; have e1 := ((bcell hSw.b).1 _ (off + k * 3 + 1) hb0).trans c1; have e2 := ((bcell hSw.b).1 _ (off + k * 3 + 2) hb0).trans c2; clear hSw; go_simp; (try with_reducible rfl)); (try simp only [Act.put, List.setIfInBounds_toArray, List.set_cons_zero, List.set_cons_succ]))
        (refine wpTake_cons (v := ?_) (Or.inl ⟨by rfl, ?_⟩) ?_; rotate_left; (intro w' hSw; have yc := hSw.c.c; have yd := hSw.d.c; have e1 := ((bcell hSw.b).1 _ (off + k * 3 + 1) hb0).trans c1; have e2 := ((bcell hSw.b).1 _ (off + k * 3 + 2) hb0).trans c2; clear hSw; go_simp; (try with_reducible rfl)); (try simp only [Act.put, List.setIfInBounds_toArray, List.set_cons_zero, List.set_cons_succ]))
        (refine wpTake_cons (v := ?_) (Or.inl ⟨by rfl, ?_⟩) ?_; rotate_left; (intro w' hSw; have yc := hSw.c.c; have yd := hSw.d.c; have e1 := ((bcell hSw.b).1 _ (off + k * 3 + 1) hb0).trans c1; have e2 := ((bcell hSw.b).1 _ (off + k * 3 + 2) hb0).trans c2; clear hSw; go_simp; (try with_reducible rfl)); (try simp only [Act.put, List.setIfInBounds_toArray, List.set_cons_zero, List.set_cons_succ]))
        (refine wpTake_cons (v := ?_) (Or.inl ⟨by rfl, ?_⟩) ?_; rotate_left; (intro w' hSw; have yc := hSw.c.c; have yd := hSw.d.c; have e1 := ((bcell hSw.b).1 _ (off + k * 3 + 1) hb0).trans c1; have e2 := ((bcell hSw.b).1 _ (off + k * 3 + 2) hb0).trans c2; clear hSw; go_simp; (try with_reducible rfl)); (try simp only [Act.put, List.setIfInBounds_toArray, List.set_cons_zero, List.set_cons_succ]))
        refine wpTake_nil ?_
        refine rg_one (fuel := 3) 9 rfl (by kernel_rfl) (by kernel_rfl) ?_
        simp only [pick1, wpHead]
        intro K' hK
        (first | rw [if_pos (by rfl)] | rw [if_neg (by intro h; cases h)] | skip)
        go_simp
        refine (minus33 q.lo q.hi _ (by omega) (by omega)).mono ?_
        rintro e W' ⟨rfl, hb⟩
        go_simp
        replace hx9 := hx9.below hb hx9.lt
        replace hd9 := hd9.below hb hd9.lt
        replace hG9 := hG9.below hb (Nat.le_refl _)
        replace hY9 := hY9.below hb (Nat.le_refl _)
        replace hS := hS.below hb
        refine hK.out _ _ hS ?_
        clear hK hb
        (try simp only [Act.put, List.setIfInBounds_toArray, List.set_cons_zero, List.set_cons_succ])
        refine rg_take (fuel := 1) [10, 11] (by kernel_rfl) (by intro _ _ _ _ _ h; cases h.1) rfl (by kernel_rfl) (by kernel_rfl) hS ?_
        simp only [pickL, pick1, List.cons_append, List.nil_append]
        (refine wpTake_cons (v := ?_) (Or.inl ⟨by rfl, ?_⟩) ?_; rotate_left; (intro w' hSw; have yc := hSw.c.c; have yd := hSw.d.c; have e1 := ((bcell hSw.b).1 _ (off + k * 3 + 1) hb0).trans c1; have e2 := ((bcell hSw.b).1 _ (off + k * 3 + 2) hb0).trans c2; clear hSw; go_simp; (try with_reducible rfl)); (try simp only [Act.put, List.setIfInBounds_toArray, List.set_cons_zero, List.set_cons_succ]))
        (refine wpTake_cons (v := ?_) (Or.inl ⟨by rfl, ?_⟩) ?_; rotate_left; (intro w' hSw; have yc := hSw.c.c; have yd := hSw.d.c; have e1 := ((bcell hSw.b).1 _ (off + k * 3 + 1) hb0).trans c1; have e2 := ((bcell hSw.b).1 _ (off + k * 3 + 2) hb0).trans c2; clear hSw; go_simp; (try with_reducible rfl)); (try simp only [Act.put, List.setIfInBounds_toArray, List.set_cons_zero, List.set_cons_succ]))
        refine wpTake_nil ?_
        refine rg_one (fuel := 0) 12 rfl (by kernel_rfl) (by kernel_rfl) ?_
        simp only [pick1, wpHead]
        intro K' hK
        (first | rw [if_pos (by rfl)] | rw [if_neg (by intro h; cases h)] | skip)
        have z1 := Gro.cell hY9 (upRows_at hq.out) (c := 1) (u := .int .i64 q.lo) rfl
        have z2 := Gro.cell hY9 (upRows_at hq.out) (c := 2) (u := .int .i64 q.hi) rfl
        have z3 := fun j => Gro.free hY9 j
        go_simp
        clear z1 z2 z3
        have hY11 := Lib.hid (gro_hts (x := -q.hi) (y := -q.lo) hY9 hq.out rfl)
        have hG11 := Lib.hid ((hG9.setRow (g := g2) (j := k * 3 + 1) hXY (.int .i64 (-q.hi))).setRow (g := g2) (j := k * 3 + 1 + 1) hXY (.int .i64 (-q.lo)))
        clear hG9 hY9
        replace hx9 := (hx9.setOther (a := ⟨g2, k * 3 + 1, none⟩) (show g2 ≠ _ by omega) (.int .i64 (-q.hi))).setOther (a := ⟨g2, k * 3 + 1 + 1, none⟩) (show g2 ≠ _ by omega) (.int .i64 (-q.lo))
        replace hd9 := (hd9.setOther (a := ⟨g2, k * 3 + 1, none⟩) (show g2 ≠ _ by omega) (.int .i64 (-q.hi))).setOther (a := ⟨g2, k * 3 + 1 + 1, none⟩) (show g2 ≠ _ by omega) (.int .i64 (-q.lo))
        replace hS := (hS.set (g := g2) (by omega) (k * 3 + 1) (.int .i64 (-q.hi))).set (g := g2) (by omega) (k * 3 + 1 + 1) (.int .i64 (-q.lo))
        refine hK.out _ _ hS ?_
        clear hK
        (try simp only [Act.put, List.setIfInBounds_toArray, List.set_cons_zero, List.set_cons_succ])
        refine rg_done (by kernel_rfl) ?_
        refine ⟨rfl, ?_⟩
        (try simp only [Exit.then, Exit.inBlock])
        go_wp2
        go_roundg (ks.length - (k + 1))
        case measure => omega
        case rel => exact ⟨k + 1, by omega, by go_num, hS.c, hx9, hd9, hS.d, hG11, hY11, hS.b⟩
      · obtain rfl : k = ks.length := by omega
        rw [upRows_all] at hGa hGb
        obtain ⟨HOb, hnb⟩ : Hid (Rd 3 wr X ((ks.map (bkk L)).map krow)) ∧ Hid (n = (ks.map (bkk L)).length) := ⟨(by obtain ⟨_, _, e, h⟩ := hGa.out.out; cases e; exact Lib.hid h), Lib.hid (by rw [List.length_map]; exact hn')⟩
        obtain ⟨HOn, hnn⟩ : Hid (Rd 3 wr Y ((ks.map ngk).map krow)) ∧ Hid (n = (ks.map ngk).length) := ⟨(by obtain ⟨_, _, e, h⟩ := hGb.out.out; cases e; exact Lib.hid h), Lib.hid (by rw [List.length_map]; exact hn')⟩
        have hAX : Hid (∀ b off, X = Option.some ⟨b, off, none⟩ → b < wr.heap.size) := Lib.hid fun b off e => (ownsRow_lt hGa.out b (by rw [e]; rfl)).2
        have hAY : Hid (∀ b off, Y = Option.some ⟨b, off, none⟩ → b < wr.heap.size) := Lib.hid fun b off e => (ownsRow_lt hGb.out b (by rw [e]; rfl)).2
        have qc := Lib.hid hoc
        have qx := Lib.hid hox
        have qd := Lib.hid hod
        have qz := Lib.hid hoz
        have y0 : decide ((ks.length : Int) < (n : Int)) = false := decide_eq_false (by omega)
        have y9 : n ≤ ks.length := by omega
        have y8 : (n : Int) ≤ (ks.length : Int) := by omega
        clear hGa hGb hoc hox hod hoz hn' hlt hK hXk hYk
        obtain ⟨lc, kc, fc⟩ := qc.out
        obtain ⟨lx, kx, fx⟩ := qx.out
        obtain ⟨ld, kd, fd⟩ := qd.out
        obtain ⟨lz, kz, fz⟩ := qz.out
        go_wp2_with fail
        refine calls_gen fun W51 hW => ?_
        have hB1 : Below w.heap.size w W51 := by rw [hW]; (repeat' (first | (with_reducible exact Below.refl _ _) | (with_reducible assumption) | (with_reducible refine Below.drew ?_) | (with_reducible refine below_drewN ?_ _) | (with_reducible refine Below.setCell ?_ ?_ _) | (with_reducible refine Below.alloc ?_ ?_ _) | (refine Below.trans ?_ (Below.mono (by with_reducible assumption) ?_)) | omega | (exact Below.size (by with_reducible assumption)) | (simp; done) | (simp; omega)))
        have hBV : Below wr.heap.size wr W51 := by rw [hW]; (repeat' (first | (with_reducible exact Below.refl _ _) | (with_reducible assumption) | (with_reducible refine Below.drew ?_) | (with_reducible refine below_drewN ?_ _) | (with_reducible refine Below.setCell ?_ ?_ _) | (with_reducible refine Below.alloc ?_ ?_ _) | (refine Below.trans ?_ (Below.mono (by with_reducible assumption) ?_)) | omega | (exact Below.size (by with_reducible assumption)) | (simp; done) | (simp; omega)))
        have hsz := hBV.size
        have HOb1 := Lib.hid (HOb.out.below hBV (Nat.le_refl _))
        have HOn1 := Lib.hid (HOn.out.below hBV (Nat.le_refl _))
        have pc : Own W51 (w.heap.size) [.int .i64 L, .int .i64 sl, .int .i64 rl, .int .i64 rh, .slice A n cap, .int .i64 wg] := by rw [hW]; exact qc.out
        have px : Own W51 (w.heap.size + 1) [.int .i64 a, .int .i64 b, .int .i64 lv] := by rw [hW]; exact qx.out
        have pd : Own W51 (ga) [.int .i64 L, .int .i64 sl, .int .i64 rl, .int .i64 rh, .slice X n xx, .int .i64 wg] := by rw [hW]; exact qd.out
        have pz : Own W51 (gb) [.int .i64 L, .int .i64 sl, .int .i64 (-rh), .int .i64 (-rl), .slice Y n yy, .int .i64 wg] := by rw [hW]; exact qz.out
        try clear hBV
        try clear hB
        clear hW lc kc fc qc lx kx fx qx ld kd fd qd lz kz fz qz HOb HOn
        refine (height31 L sl rl rh wg A n cap ks a _ (HA.out.below hB1 (Nat.le_refl _)) hn hlen).mono ?_
        rintro e V51 ⟨lo1, hi1, er1, rfl, hR1, hb⟩
        obtain ⟨z1, b11, b12, b13⟩ := mi_ht1 HC.out HE.out ha0 (by omega) hR1.out
        obtain rfl := z1.symm
        clear z1
        have g0 := Nat.le_trans hsz hb.size
        have g1 := Nat.lt_of_lt_of_le px.lt hb.size
        have g2 := Nat.lt_of_lt_of_le pd.lt hb.size
        have g3 := Nat.lt_of_lt_of_le pz.lt hb.size
        have hB := hB1.trans (hb.mono hB1.size)
        have HOb := Lib.hid (HOb1.out.below hb (Nat.le_refl _))
        have HOn := Lib.hid (HOn1.out.below hb (Nat.le_refl _))
        have qc := Lib.hid (pc.below hb pc.lt)
        have qx := Lib.hid (px.below hb px.lt)
        have qd := Lib.hid (pd.below hb pd.lt)
        have qz := Lib.hid (pz.below hb pz.lt)
        try clear hsz
        clear hb hB1 pc px pd pz HOb1 HOn1
        obtain ⟨lc, kc, fc⟩ := qc.out
        obtain ⟨lx, kx, fx⟩ := qx.out
        obtain ⟨ld, kd, fd⟩ := qd.out
        obtain ⟨lz, kz, fz⟩ := qz.out
        go_wp2_with fail
        refine calls_gen fun W52 hW => ?_
        have hB1 : Below w.heap.size w W52 := by rw [hW]; (repeat' (first | (with_reducible exact Below.refl _ _) | (with_reducible assumption) | (with_reducible refine Below.drew ?_) | (with_reducible refine below_drewN ?_ _) | (with_reducible refine Below.setCell ?_ ?_ _) | (with_reducible refine Below.alloc ?_ ?_ _) | (refine Below.trans ?_ (Below.mono (by with_reducible assumption) ?_)) | omega | (exact Below.size (by with_reducible assumption)) | (simp; done) | (simp; omega)))
        have hBV : Below V51.heap.size V51 W52 := by rw [hW]; (repeat' (first | (with_reducible exact Below.refl _ _) | (with_reducible assumption) | (with_reducible refine Below.drew ?_) | (with_reducible refine below_drewN ?_ _) | (with_reducible refine Below.setCell ?_ ?_ _) | (with_reducible refine Below.alloc ?_ ?_ _) | (refine Below.trans ?_ (Below.mono (by with_reducible assumption) ?_)) | omega | (exact Below.size (by with_reducible assumption)) | (simp; done) | (simp; omega)))
        have hsz := hBV.size
        have HOb1 := Lib.hid (HOb.out.below hBV (Nat.le_refl _))
        have HOn1 := Lib.hid (HOn.out.below hBV (Nat.le_refl _))
        have pc : Own W52 (w.heap.size) [.int .i64 L, .int .i64 sl, .int .i64 rl, .int .i64 rh, .slice A n cap, .int .i64 wg] := by rw [hW]; exact (qc.out.alloc _)
        have px : Own W52 (w.heap.size + 1) [.int .i64 a, .int .i64 b, .int .i64 lv] := by rw [hW]; exact (qx.out.alloc _)
        have pd : Own W52 (ga) [.int .i64 L, .int .i64 sl, .int .i64 rl, .int .i64 rh, .slice X n xx, .int .i64 wg] := by rw [hW]; exact (qd.out.alloc _)
        have pz : Own W52 (gb) [.int .i64 L, .int .i64 sl, .int .i64 (-rh), .int .i64 (-rl), .slice Y n yy, .int .i64 wg] := by rw [hW]; exact (qz.out.alloc _)
        have ps1 : Own W52 (V51.heap.size) [.int .i64 lo1, .int .i64 hi1] := by rw [hW]; exact Own.new' _ _ rfl rfl
        try clear hBV
        try clear hB
        clear hW lc kc fc qc lx kx fx qx ld kd fd qd lz kz fz qz HOb HOn
        refine (height31 L sl rl rh wg X n xx (ks.map (bkk L)) (L - a) _ HOb1.out hnb hlen).mono ?_
        rintro e V52 ⟨lo2, hi2, er2, rfl, hR2, hb⟩
        obtain ⟨z1, z2, z3⟩ := mi_ht2 HC.out HE.out ha0 (by omega) hR1.out hR2.out
        obtain rfl := z1.symm
        obtain rfl := z2.symm
        obtain rfl := z3.symm
        clear z1 z2 z3 hR2
        have g4 := Nat.lt_of_lt_of_le ps1.lt hb.size
        have hB := hB1.trans (hb.mono hB1.size)
        have HOb := Lib.hid (HOb1.out.below hb (Nat.le_refl _))
        have HOn := Lib.hid (HOn1.out.below hb (Nat.le_refl _))
        have qc := Lib.hid (pc.below hb pc.lt)
        have qx := Lib.hid (px.below hb px.lt)
        have qd := Lib.hid (pd.below hb pd.lt)
        have qz := Lib.hid (pz.below hb pz.lt)
        have qs1 := Lib.hid (ps1.below hb ps1.lt)
        try clear hsz
        clear hb hB1 pc px pd pz ps1 HOb1 HOn1
        obtain ⟨lc, kc, fc⟩ := qc.out
        obtain ⟨lx, kx, fx⟩ := qx.out
        obtain ⟨ld, kd, fd⟩ := qd.out
        obtain ⟨lz, kz, fz⟩ := qz.out
        obtain ⟨ls1, ks1, fs1⟩ := qs1.out
        go_wp2_with fail
        refine calls_gen fun W53 hW => ?_
        have hB1 : Below w.heap.size w W53 := by rw [hW]; (repeat' (first | (with_reducible exact Below.refl _ _) | (with_reducible assumption) | (with_reducible refine Below.drew ?_) | (with_reducible refine below_drewN ?_ _) | (with_reducible refine Below.setCell ?_ ?_ _) | (with_reducible refine Below.alloc ?_ ?_ _) | (refine Below.trans ?_ (Below.mono (by with_reducible assumption) ?_)) | omega | (exact Below.size (by with_reducible assumption)) | (simp; done) | (simp; omega)))
        have hBV : Below V52.heap.size V52 W53 := by rw [hW]; (repeat' (first | (with_reducible exact Below.refl _ _) | (with_reducible assumption) | (with_reducible refine Below.drew ?_) | (with_reducible refine below_drewN ?_ _) | (with_reducible refine Below.setCell ?_ ?_ _) | (with_reducible refine Below.alloc ?_ ?_ _) | (refine Below.trans ?_ (Below.mono (by with_reducible assumption) ?_)) | omega | (exact Below.size (by with_reducible assumption)) | (simp; done) | (simp; omega)))
        have hsz := hBV.size
        have HOb1 := Lib.hid (HOb.out.below hBV (Nat.le_refl _))
        have HOn1 := Lib.hid (HOn.out.below hBV (Nat.le_refl _))
        have pc : Own W53 (w.heap.size) [.int .i64 L, .int .i64 sl, .int .i64 rl, .int .i64 rh, .slice A n cap, .int .i64 wg] := by rw [hW]; exact (qc.out.alloc _)
        have px : Own W53 (w.heap.size + 1) [.int .i64 a, .int .i64 b, .int .i64 lv] := by rw [hW]; exact (qx.out.alloc _)
        have pd : Own W53 (ga) [.int .i64 L, .int .i64 sl, .int .i64 rl, .int .i64 rh, .slice X n xx, .int .i64 wg] := by rw [hW]; exact (qd.out.alloc _)
        have pz : Own W53 (gb) [.int .i64 L, .int .i64 sl, .int .i64 (-rh), .int .i64 (-rl), .slice Y n yy, .int .i64 wg] := by rw [hW]; exact (qz.out.alloc _)
        have ps1 : Own W53 (V51.heap.size) [.int .i64 lo1, .int .i64 hi1] := by rw [hW]; exact (qs1.out.alloc _)
        have pt1 : Own W53 (V52.heap.size) [.int .i64 lo1, .int .i64 hi1] := by rw [hW]; exact Own.new' _ _ rfl rfl
        try clear hBV
        try clear hB
        clear hW lc kc fc qc lx kx fx qx ld kd fd qd lz kz fz qz ls1 ks1 fs1 qs1 HOb HOn
        refine (height31 L sl (-rh) (-rl) wg Y n yy (ks.map ngk) a _ HOn1.out hnn hlen).mono ?_
        rintro e V53 ⟨lo3, hi3, er3, rfl, hR3, hb⟩
        obtain ⟨z1, rfl, rfl⟩ := mi_ht3 HC.out HE.out ha0 (by omega) hR1.out hR3.out
        obtain rfl := z1.symm
        clear z1 hR3 hR1
        have g5 := Nat.lt_of_lt_of_le pt1.lt hb.size
        have hB := hB1.trans (hb.mono hB1.size)
        have HOb := Lib.hid (HOb1.out.below hb (Nat.le_refl _))
        have HOn := Lib.hid (HOn1.out.below hb (Nat.le_refl _))
        have qc := Lib.hid (pc.below hb pc.lt)
        have qx := Lib.hid (px.below hb px.lt)
        have qd := Lib.hid (pd.below hb pd.lt)
        have qz := Lib.hid (pz.below hb pz.lt)
        have qs1 := Lib.hid (ps1.below hb ps1.lt)
        have qt1 := Lib.hid (pt1.below hb pt1.lt)
        try clear hsz
        clear hb hB1 pc px pd pz ps1 pt1 HOb1 HOn1
        obtain ⟨lc, kc, fc⟩ := qc.out
        obtain ⟨lx, kx, fx⟩ := qx.out
        obtain ⟨ld, kd, fd⟩ := qd.out
        obtain ⟨lz, kz, fz⟩ := qz.out
        obtain ⟨ls1, ks1, fs1⟩ := qs1.out
        obtain ⟨lt1, kt1, ft1⟩ := qt1.out
        -- REGION13
        go_wp2
        refine wp_gen fun R54 hW => ?_
        have hB1 : Below w.heap.size w R54 := by rw [hW]; (repeat' (first | (with_reducible exact Below.refl _ _) | (with_reducible assumption) | (with_reducible refine Below.drew ?_) | (with_reducible refine below_drewN ?_ _) | (with_reducible refine Below.setCell ?_ ?_ _) | (with_reducible refine Below.alloc ?_ ?_ _) | (refine Below.trans ?_ (Below.mono (by with_reducible assumption) ?_)) | omega | (exact Below.size (by with_reducible assumption)) | (simp; done) | (simp; omega)))
        have hBV : Below V53.heap.size V53 R54 := by rw [hW]; (repeat' (first | (with_reducible exact Below.refl _ _) | (with_reducible assumption) | (with_reducible refine Below.drew ?_) | (with_reducible refine below_drewN ?_ _) | (with_reducible refine Below.setCell ?_ ?_ _) | (with_reducible refine Below.alloc ?_ ?_ _) | (refine Below.trans ?_ (Below.mono (by with_reducible assumption) ?_)) | omega | (exact Below.size (by with_reducible assumption)) | (simp; done) | (simp; omega)))
        have hsz := hBV.size
        have HOb1 := Lib.hid (HOb.out.below hBV (Nat.le_refl _))
        have HOn1 := Lib.hid (HOn.out.below hBV (Nat.le_refl _))
        have pc : Own R54 (w.heap.size) [.int .i64 L, .int .i64 sl, .int .i64 rl, .int .i64 rh, .slice A n cap, .int .i64 wg] := by rw [hW]; exact (qc.out.alloc _)
        have px : Own R54 (w.heap.size + 1) [.int .i64 a, .int .i64 b, .int .i64 lv] := by rw [hW]; exact (qx.out.alloc _)
        have pd : Own R54 (ga) [.int .i64 L, .int .i64 sl, .int .i64 rl, .int .i64 rh, .slice X n xx, .int .i64 wg] := by rw [hW]; exact (qd.out.alloc _)
        have pz : Own R54 (gb) [.int .i64 L, .int .i64 sl, .int .i64 (-rh), .int .i64 (-rl), .slice Y n yy, .int .i64 wg] := by rw [hW]; exact (qz.out.alloc _)
        have ps1 : Own R54 (V51.heap.size) [.int .i64 lo1, .int .i64 hi1] := by rw [hW]; exact (qs1.out.alloc _)
        have pt1 : Own R54 (V52.heap.size) [.int .i64 lo1, .int .i64 hi1] := by rw [hW]; exact (qt1.out.alloc _)
        have pu1 : Own R54 (V53.heap.size) [.int .i64 (-hi1), .int .i64 (-lo1)] := by rw [hW]; exact Own.new' _ _ rfl rfl
        try clear hBV
        try clear hB
        clear hW lc kc fc qc lx kx fx qx ld kd fd qd lz kz fz qz ls1 ks1 fs1 qs1 lt1 kt1 ft1 qt1 HOb HOn
        have hxc := Aft.cell (W := R54) pc
        obtain ⟨lc, kc, fc⟩ := pc
        have pc := Own.mk lc kc fc
        have hxx := Aft.cell (W := R54) px
        obtain ⟨lx, kx, fx⟩ := px
        have px := Own.mk lx kx fx
        have hxd := Aft.cell (W := R54) pd
        obtain ⟨ld, kd, fd⟩ := pd
        have pd := Own.mk ld kd fd
        have hxz := Aft.cell (W := R54) pz
        obtain ⟨lz, kz, fz⟩ := pz
        have pz := Own.mk lz kz fz
        have hxs1 := Aft.cell (W := R54) ps1
        obtain ⟨ls1, ks1, fs1⟩ := ps1
        have ps1 := Own.mk ls1 ks1 fs1
        have hxt1 := Aft.cell (W := R54) pt1
        obtain ⟨lt1, kt1, ft1⟩ := pt1
        have pt1 := Own.mk lt1 kt1 ft1
        have hxu1 := Aft.cell (W := R54) pu1
        obtain ⟨lu1, ku1, fu1⟩ := pu1
        have pu1 := Own.mk lu1 ku1 fu1
        refine wp_region_aft (by kernel_rfl) (by kernel_rfl) ?_; (repeat (go_big_quiet_step ((first | (go_at_call 22; refine aft_of (hk22 _)) | (go_at_call 33; refine aft_of (minus33 _ _ _ ?_ ?_) <;> omega) | (go_at_call 13; refine aft_of (works13 _)))))); refine wpQuiet_nil ?_; rintro w13 ⟨⟨_, hb13⟩, rfl⟩
        clear hxc lc kc fc
        clear hxx lx kx fx
        clear hxd ld kd fd
        clear hxz lz kz fz
        clear hxs1 ls1 ks1 fs1
        clear hxt1 lt1 kt1 ft1
        clear hxu1 lu1 ku1 fu1
        have hB := hB1.trans (hb13.mono hB1.size)
        have HOb := Lib.hid (HOb1.out.below hb13 (Nat.le_refl _))
        have HOn := Lib.hid (HOn1.out.below hb13 (Nat.le_refl _))
        have qc := Lib.hid (pc.below hb13 pc.lt)
        have qx := Lib.hid (px.below hb13 px.lt)
        have qd := Lib.hid (pd.below hb13 pd.lt)
        have qz := Lib.hid (pz.below hb13 pz.lt)
        have qs1 := Lib.hid (ps1.below hb13 ps1.lt)
        have qt1 := Lib.hid (pt1.below hb13 pt1.lt)
        have qu1 := Lib.hid (pu1.below hb13 pu1.lt)
        try clear hsz
        clear hb13 hB1 pc px pd pz ps1 pt1 pu1 HOb1 HOn1
        obtain ⟨lc, kc, fc⟩ := qc.out
        obtain ⟨lx, kx, fx⟩ := qx.out
        obtain ⟨ld, kd, fd⟩ := qd.out
        obtain ⟨lz, kz, fz⟩ := qz.out
        obtain ⟨ls1, ks1, fs1⟩ := qs1.out
        obtain ⟨lt1, kt1, ft1⟩ := qt1.out
        obtain ⟨lu1, ku1, fu1⟩ := qu1.out
        go_wp2_with fail
        refine calls_gen fun W55 hW => ?_
        have hB1 : Below w.heap.size w W55 := by rw [hW]; (repeat' (first | (with_reducible exact Below.refl _ _) | (with_reducible assumption) | (with_reducible refine Below.drew ?_) | (with_reducible refine below_drewN ?_ _) | (with_reducible refine Below.setCell ?_ ?_ _) | (with_reducible refine Below.alloc ?_ ?_ _) | (refine Below.trans ?_ (Below.mono (by with_reducible assumption) ?_)) | omega | (exact Below.size (by with_reducible assumption)) | (simp; done) | (simp; omega)))
        have hBV : Below w13.heap.size w13 W55 := by rw [hW]; (repeat' (first | (with_reducible exact Below.refl _ _) | (with_reducible assumption) | (with_reducible refine Below.drew ?_) | (with_reducible refine below_drewN ?_ _) | (with_reducible refine Below.setCell ?_ ?_ _) | (with_reducible refine Below.alloc ?_ ?_ _) | (refine Below.trans ?_ (Below.mono (by with_reducible assumption) ?_)) | omega | (exact Below.size (by with_reducible assumption)) | (simp; done) | (simp; omega)))
        have hsz := hBV.size
        have HOb1 := Lib.hid (HOb.out.below hBV (Nat.le_refl _))
        have HOn1 := Lib.hid (HOn.out.below hBV (Nat.le_refl _))
        have pc : Own W55 (w.heap.size) [.int .i64 L, .int .i64 sl, .int .i64 rl, .int .i64 rh, .slice A n cap, .int .i64 wg] := by rw [hW]; exact qc.out
        have px : Own W55 (w.heap.size + 1) [.int .i64 a, .int .i64 b, .int .i64 lv] := by rw [hW]; exact qx.out
        have pd : Own W55 (ga) [.int .i64 L, .int .i64 sl, .int .i64 rl, .int .i64 rh, .slice X n xx, .int .i64 wg] := by rw [hW]; exact qd.out
        have pz : Own W55 (gb) [.int .i64 L, .int .i64 sl, .int .i64 (-rh), .int .i64 (-rl), .slice Y n yy, .int .i64 wg] := by rw [hW]; exact qz.out
        have ps1 : Own W55 (V51.heap.size) [.int .i64 lo1, .int .i64 hi1] := by rw [hW]; exact qs1.out
        have pt1 : Own W55 (V52.heap.size) [.int .i64 lo1, .int .i64 hi1] := by rw [hW]; exact qt1.out
        have pu1 : Own W55 (V53.heap.size) [.int .i64 (-hi1), .int .i64 (-lo1)] := by rw [hW]; exact qu1.out
        try clear hBV
        try clear hB
        clear hW lc kc fc qc lx kx fx qx ld kd fd qd lz kz fz qz ls1 ks1 fs1 qs1 lt1 kt1 ft1 qt1 lu1 ku1 fu1 qu1 HOb HOn
        refine (integral20 L sl rl rh wg A n cap ks a b _ (HA.out.below hB1 (Nat.le_refl _)) hn hlen).mono ?_
        rintro e V55 ⟨lo4, hi4, er4, rfl, hR4, hb⟩
        obtain ⟨z1, b21, b22, b23⟩ := mi_in1 HC.out HE.out ha0 hab hbL hR4.out
        obtain rfl := z1.symm
        clear z1
        have hB := hB1.trans (hb.mono hB1.size)
        have HOb := Lib.hid (HOb1.out.below hb (Nat.le_refl _))
        have HOn := Lib.hid (HOn1.out.below hb (Nat.le_refl _))
        have qc := Lib.hid (pc.below hb pc.lt)
        have qx := Lib.hid (px.below hb px.lt)
        have qd := Lib.hid (pd.below hb pd.lt)
        have qz := Lib.hid (pz.below hb pz.lt)
        have qs1 := Lib.hid (ps1.below hb ps1.lt)
        have qt1 := Lib.hid (pt1.below hb pt1.lt)
        have qu1 := Lib.hid (pu1.below hb pu1.lt)
        try clear hsz
        clear hb hB1 pc px pd pz ps1 pt1 pu1 HOb1 HOn1
        obtain ⟨lc, kc, fc⟩ := qc.out
        obtain ⟨lx, kx, fx⟩ := qx.out
        obtain ⟨ld, kd, fd⟩ := qd.out
        obtain ⟨lz, kz, fz⟩ := qz.out
        obtain ⟨ls1, ks1, fs1⟩ := qs1.out
        obtain ⟨lt1, kt1, ft1⟩ := qt1.out
        obtain ⟨lu1, ku1, fu1⟩ := qu1.out
        go_wp2_with fail
        refine calls_gen fun W56 hW => ?_
        have hB1 : Below w.heap.size w W56 := by rw [hW]; exact (hB.setCell (by show w.heap.size ≤ V51.heap.size; omega) _).setCell (by show w.heap.size ≤ V51.heap.size; omega) _
        have HOb1 := Lib.hid (show Rd 3 W56 X ((ks.map (bkk L)).map krow) by rw [hW]; exact (HOb.out.setCell (fun b off e => by have := hAX.out b off e; show V51.heap.size ≠ b; omega) _).setCell (fun b off e => by have := hAX.out b off e; show V51.heap.size ≠ b; omega) _)
        have HOn1 := Lib.hid (show Rd 3 W56 Y ((ks.map ngk).map krow) by rw [hW]; exact (HOn.out.setCell (fun b off e => by have := hAY.out b off e; show V51.heap.size ≠ b; omega) _).setCell (fun b off e => by have := hAY.out b off e; show V51.heap.size ≠ b; omega) _)
        have pc : Own W56 (w.heap.size) [.int .i64 L, .int .i64 sl, .int .i64 rl, .int .i64 rh, .slice A n cap, .int .i64 wg] := by rw [hW]; exact (qc.out.setOther (by show V51.heap.size ≠ w.heap.size; omega) _).setOther (by show V51.heap.size ≠ w.heap.size; omega) _
        have px : Own W56 (w.heap.size + 1) [.int .i64 a, .int .i64 b, .int .i64 lv] := by rw [hW]; exact (qx.out.setOther (by show V51.heap.size ≠ w.heap.size + 1; omega) _).setOther (by show V51.heap.size ≠ w.heap.size + 1; omega) _
        have pd : Own W56 (ga) [.int .i64 L, .int .i64 sl, .int .i64 rl, .int .i64 rh, .slice X n xx, .int .i64 wg] := by rw [hW]; exact (qd.out.setOther (by show V51.heap.size ≠ ga; omega) _).setOther (by show V51.heap.size ≠ ga; omega) _
        have pz : Own W56 (gb) [.int .i64 L, .int .i64 sl, .int .i64 (-rh), .int .i64 (-rl), .slice Y n yy, .int .i64 wg] := by rw [hW]; exact (qz.out.setOther (by show V51.heap.size ≠ gb; omega) _).setOther (by show V51.heap.size ≠ gb; omega) _
        have ps1 : Own W56 (V51.heap.size) [.int .i64 lo4, .int .i64 hi4] := by rw [hW]; exact own_set2 qs1.out rfl _ _
        have pt1 : Own W56 (V52.heap.size) [.int .i64 lo1, .int .i64 hi1] := by rw [hW]; exact (qt1.out.setOther (by show V51.heap.size ≠ V52.heap.size; omega) _).setOther (by show V51.heap.size ≠ V52.heap.size; omega) _
        have pu1 : Own W56 (V53.heap.size) [.int .i64 (-hi1), .int .i64 (-lo1)] := by rw [hW]; exact (qu1.out.setOther (by show V51.heap.size ≠ V53.heap.size; omega) _).setOther (by show V51.heap.size ≠ V53.heap.size; omega) _
        try clear hBV
        try clear hB
        clear hW lc kc fc qc lx kx fx qx ld kd fd qd lz kz fz qz ls1 ks1 fs1 qs1 lt1 kt1 ft1 qt1 lu1 ku1 fu1 qu1 HOb HOn
        refine (integral20 L sl rl rh wg X n xx (ks.map (bkk L)) (L - b) (L - a) _ HOb1.out hnb hlen).mono ?_
        rintro e V56 ⟨lo5, hi5, er5, rfl, hR5, hb⟩
        obtain ⟨z1, z2, z3⟩ := mi_in2 HC.out HE.out ha0 hab hbL hR4.out hR5.out
        obtain rfl := z1.symm
        obtain rfl := z2.symm
        obtain rfl := z3.symm
        clear z1 z2 z3 hR5
        have hB := hB1.trans (hb.mono hB1.size)
        have HOb := Lib.hid (HOb1.out.below hb (Nat.le_refl _))
        have HOn := Lib.hid (HOn1.out.below hb (Nat.le_refl _))
        have qc := Lib.hid (pc.below hb pc.lt)
        have qx := Lib.hid (px.below hb px.lt)
        have qd := Lib.hid (pd.below hb pd.lt)
        have qz := Lib.hid (pz.below hb pz.lt)
        have qs1 := Lib.hid (ps1.below hb ps1.lt)
        have qt1 := Lib.hid (pt1.below hb pt1.lt)
        have qu1 := Lib.hid (pu1.below hb pu1.lt)
        try clear hsz
        clear hb hB1 pc px pd pz ps1 pt1 pu1 HOb1 HOn1
        obtain ⟨lc, kc, fc⟩ := qc.out
        obtain ⟨lx, kx, fx⟩ := qx.out
        obtain ⟨ld, kd, fd⟩ := qd.out
        obtain ⟨lz, kz, fz⟩ := qz.out
        obtain ⟨ls1, ks1, fs1⟩ := qs1.out
        obtain ⟨lt1, kt1, ft1⟩ := qt1.out
        obtain ⟨lu1, ku1, fu1⟩ := qu1.out
        go_wp2_with fail
        refine calls_gen fun W57 hW => ?_
        have hB1 : Below w.heap.size w W57 := by rw [hW]; exact (hB.setCell (by show w.heap.size ≤ V52.heap.size; omega) _).setCell (by show w.heap.size ≤ V52.heap.size; omega) _
        have HOb1 := Lib.hid (show Rd 3 W57 X ((ks.map (bkk L)).map krow) by rw [hW]; exact (HOb.out.setCell (fun b off e => by have := hAX.out b off e; show V52.heap.size ≠ b; omega) _).setCell (fun b off e => by have := hAX.out b off e; show V52.heap.size ≠ b; omega) _)
        have HOn1 := Lib.hid (show Rd 3 W57 Y ((ks.map ngk).map krow) by rw [hW]; exact (HOn.out.setCell (fun b off e => by have := hAY.out b off e; show V52.heap.size ≠ b; omega) _).setCell (fun b off e => by have := hAY.out b off e; show V52.heap.size ≠ b; omega) _)
        have pc : Own W57 (w.heap.size) [.int .i64 L, .int .i64 sl, .int .i64 rl, .int .i64 rh, .slice A n cap, .int .i64 wg] := by rw [hW]; exact (qc.out.setOther (by show V52.heap.size ≠ w.heap.size; omega) _).setOther (by show V52.heap.size ≠ w.heap.size; omega) _
        have px : Own W57 (w.heap.size + 1) [.int .i64 a, .int .i64 b, .int .i64 lv] := by rw [hW]; exact (qx.out.setOther (by show V52.heap.size ≠ w.heap.size + 1; omega) _).setOther (by show V52.heap.size ≠ w.heap.size + 1; omega) _
        have pd : Own W57 (ga) [.int .i64 L, .int .i64 sl, .int .i64 rl, .int .i64 rh, .slice X n xx, .int .i64 wg] := by rw [hW]; exact (qd.out.setOther (by show V52.heap.size ≠ ga; omega) _).setOther (by show V52.heap.size ≠ ga; omega) _
        have pz : Own W57 (gb) [.int .i64 L, .int .i64 sl, .int .i64 (-rh), .int .i64 (-rl), .slice Y n yy, .int .i64 wg] := by rw [hW]; exact (qz.out.setOther (by show V52.heap.size ≠ gb; omega) _).setOther (by show V52.heap.size ≠ gb; omega) _
        have ps1 : Own W57 (V51.heap.size) [.int .i64 lo4, .int .i64 hi4] := by rw [hW]; exact (qs1.out.setOther (by show V52.heap.size ≠ V51.heap.size; omega) _).setOther (by show V52.heap.size ≠ V51.heap.size; omega) _
        have pt1 : Own W57 (V52.heap.size) [.int .i64 lo4, .int .i64 hi4] := by rw [hW]; exact own_set2 qt1.out rfl _ _
        have pu1 : Own W57 (V53.heap.size) [.int .i64 (-hi1), .int .i64 (-lo1)] := by rw [hW]; exact (qu1.out.setOther (by show V52.heap.size ≠ V53.heap.size; omega) _).setOther (by show V52.heap.size ≠ V53.heap.size; omega) _
        try clear hBV
        try clear hB
        clear hW lc kc fc qc lx kx fx qx ld kd fd qd lz kz fz qz ls1 ks1 fs1 qs1 lt1 kt1 ft1 qt1 lu1 ku1 fu1 qu1 HOb HOn
        refine (integral20 L sl (-rh) (-rl) wg Y n yy (ks.map ngk) a b _ HOn1.out hnn hlen).mono ?_
        rintro e V57 ⟨lo6, hi6, er6, rfl, hR6, hb⟩
        obtain ⟨z1, rfl, rfl⟩ := mi_in3 HC.out HE.out ha0 hab hbL hR4.out hR6.out
        obtain rfl := z1.symm
        clear z1 hR6 hR4
        have hB := hB1.trans (hb.mono hB1.size)
        have HOb := Lib.hid (HOb1.out.below hb (Nat.le_refl _))
        have HOn := Lib.hid (HOn1.out.below hb (Nat.le_refl _))
        have qc := Lib.hid (pc.below hb pc.lt)
        have qx := Lib.hid (px.below hb px.lt)
        have qd := Lib.hid (pd.below hb pd.lt)
        have qz := Lib.hid (pz.below hb pz.lt)
        have qs1 := Lib.hid (ps1.below hb ps1.lt)
        have qt1 := Lib.hid (pt1.below hb pt1.lt)
        have qu1 := Lib.hid (pu1.below hb pu1.lt)
        try clear hsz
        clear hb hB1 pc px pd pz ps1 pt1 pu1 HOb1 HOn1
        obtain ⟨lc, kc, fc⟩ := qc.out
        obtain ⟨lx, kx, fx⟩ := qx.out
        obtain ⟨ld, kd, fd⟩ := qd.out
        obtain ⟨lz, kz, fz⟩ := qz.out
        obtain ⟨ls1, ks1, fs1⟩ := qs1.out
        obtain ⟨lt1, kt1, ft1⟩ := qt1.out
        obtain ⟨lu1, ku1, fu1⟩ := qu1.out
        go_wp2_with fail
        refine calls_gen fun W58 hW => ?_
        have hB1 : Below w.heap.size w W58 := by rw [hW]; exact (hB.setCell (by show w.heap.size ≤ V53.heap.size; omega) _).setCell (by show w.heap.size ≤ V53.heap.size; omega) _
        have HOb1 := Lib.hid (show Rd 3 W58 X ((ks.map (bkk L)).map krow) by rw [hW]; exact (HOb.out.setCell (fun b off e => by have := hAX.out b off e; show V53.heap.size ≠ b; omega) _).setCell (fun b off e => by have := hAX.out b off e; show V53.heap.size ≠ b; omega) _)
        have HOn1 := Lib.hid (show Rd 3 W58 Y ((ks.map ngk).map krow) by rw [hW]; exact (HOn.out.setCell (fun b off e => by have := hAY.out b off e; show V53.heap.size ≠ b; omega) _).setCell (fun b off e => by have := hAY.out b off e; show V53.heap.size ≠ b; omega) _)
        have pc : Own W58 (w.heap.size) [.int .i64 L, .int .i64 sl, .int .i64 rl, .int .i64 rh, .slice A n cap, .int .i64 wg] := by rw [hW]; exact (qc.out.setOther (by show V53.heap.size ≠ w.heap.size; omega) _).setOther (by show V53.heap.size ≠ w.heap.size; omega) _
        have px : Own W58 (w.heap.size + 1) [.int .i64 a, .int .i64 b, .int .i64 lv] := by rw [hW]; exact (qx.out.setOther (by show V53.heap.size ≠ w.heap.size + 1; omega) _).setOther (by show V53.heap.size ≠ w.heap.size + 1; omega) _
        have pd : Own W58 (ga) [.int .i64 L, .int .i64 sl, .int .i64 rl, .int .i64 rh, .slice X n xx, .int .i64 wg] := by rw [hW]; exact (qd.out.setOther (by show V53.heap.size ≠ ga; omega) _).setOther (by show V53.heap.size ≠ ga; omega) _
        have pz : Own W58 (gb) [.int .i64 L, .int .i64 sl, .int .i64 (-rh), .int .i64 (-rl), .slice Y n yy, .int .i64 wg] := by rw [hW]; exact (qz.out.setOther (by show V53.heap.size ≠ gb; omega) _).setOther (by show V53.heap.size ≠ gb; omega) _
        have ps1 : Own W58 (V51.heap.size) [.int .i64 lo4, .int .i64 hi4] := by rw [hW]; exact (qs1.out.setOther (by show V53.heap.size ≠ V51.heap.size; omega) _).setOther (by show V53.heap.size ≠ V51.heap.size; omega) _
        have pt1 : Own W58 (V52.heap.size) [.int .i64 lo4, .int .i64 hi4] := by rw [hW]; exact (qt1.out.setOther (by show V53.heap.size ≠ V52.heap.size; omega) _).setOther (by show V53.heap.size ≠ V52.heap.size; omega) _
        have pu1 : Own W58 (V53.heap.size) [.int .i64 (-hi4), .int .i64 (-lo4)] := by rw [hW]; exact own_set2 qu1.out rfl _ _
        try clear hBV
        try clear hB
        clear hW lc kc fc qc lx kx fx qx ld kd fd qd lz kz fz qz ls1 ks1 fs1 qs1 lt1 kt1 ft1 qt1 lu1 ku1 fu1 qu1 HOb HOn
        refine (fewest34 L sl rl rh wg A n cap ks _ (HA.out.below hB1 (Nat.le_refl _)) hn hlen).mono ?_
        rintro e V58 ⟨n5, er7, rfl, hR7, hb⟩
        obtain ⟨rfl, _⟩ := fewR_few HC.out hR7.out
        have hB := hB1.trans (hb.mono hB1.size)
        have HOb := Lib.hid (HOb1.out.below hb (Nat.le_refl _))
        have HOn := Lib.hid (HOn1.out.below hb (Nat.le_refl _))
        have qc := Lib.hid (pc.below hb pc.lt)
        have qx := Lib.hid (px.below hb px.lt)
        have qd := Lib.hid (pd.below hb pd.lt)
        have qz := Lib.hid (pz.below hb pz.lt)
        have qs1 := Lib.hid (ps1.below hb ps1.lt)
        have qt1 := Lib.hid (pt1.below hb pt1.lt)
        have qu1 := Lib.hid (pu1.below hb pu1.lt)
        try clear hsz
        clear hb hB1 pc px pd pz ps1 pt1 pu1 HOb1 HOn1
        obtain ⟨lc, kc, fc⟩ := qc.out
        obtain ⟨lx, kx, fx⟩ := qx.out
        obtain ⟨ld, kd, fd⟩ := qd.out
        obtain ⟨lz, kz, fz⟩ := qz.out
        obtain ⟨ls1, ks1, fs1⟩ := qs1.out
        obtain ⟨lt1, kt1, ft1⟩ := qt1.out
        obtain ⟨lu1, ku1, fu1⟩ := qu1.out
        go_wp2_with fail
        refine calls_gen fun W59 hW => ?_
        have hB1 : Below w.heap.size w W59 := by rw [hW]; (repeat' (first | (with_reducible exact Below.refl _ _) | (with_reducible assumption) | (with_reducible refine Below.drew ?_) | (with_reducible refine below_drewN ?_ _) | (with_reducible refine Below.setCell ?_ ?_ _) | (with_reducible refine Below.alloc ?_ ?_ _) | (refine Below.trans ?_ (Below.mono (by with_reducible assumption) ?_)) | omega | (exact Below.size (by with_reducible assumption)) | (simp; done) | (simp; omega)))
        have hBV : Below V58.heap.size V58 W59 := by rw [hW]; (repeat' (first | (with_reducible exact Below.refl _ _) | (with_reducible assumption) | (with_reducible refine Below.drew ?_) | (with_reducible refine below_drewN ?_ _) | (with_reducible refine Below.setCell ?_ ?_ _) | (with_reducible refine Below.alloc ?_ ?_ _) | (refine Below.trans ?_ (Below.mono (by with_reducible assumption) ?_)) | omega | (exact Below.size (by with_reducible assumption)) | (simp; done) | (simp; omega)))
        have hsz := hBV.size
        have HOb1 := Lib.hid (HOb.out.below hBV (Nat.le_refl _))
        have HOn1 := Lib.hid (HOn.out.below hBV (Nat.le_refl _))
        have pc : Own W59 (w.heap.size) [.int .i64 L, .int .i64 sl, .int .i64 rl, .int .i64 rh, .slice A n cap, .int .i64 wg] := by rw [hW]; exact qc.out
        have px : Own W59 (w.heap.size + 1) [.int .i64 a, .int .i64 b, .int .i64 lv] := by rw [hW]; exact qx.out
        have pd : Own W59 (ga) [.int .i64 L, .int .i64 sl, .int .i64 rl, .int .i64 rh, .slice X n xx, .int .i64 wg] := by rw [hW]; exact qd.out
        have pz : Own W59 (gb) [.int .i64 L, .int .i64 sl, .int .i64 (-rh), .int .i64 (-rl), .slice Y n yy, .int .i64 wg] := by rw [hW]; exact qz.out
        have ps1 : Own W59 (V51.heap.size) [.int .i64 lo4, .int .i64 hi4] := by rw [hW]; exact qs1.out
        have pt1 : Own W59 (V52.heap.size) [.int .i64 lo4, .int .i64 hi4] := by rw [hW]; exact qt1.out
        have pu1 : Own W59 (V53.heap.size) [.int .i64 (-hi4), .int .i64 (-lo4)] := by rw [hW]; exact qu1.out
        try clear hBV
        try clear hB
        clear hW lc kc fc qc lx kx fx qx ld kd fd qd lz kz fz qz ls1 ks1 fs1 qs1 lt1 kt1 ft1 qt1 lu1 ku1 fu1 qu1 HOb HOn
        refine (fewest34 L sl rl rh wg X n xx (ks.map (bkk L)) _ HOb1.out hnb hlen).mono ?_
        rintro e V59 ⟨n6, er8, rfl, hR8, hb⟩
        obtain ⟨rfl, z1⟩ := bk_few (by omega) HC.out hR7.out hR8.out
        obtain rfl := z1.symm
        clear z1 hR8
        have hB := hB1.trans (hb.mono hB1.size)
        have HOb := Lib.hid (HOb1.out.below hb (Nat.le_refl _))
        have HOn := Lib.hid (HOn1.out.below hb (Nat.le_refl _))
        have qc := Lib.hid (pc.below hb pc.lt)
        have qx := Lib.hid (px.below hb px.lt)
        have qd := Lib.hid (pd.below hb pd.lt)
        have qz := Lib.hid (pz.below hb pz.lt)
        have qs1 := Lib.hid (ps1.below hb ps1.lt)
        have qt1 := Lib.hid (pt1.below hb pt1.lt)
        have qu1 := Lib.hid (pu1.below hb pu1.lt)
        try clear hsz
        clear hb hB1 pc px pd pz ps1 pt1 pu1 HOb1 HOn1
        obtain ⟨lc, kc, fc⟩ := qc.out
        obtain ⟨lx, kx, fx⟩ := qx.out
        obtain ⟨ld, kd, fd⟩ := qd.out
        obtain ⟨lz, kz, fz⟩ := qz.out
        obtain ⟨ls1, ks1, fs1⟩ := qs1.out
        obtain ⟨lt1, kt1, ft1⟩ := qt1.out
        obtain ⟨lu1, ku1, fu1⟩ := qu1.out
        go_wp2_with fail
        refine calls_gen fun W60 hW => ?_
        have hB1 : Below w.heap.size w W60 := by rw [hW]; (repeat' (first | (with_reducible exact Below.refl _ _) | (with_reducible assumption) | (with_reducible refine Below.drew ?_) | (with_reducible refine below_drewN ?_ _) | (with_reducible refine Below.setCell ?_ ?_ _) | (with_reducible refine Below.alloc ?_ ?_ _) | (refine Below.trans ?_ (Below.mono (by with_reducible assumption) ?_)) | omega | (exact Below.size (by with_reducible assumption)) | (simp; done) | (simp; omega)))
        have hBV : Below V59.heap.size V59 W60 := by rw [hW]; (repeat' (first | (with_reducible exact Below.refl _ _) | (with_reducible assumption) | (with_reducible refine Below.drew ?_) | (with_reducible refine below_drewN ?_ _) | (with_reducible refine Below.setCell ?_ ?_ _) | (with_reducible refine Below.alloc ?_ ?_ _) | (refine Below.trans ?_ (Below.mono (by with_reducible assumption) ?_)) | omega | (exact Below.size (by with_reducible assumption)) | (simp; done) | (simp; omega)))
        have hsz := hBV.size
        have HOb1 := Lib.hid (HOb.out.below hBV (Nat.le_refl _))
        have HOn1 := Lib.hid (HOn.out.below hBV (Nat.le_refl _))
        have pc : Own W60 (w.heap.size) [.int .i64 L, .int .i64 sl, .int .i64 rl, .int .i64 rh, .slice A n cap, .int .i64 wg] := by rw [hW]; exact qc.out
        have px : Own W60 (w.heap.size + 1) [.int .i64 a, .int .i64 b, .int .i64 lv] := by rw [hW]; exact qx.out
        have pd : Own W60 (ga) [.int .i64 L, .int .i64 sl, .int .i64 rl, .int .i64 rh, .slice X n xx, .int .i64 wg] := by rw [hW]; exact qd.out
        have pz : Own W60 (gb) [.int .i64 L, .int .i64 sl, .int .i64 (-rh), .int .i64 (-rl), .slice Y n yy, .int .i64 wg] := by rw [hW]; exact qz.out
        have ps1 : Own W60 (V51.heap.size) [.int .i64 lo4, .int .i64 hi4] := by rw [hW]; exact qs1.out
        have pt1 : Own W60 (V52.heap.size) [.int .i64 lo4, .int .i64 hi4] := by rw [hW]; exact qt1.out
        have pu1 : Own W60 (V53.heap.size) [.int .i64 (-hi4), .int .i64 (-lo4)] := by rw [hW]; exact qu1.out
        try clear hBV
        try clear hB
        clear hW lc kc fc qc lx kx fx qx ld kd fd qd lz kz fz qz ls1 ks1 fs1 qs1 lt1 kt1 ft1 qt1 lu1 ku1 fu1 qu1 HOb HOn
        refine (fewest34 L sl (-rh) (-rl) wg Y n yy (ks.map ngk) _ HOn1.out hnn hlen).mono ?_
        rintro e V60 ⟨n7, er9, rfl, hR9, hb⟩
        obtain ⟨rfl, z1⟩ := ng_few HC.out hR7.out hR9.out
        obtain rfl := z1.symm
        clear z1 hR9 hR7
        have hB := hB1.trans (hb.mono hB1.size)
        have HOb := Lib.hid (HOb1.out.below hb (Nat.le_refl _))
        have HOn := Lib.hid (HOn1.out.below hb (Nat.le_refl _))
        have qc := Lib.hid (pc.below hb pc.lt)
        have qx := Lib.hid (px.below hb px.lt)
        have qd := Lib.hid (pd.below hb pd.lt)
        have qz := Lib.hid (pz.below hb pz.lt)
        have qs1 := Lib.hid (ps1.below hb ps1.lt)
        have qt1 := Lib.hid (pt1.below hb pt1.lt)
        have qu1 := Lib.hid (pu1.below hb pu1.lt)
        try clear hsz
        clear hb hB1 pc px pd pz ps1 pt1 pu1 HOb1 HOn1
        obtain ⟨lc, kc, fc⟩ := qc.out
        obtain ⟨lx, kx, fx⟩ := qx.out
        obtain ⟨ld, kd, fd⟩ := qd.out
        obtain ⟨lz, kz, fz⟩ := qz.out
        obtain ⟨ls1, ks1, fs1⟩ := qs1.out
        obtain ⟨lt1, kt1, ft1⟩ := qt1.out
        obtain ⟨lu1, ku1, fu1⟩ := qu1.out
        go_wp2
        refine wp_gen fun R61 hW => ?_
        have hB1 : Below w.heap.size w R61 := by rw [hW]; (repeat' (first | (with_reducible exact Below.refl _ _) | (with_reducible assumption) | (with_reducible refine Below.drew ?_) | (with_reducible refine below_drewN ?_ _) | (with_reducible refine Below.setCell ?_ ?_ _) | (with_reducible refine Below.alloc ?_ ?_ _) | (refine Below.trans ?_ (Below.mono (by with_reducible assumption) ?_)) | omega | (exact Below.size (by with_reducible assumption)) | (simp; done) | (simp; omega)))
        have hBV : Below V60.heap.size V60 R61 := by rw [hW]; (repeat' (first | (with_reducible exact Below.refl _ _) | (with_reducible assumption) | (with_reducible refine Below.drew ?_) | (with_reducible refine below_drewN ?_ _) | (with_reducible refine Below.setCell ?_ ?_ _) | (with_reducible refine Below.alloc ?_ ?_ _) | (refine Below.trans ?_ (Below.mono (by with_reducible assumption) ?_)) | omega | (exact Below.size (by with_reducible assumption)) | (simp; done) | (simp; omega)))
        have hsz := hBV.size
        have HOb1 := Lib.hid (HOb.out.below hBV (Nat.le_refl _))
        have HOn1 := Lib.hid (HOn.out.below hBV (Nat.le_refl _))
        have pc : Own R61 (w.heap.size) [.int .i64 L, .int .i64 sl, .int .i64 rl, .int .i64 rh, .slice A n cap, .int .i64 wg] := by rw [hW]; exact qc.out
        have px : Own R61 (w.heap.size + 1) [.int .i64 a, .int .i64 b, .int .i64 lv] := by rw [hW]; exact qx.out
        have pd : Own R61 (ga) [.int .i64 L, .int .i64 sl, .int .i64 rl, .int .i64 rh, .slice X n xx, .int .i64 wg] := by rw [hW]; exact qd.out
        have pz : Own R61 (gb) [.int .i64 L, .int .i64 sl, .int .i64 (-rh), .int .i64 (-rl), .slice Y n yy, .int .i64 wg] := by rw [hW]; exact qz.out
        have ps1 : Own R61 (V51.heap.size) [.int .i64 lo4, .int .i64 hi4] := by rw [hW]; exact qs1.out
        have pt1 : Own R61 (V52.heap.size) [.int .i64 lo4, .int .i64 hi4] := by rw [hW]; exact qt1.out
        have pu1 : Own R61 (V53.heap.size) [.int .i64 (-hi4), .int .i64 (-lo4)] := by rw [hW]; exact qu1.out
        try clear hBV
        try clear hB
        clear hW lc kc fc qc lx kx fx qx ld kd fd qd lz kz fz qz ls1 ks1 fs1 qs1 lt1 kt1 ft1 qt1 lu1 ku1 fu1 qu1 HOb HOn
        have hxc := Aft.cell (W := R61) pc
        obtain ⟨lc, kc, fc⟩ := pc
        have pc := Own.mk lc kc fc
        have hxx := Aft.cell (W := R61) px
        obtain ⟨lx, kx, fx⟩ := px
        have px := Own.mk lx kx fx
        have hxd := Aft.cell (W := R61) pd
        obtain ⟨ld, kd, fd⟩ := pd
        have pd := Own.mk ld kd fd
        have hxz := Aft.cell (W := R61) pz
        obtain ⟨lz, kz, fz⟩ := pz
        have pz := Own.mk lz kz fz
        have hxs1 := Aft.cell (W := R61) ps1
        obtain ⟨ls1, ks1, fs1⟩ := ps1
        have ps1 := Own.mk ls1 ks1 fs1
        have hxt1 := Aft.cell (W := R61) pt1
        obtain ⟨lt1, kt1, ft1⟩ := pt1
        have pt1 := Own.mk lt1 kt1 ft1
        have hxu1 := Aft.cell (W := R61) pu1
        obtain ⟨lu1, ku1, fu1⟩ := pu1
        have pu1 := Own.mk lu1 ku1 fu1
        refine wp_region_aft (by kernel_rfl) (by kernel_rfl) ?_; (repeat (go_big_quiet_step ((first | (go_at_call 22; refine aft_of (hk22 _)) | (go_at_call 33; refine aft_of (minus33 _ _ _ ?_ ?_) <;> omega) | (go_at_call 13; refine aft_of (works13 _)))))); refine wpQuiet_nil ?_; rintro w21 ⟨⟨_, hb21⟩, rfl⟩
        clear hxc lc kc fc
        clear hxx lx kx fx
        clear hxd ld kd fd
        clear hxz lz kz fz
        clear hxs1 ls1 ks1 fs1
        clear hxt1 lt1 kt1 ft1
        clear hxu1 lu1 ku1 fu1
        have hB := hB1.trans (hb21.mono hB1.size)
        have HOb := Lib.hid (HOb1.out.below hb21 (Nat.le_refl _))
        have HOn := Lib.hid (HOn1.out.below hb21 (Nat.le_refl _))
        have qc := Lib.hid (pc.below hb21 pc.lt)
        have qx := Lib.hid (px.below hb21 px.lt)
        have qd := Lib.hid (pd.below hb21 pd.lt)
        have qz := Lib.hid (pz.below hb21 pz.lt)
        have qs1 := Lib.hid (ps1.below hb21 ps1.lt)
        have qt1 := Lib.hid (pt1.below hb21 pt1.lt)
        have qu1 := Lib.hid (pu1.below hb21 pu1.lt)
        try clear hsz
        clear hb21 hB1 pc px pd pz ps1 pt1 pu1 HOb1 HOn1
        obtain ⟨lc, kc, fc⟩ := qc.out
        obtain ⟨lx, kx, fx⟩ := qx.out
        obtain ⟨ld, kd, fd⟩ := qd.out
        obtain ⟨lz, kz, fz⟩ := qz.out
        obtain ⟨ls1, ks1, fs1⟩ := qs1.out
        obtain ⟨lt1, kt1, ft1⟩ := qt1.out
        obtain ⟨lu1, ku1, fu1⟩ := qu1.out
        by_cases haL : a = L
        · have haE : (a == L) = true := by simpa using haL
          clear haL
          go_wp2_with fail
          refine calls_gen fun W62 hW => ?_
          have hB1 : Below w.heap.size w W62 := by rw [hW]; (repeat' (first | (with_reducible exact Below.refl _ _) | (with_reducible assumption) | (with_reducible refine Below.drew ?_) | (with_reducible refine below_drewN ?_ _) | (with_reducible refine Below.setCell ?_ ?_ _) | (with_reducible refine Below.alloc ?_ ?_ _) | (refine Below.trans ?_ (Below.mono (by with_reducible assumption) ?_)) | omega | (exact Below.size (by with_reducible assumption)) | (simp; done) | (simp; omega)))
          have hBV : Below w21.heap.size w21 W62 := by rw [hW]; (repeat' (first | (with_reducible exact Below.refl _ _) | (with_reducible assumption) | (with_reducible refine Below.drew ?_) | (with_reducible refine below_drewN ?_ _) | (with_reducible refine Below.setCell ?_ ?_ _) | (with_reducible refine Below.alloc ?_ ?_ _) | (refine Below.trans ?_ (Below.mono (by with_reducible assumption) ?_)) | omega | (exact Below.size (by with_reducible assumption)) | (simp; done) | (simp; omega)))
          have hsz := hBV.size
          have HOb1 := Lib.hid (HOb.out.below hBV (Nat.le_refl _))
          have HOn1 := Lib.hid (HOn.out.below hBV (Nat.le_refl _))
          have pc : Own W62 (w.heap.size) [.int .i64 L, .int .i64 sl, .int .i64 rl, .int .i64 rh, .slice A n cap, .int .i64 wg] := by rw [hW]; exact qc.out
          have px : Own W62 (w.heap.size + 1) [.int .i64 a, .int .i64 b, .int .i64 lv] := by rw [hW]; exact qx.out
          have pd : Own W62 (ga) [.int .i64 L, .int .i64 sl, .int .i64 rl, .int .i64 rh, .slice X n xx, .int .i64 wg] := by rw [hW]; exact qd.out
          have pz : Own W62 (gb) [.int .i64 L, .int .i64 sl, .int .i64 (-rh), .int .i64 (-rl), .slice Y n yy, .int .i64 wg] := by rw [hW]; exact qz.out
          have ps1 : Own W62 (V51.heap.size) [.int .i64 lo4, .int .i64 hi4] := by rw [hW]; exact qs1.out
          have pt1 : Own W62 (V52.heap.size) [.int .i64 lo4, .int .i64 hi4] := by rw [hW]; exact qt1.out
          have pu1 : Own W62 (V53.heap.size) [.int .i64 (-hi4), .int .i64 (-lo4)] := by rw [hW]; exact qu1.out
          try clear hBV
          try clear hB
          clear hW lc kc fc qc lx kx fx qx ld kd fd qd lz kz fz qz ls1 ks1 fs1 qs1 lt1 kt1 ft1 qt1 lu1 ku1 fu1 qu1 HOb HOn
          refine (works13 _).mono ?_
          rintro e V62 ⟨rfl, hb⟩
          have hB := hB1.trans (hb.mono hB1.size)
          have HOb := Lib.hid (HOb1.out.below hb (Nat.le_refl _))
          have HOn := Lib.hid (HOn1.out.below hb (Nat.le_refl _))
          have qc := Lib.hid (pc.below hb pc.lt)
          have qx := Lib.hid (px.below hb px.lt)
          have qd := Lib.hid (pd.below hb pd.lt)
          have qz := Lib.hid (pz.below hb pz.lt)
          have qs1 := Lib.hid (ps1.below hb ps1.lt)
          have qt1 := Lib.hid (pt1.below hb pt1.lt)
          have qu1 := Lib.hid (pu1.below hb pu1.lt)
          try clear hsz
          clear hb hB1 pc px pd pz ps1 pt1 pu1 HOb1 HOn1
          obtain ⟨lc, kc, fc⟩ := qc.out
          obtain ⟨lx, kx, fx⟩ := qx.out
          obtain ⟨ld, kd, fd⟩ := qd.out
          obtain ⟨lz, kz, fz⟩ := qz.out
          obtain ⟨ls1, ks1, fs1⟩ := qs1.out
          obtain ⟨lt1, kt1, ft1⟩ := qt1.out
          obtain ⟨lu1, ku1, fu1⟩ := qu1.out
          go_wp2
          go_ret
          exact ⟨rfl, hB⟩
        · have haE : (a == L) = false := by simpa using haL
          have haM : a < L := by omega
          clear haL
          have hLL : Hid (1 ≤ L ∧ L ≤ 12) := ⟨hl1, hl2⟩
          have hSS := Lib.hid (show 0 ≤ sl ∧ sl ≤ 20 from ⟨hV.out.s1, hV.out.s2⟩)
          go_wp2_with fail
          refine calls_gen fun W62 hW => ?_
          have hB1 : Below w.heap.size w W62 := by rw [hW]; (repeat' (first | (with_reducible exact Below.refl _ _) | (with_reducible assumption) | (with_reducible refine Below.drew ?_) | (with_reducible refine below_drewN ?_ _) | (with_reducible refine Below.setCell ?_ ?_ _) | (with_reducible refine Below.alloc ?_ ?_ _) | (refine Below.trans ?_ (Below.mono (by with_reducible assumption) ?_)) | omega | (exact Below.size (by with_reducible assumption)) | (simp; done) | (simp; omega)))
          have hBV : Below w21.heap.size w21 W62 := by rw [hW]; (repeat' (first | (with_reducible exact Below.refl _ _) | (with_reducible assumption) | (with_reducible refine Below.drew ?_) | (with_reducible refine below_drewN ?_ _) | (with_reducible refine Below.setCell ?_ ?_ _) | (with_reducible refine Below.alloc ?_ ?_ _) | (refine Below.trans ?_ (Below.mono (by with_reducible assumption) ?_)) | omega | (exact Below.size (by with_reducible assumption)) | (simp; done) | (simp; omega)))
          have hsz := hBV.size
          have HOb1 := Lib.hid (HOb.out.below hBV (Nat.le_refl _))
          have HOn1 := Lib.hid (HOn.out.below hBV (Nat.le_refl _))
          have pc : Own W62 (w.heap.size) [.int .i64 L, .int .i64 sl, .int .i64 rl, .int .i64 rh, .slice A n cap, .int .i64 wg] := by rw [hW]; exact qc.out
          have px : Own W62 (w.heap.size + 1) [.int .i64 a, .int .i64 b, .int .i64 lv] := by rw [hW]; exact qx.out
          have pd : Own W62 (ga) [.int .i64 L, .int .i64 sl, .int .i64 rl, .int .i64 rh, .slice X n xx, .int .i64 wg] := by rw [hW]; exact qd.out
          have pz : Own W62 (gb) [.int .i64 L, .int .i64 sl, .int .i64 (-rh), .int .i64 (-rl), .slice Y n yy, .int .i64 wg] := by rw [hW]; exact qz.out
          have ps1 : Own W62 (V51.heap.size) [.int .i64 lo4, .int .i64 hi4] := by rw [hW]; exact qs1.out
          have pt1 : Own W62 (V52.heap.size) [.int .i64 lo4, .int .i64 hi4] := by rw [hW]; exact qt1.out
          have pu1 : Own W62 (V53.heap.size) [.int .i64 (-hi4), .int .i64 (-lo4)] := by rw [hW]; exact qu1.out
          try clear hBV
          try clear hB
          clear hW lc kc fc qc lx kx fx qx ld kd fd qd lz kz fz qz ls1 ks1 fs1 qs1 lt1 kt1 ft1 qt1 lu1 ku1 fu1 qu1 HOb HOn
          refine (lean35 L sl rl rh wg A n cap ks a _ (HA.out.below hB1 (Nat.le_refl _)) hn hlen hLL.out hSS.out).mono ?_
          rintro e V62 ⟨lo7, hi7, er10, rfl, hR4, hb⟩
          obtain ⟨z1, b31, b32, b33, b34⟩ := mi_ln1 HC.out HE.out ha0 haM hR4.out
          obtain rfl := z1.symm
          clear z1
          have hB := hB1.trans (hb.mono hB1.size)
          have HOb := Lib.hid (HOb1.out.below hb (Nat.le_refl _))
          have HOn := Lib.hid (HOn1.out.below hb (Nat.le_refl _))
          have qc := Lib.hid (pc.below hb pc.lt)
          have qx := Lib.hid (px.below hb px.lt)
          have qd := Lib.hid (pd.below hb pd.lt)
          have qz := Lib.hid (pz.below hb pz.lt)
          have qs1 := Lib.hid (ps1.below hb ps1.lt)
          have qt1 := Lib.hid (pt1.below hb pt1.lt)
          have qu1 := Lib.hid (pu1.below hb pu1.lt)
          try clear hsz
          clear hb hB1 pc px pd pz ps1 pt1 pu1 HOb1 HOn1
          obtain ⟨lc, kc, fc⟩ := qc.out
          obtain ⟨lx, kx, fx⟩ := qx.out
          obtain ⟨ld, kd, fd⟩ := qd.out
          obtain ⟨lz, kz, fz⟩ := qz.out
          obtain ⟨ls1, ks1, fs1⟩ := qs1.out
          obtain ⟨lt1, kt1, ft1⟩ := qt1.out
          obtain ⟨lu1, ku1, fu1⟩ := qu1.out
          go_wp2_with fail
          refine calls_gen fun W63 hW => ?_
          have hB1 : Below w.heap.size w W63 := by rw [hW]; exact (hB.setCell (by show w.heap.size ≤ V51.heap.size; omega) _).setCell (by show w.heap.size ≤ V51.heap.size; omega) _
          have HOb1 := Lib.hid (show Rd 3 W63 X ((ks.map (bkk L)).map krow) by rw [hW]; exact (HOb.out.setCell (fun b off e => by have := hAX.out b off e; show V51.heap.size ≠ b; omega) _).setCell (fun b off e => by have := hAX.out b off e; show V51.heap.size ≠ b; omega) _)
          have HOn1 := Lib.hid (show Rd 3 W63 Y ((ks.map ngk).map krow) by rw [hW]; exact (HOn.out.setCell (fun b off e => by have := hAY.out b off e; show V51.heap.size ≠ b; omega) _).setCell (fun b off e => by have := hAY.out b off e; show V51.heap.size ≠ b; omega) _)
          have pc : Own W63 (w.heap.size) [.int .i64 L, .int .i64 sl, .int .i64 rl, .int .i64 rh, .slice A n cap, .int .i64 wg] := by rw [hW]; exact (qc.out.setOther (by show V51.heap.size ≠ w.heap.size; omega) _).setOther (by show V51.heap.size ≠ w.heap.size; omega) _
          have px : Own W63 (w.heap.size + 1) [.int .i64 a, .int .i64 b, .int .i64 lv] := by rw [hW]; exact (qx.out.setOther (by show V51.heap.size ≠ w.heap.size + 1; omega) _).setOther (by show V51.heap.size ≠ w.heap.size + 1; omega) _
          have pd : Own W63 (ga) [.int .i64 L, .int .i64 sl, .int .i64 rl, .int .i64 rh, .slice X n xx, .int .i64 wg] := by rw [hW]; exact (qd.out.setOther (by show V51.heap.size ≠ ga; omega) _).setOther (by show V51.heap.size ≠ ga; omega) _
          have pz : Own W63 (gb) [.int .i64 L, .int .i64 sl, .int .i64 (-rh), .int .i64 (-rl), .slice Y n yy, .int .i64 wg] := by rw [hW]; exact (qz.out.setOther (by show V51.heap.size ≠ gb; omega) _).setOther (by show V51.heap.size ≠ gb; omega) _
          have ps1 : Own W63 (V51.heap.size) [.int .i64 lo7, .int .i64 hi7] := by rw [hW]; exact own_set2 qs1.out rfl _ _
          have pt1 : Own W63 (V52.heap.size) [.int .i64 lo4, .int .i64 hi4] := by rw [hW]; exact (qt1.out.setOther (by show V51.heap.size ≠ V52.heap.size; omega) _).setOther (by show V51.heap.size ≠ V52.heap.size; omega) _
          have pu1 : Own W63 (V53.heap.size) [.int .i64 (-hi4), .int .i64 (-lo4)] := by rw [hW]; exact (qu1.out.setOther (by show V51.heap.size ≠ V53.heap.size; omega) _).setOther (by show V51.heap.size ≠ V53.heap.size; omega) _
          try clear hBV
          try clear hB
          clear hW lc kc fc qc lx kx fx qx ld kd fd qd lz kz fz qz ls1 ks1 fs1 qs1 lt1 kt1 ft1 qt1 lu1 ku1 fu1 qu1 HOb HOn
          refine (lean35 L sl rl rh wg X n xx (ks.map (bkk L)) (L - 1 - a) _ HOb1.out hnb hlen hLL.out hSS.out).mono ?_
          rintro e V63 ⟨lo8, hi8, er11, rfl, hR5, hb⟩
          obtain ⟨z1, rfl, rfl⟩ := mi_ln2 HC.out HE.out ha0 haM hR4.out hR5.out
          obtain rfl := z1.symm
          clear z1 hR5
          have hB := hB1.trans (hb.mono hB1.size)
          have HOb := Lib.hid (HOb1.out.below hb (Nat.le_refl _))
          have HOn := Lib.hid (HOn1.out.below hb (Nat.le_refl _))
          have qc := Lib.hid (pc.below hb pc.lt)
          have qx := Lib.hid (px.below hb px.lt)
          have qd := Lib.hid (pd.below hb pd.lt)
          have qz := Lib.hid (pz.below hb pz.lt)
          have qs1 := Lib.hid (ps1.below hb ps1.lt)
          have qt1 := Lib.hid (pt1.below hb pt1.lt)
          have qu1 := Lib.hid (pu1.below hb pu1.lt)
          try clear hsz
          clear hb hB1 pc px pd pz ps1 pt1 pu1 HOb1 HOn1
          obtain ⟨lc, kc, fc⟩ := qc.out
          obtain ⟨lx, kx, fx⟩ := qx.out
          obtain ⟨ld, kd, fd⟩ := qd.out
          obtain ⟨lz, kz, fz⟩ := qz.out
          obtain ⟨ls1, ks1, fs1⟩ := qs1.out
          obtain ⟨lt1, kt1, ft1⟩ := qt1.out
          obtain ⟨lu1, ku1, fu1⟩ := qu1.out
          go_wp2_with fail
          refine calls_gen fun W64 hW => ?_
          have hB1 : Below w.heap.size w W64 := by rw [hW]; exact (hB.setCell (by show w.heap.size ≤ V52.heap.size; omega) _).setCell (by show w.heap.size ≤ V52.heap.size; omega) _
          have HOb1 := Lib.hid (show Rd 3 W64 X ((ks.map (bkk L)).map krow) by rw [hW]; exact (HOb.out.setCell (fun b off e => by have := hAX.out b off e; show V52.heap.size ≠ b; omega) _).setCell (fun b off e => by have := hAX.out b off e; show V52.heap.size ≠ b; omega) _)
          have HOn1 := Lib.hid (show Rd 3 W64 Y ((ks.map ngk).map krow) by rw [hW]; exact (HOn.out.setCell (fun b off e => by have := hAY.out b off e; show V52.heap.size ≠ b; omega) _).setCell (fun b off e => by have := hAY.out b off e; show V52.heap.size ≠ b; omega) _)
          have pc : Own W64 (w.heap.size) [.int .i64 L, .int .i64 sl, .int .i64 rl, .int .i64 rh, .slice A n cap, .int .i64 wg] := by rw [hW]; exact (qc.out.setOther (by show V52.heap.size ≠ w.heap.size; omega) _).setOther (by show V52.heap.size ≠ w.heap.size; omega) _
          have px : Own W64 (w.heap.size + 1) [.int .i64 a, .int .i64 b, .int .i64 lv] := by rw [hW]; exact (qx.out.setOther (by show V52.heap.size ≠ w.heap.size + 1; omega) _).setOther (by show V52.heap.size ≠ w.heap.size + 1; omega) _
          have pd : Own W64 (ga) [.int .i64 L, .int .i64 sl, .int .i64 rl, .int .i64 rh, .slice X n xx, .int .i64 wg] := by rw [hW]; exact (qd.out.setOther (by show V52.heap.size ≠ ga; omega) _).setOther (by show V52.heap.size ≠ ga; omega) _
          have pz : Own W64 (gb) [.int .i64 L, .int .i64 sl, .int .i64 (-rh), .int .i64 (-rl), .slice Y n yy, .int .i64 wg] := by rw [hW]; exact (qz.out.setOther (by show V52.heap.size ≠ gb; omega) _).setOther (by show V52.heap.size ≠ gb; omega) _
          have ps1 : Own W64 (V51.heap.size) [.int .i64 lo7, .int .i64 hi7] := by rw [hW]; exact (qs1.out.setOther (by show V52.heap.size ≠ V51.heap.size; omega) _).setOther (by show V52.heap.size ≠ V51.heap.size; omega) _
          have pt1 : Own W64 (V52.heap.size) [.int .i64 (-hi7), .int .i64 (-lo7)] := by rw [hW]; exact own_set2 qt1.out rfl _ _
          have pu1 : Own W64 (V53.heap.size) [.int .i64 (-hi4), .int .i64 (-lo4)] := by rw [hW]; exact (qu1.out.setOther (by show V52.heap.size ≠ V53.heap.size; omega) _).setOther (by show V52.heap.size ≠ V53.heap.size; omega) _
          try clear hBV
          try clear hB
          clear hW lc kc fc qc lx kx fx qx ld kd fd qd lz kz fz qz ls1 ks1 fs1 qs1 lt1 kt1 ft1 qt1 lu1 ku1 fu1 qu1 HOb HOn
          refine (lean35 L sl (-rh) (-rl) wg Y n yy (ks.map ngk) a _ HOn1.out hnn hlen hLL.out hSS.out).mono ?_
          rintro e V64 ⟨lo9, hi9, er12, rfl, hR6, hb⟩
          obtain ⟨z1, rfl, rfl⟩ := mi_ln3 HC.out HE.out ha0 haM hR4.out hR6.out
          obtain rfl := z1.symm
          clear z1 hR6 hR4
          have hB := hB1.trans (hb.mono hB1.size)
          have HOb := Lib.hid (HOb1.out.below hb (Nat.le_refl _))
          have HOn := Lib.hid (HOn1.out.below hb (Nat.le_refl _))
          have qc := Lib.hid (pc.below hb pc.lt)
          have qx := Lib.hid (px.below hb px.lt)
          have qd := Lib.hid (pd.below hb pd.lt)
          have qz := Lib.hid (pz.below hb pz.lt)
          have qs1 := Lib.hid (ps1.below hb ps1.lt)
          have qt1 := Lib.hid (pt1.below hb pt1.lt)
          have qu1 := Lib.hid (pu1.below hb pu1.lt)
          try clear hsz
          clear hb hB1 pc px pd pz ps1 pt1 pu1 HOb1 HOn1
          obtain ⟨lc, kc, fc⟩ := qc.out
          obtain ⟨lx, kx, fx⟩ := qx.out
          obtain ⟨ld, kd, fd⟩ := qd.out
          obtain ⟨lz, kz, fz⟩ := qz.out
          obtain ⟨ls1, ks1, fs1⟩ := qs1.out
          obtain ⟨lt1, kt1, ft1⟩ := qt1.out
          obtain ⟨lu1, ku1, fu1⟩ := qu1.out
          go_wp2
          refine wp_gen fun R65 hW => ?_
          have hB1 : Below w.heap.size w R65 := by rw [hW]; exact (hB.setCell (by show w.heap.size ≤ V53.heap.size; omega) _).setCell (by show w.heap.size ≤ V53.heap.size; omega) _
          have HOb1 := Lib.hid (show Rd 3 R65 X ((ks.map (bkk L)).map krow) by rw [hW]; exact (HOb.out.setCell (fun b off e => by have := hAX.out b off e; show V53.heap.size ≠ b; omega) _).setCell (fun b off e => by have := hAX.out b off e; show V53.heap.size ≠ b; omega) _)
          have HOn1 := Lib.hid (show Rd 3 R65 Y ((ks.map ngk).map krow) by rw [hW]; exact (HOn.out.setCell (fun b off e => by have := hAY.out b off e; show V53.heap.size ≠ b; omega) _).setCell (fun b off e => by have := hAY.out b off e; show V53.heap.size ≠ b; omega) _)
          have pc : Own R65 (w.heap.size) [.int .i64 L, .int .i64 sl, .int .i64 rl, .int .i64 rh, .slice A n cap, .int .i64 wg] := by rw [hW]; exact (qc.out.setOther (by show V53.heap.size ≠ w.heap.size; omega) _).setOther (by show V53.heap.size ≠ w.heap.size; omega) _
          have px : Own R65 (w.heap.size + 1) [.int .i64 a, .int .i64 b, .int .i64 lv] := by rw [hW]; exact (qx.out.setOther (by show V53.heap.size ≠ w.heap.size + 1; omega) _).setOther (by show V53.heap.size ≠ w.heap.size + 1; omega) _
          have pd : Own R65 (ga) [.int .i64 L, .int .i64 sl, .int .i64 rl, .int .i64 rh, .slice X n xx, .int .i64 wg] := by rw [hW]; exact (qd.out.setOther (by show V53.heap.size ≠ ga; omega) _).setOther (by show V53.heap.size ≠ ga; omega) _
          have pz : Own R65 (gb) [.int .i64 L, .int .i64 sl, .int .i64 (-rh), .int .i64 (-rl), .slice Y n yy, .int .i64 wg] := by rw [hW]; exact (qz.out.setOther (by show V53.heap.size ≠ gb; omega) _).setOther (by show V53.heap.size ≠ gb; omega) _
          have ps1 : Own R65 (V51.heap.size) [.int .i64 lo7, .int .i64 hi7] := by rw [hW]; exact (qs1.out.setOther (by show V53.heap.size ≠ V51.heap.size; omega) _).setOther (by show V53.heap.size ≠ V51.heap.size; omega) _
          have pt1 : Own R65 (V52.heap.size) [.int .i64 (-hi7), .int .i64 (-lo7)] := by rw [hW]; exact (qt1.out.setOther (by show V53.heap.size ≠ V52.heap.size; omega) _).setOther (by show V53.heap.size ≠ V52.heap.size; omega) _
          have pu1 : Own R65 (V53.heap.size) [.int .i64 (-hi7), .int .i64 (-lo7)] := by rw [hW]; exact own_set2 qu1.out rfl _ _
          try clear hBV
          try clear hB
          clear hW lc kc fc qc lx kx fx qx ld kd fd qd lz kz fz qz ls1 ks1 fs1 qs1 lt1 kt1 ft1 qt1 lu1 ku1 fu1 qu1 HOb HOn
          have hxc := Aft.cell (W := R65) pc
          obtain ⟨lc, kc, fc⟩ := pc
          have pc := Own.mk lc kc fc
          have hxx := Aft.cell (W := R65) px
          obtain ⟨lx, kx, fx⟩ := px
          have px := Own.mk lx kx fx
          have hxd := Aft.cell (W := R65) pd
          obtain ⟨ld, kd, fd⟩ := pd
          have pd := Own.mk ld kd fd
          have hxz := Aft.cell (W := R65) pz
          obtain ⟨lz, kz, fz⟩ := pz
          have pz := Own.mk lz kz fz
          have hxs1 := Aft.cell (W := R65) ps1
          obtain ⟨ls1, ks1, fs1⟩ := ps1
          have ps1 := Own.mk ls1 ks1 fs1
          have hxt1 := Aft.cell (W := R65) pt1
          obtain ⟨lt1, kt1, ft1⟩ := pt1
          have pt1 := Own.mk lt1 kt1 ft1
          have hxu1 := Aft.cell (W := R65) pu1
          obtain ⟨lu1, ku1, fu1⟩ := pu1
          have pu1 := Own.mk lu1 ku1 fu1
          refine wp_region_aft (by kernel_rfl) (by kernel_rfl) ?_; (repeat (go_big_quiet_step ((first | (go_at_call 22; refine aft_of (hk22 _)) | (go_at_call 33; refine aft_of (minus33 _ _ _ ?_ ?_) <;> omega) | (go_at_call 13; refine aft_of (works13 _)))))); refine wpQuiet_nil ?_; rintro w28 ⟨⟨_, hb28⟩, rfl⟩
          clear hxc lc kc fc
          clear hxx lx kx fx
          clear hxd ld kd fd
          clear hxz lz kz fz
          clear hxs1 ls1 ks1 fs1
          clear hxt1 lt1 kt1 ft1
          clear hxu1 lu1 ku1 fu1
          have hB := hB1.trans (hb28.mono hB1.size)
          have HOb := Lib.hid (HOb1.out.below hb28 (Nat.le_refl _))
          have HOn := Lib.hid (HOn1.out.below hb28 (Nat.le_refl _))
          have qc := Lib.hid (pc.below hb28 pc.lt)
          have qx := Lib.hid (px.below hb28 px.lt)
          have qd := Lib.hid (pd.below hb28 pd.lt)
          have qz := Lib.hid (pz.below hb28 pz.lt)
          have qs1 := Lib.hid (ps1.below hb28 ps1.lt)
          have qt1 := Lib.hid (pt1.below hb28 pt1.lt)
          have qu1 := Lib.hid (pu1.below hb28 pu1.lt)
          try clear hsz
          clear hb28 hB1 pc px pd pz ps1 pt1 pu1 HOb1 HOn1
          obtain ⟨lc, kc, fc⟩ := qc.out
          obtain ⟨lx, kx, fx⟩ := qx.out
          obtain ⟨ld, kd, fd⟩ := qd.out
          obtain ⟨lz, kz, fz⟩ := qz.out
          obtain ⟨ls1, ks1, fs1⟩ := qs1.out
          obtain ⟨lt1, kt1, ft1⟩ := qt1.out
          obtain ⟨lu1, ku1, fu1⟩ := qu1.out
          go_wp2
          go_ret
          exact ⟨rfl, hB⟩
  clear hQ
  subst hAc
  refine rg_many (fuel := 5) [1, 4, 5] rfl (by simp) (by kernel_rfl) (by kernel_rfl) ?_
  intro c hc
  rcases (show c = 1 ∨ c = 4 ∨ c = 5 by simpa using hc) with rfl | rfl | rfl
  · intro K hK
    simp only [pick1, wpHead]
    rw [if_pos (by rfl)]
    go_simp
    refine (copy14 L sl rl rh wg A n cap ks _ (HA.out.below hB (Nat.le_refl _)) hn (by omega)).mono ?_
    rintro e W' ⟨X, xx, rfl, Ga, hb⟩
    replace Ga := Ga.base (base' := w.heap.size + 2) p.lt
    go_simp
    replace o := o.below hb o.lt
    replace p := p.below hb p.lt
    refine hK.out _ _ o ?_
    replace hB := hB.trans (hb.mono hB.size)
    clear hb hK
    (try simp only [Act.put, List.setIfInBounds_toArray, List.set_cons_zero, List.set_cons_succ])
    refine rg_many (fuel := 4) [3, 4, 5] rfl (by simp) (by kernel_rfl) (by kernel_rfl) ?_
    intro c hc
    rcases (show c = 3 ∨ c = 4 ∨ c = 5 by simpa using hc) with rfl | rfl | rfl
    · intro K hK
      simp only [pick1, wpHead]
      rw [if_pos (by rfl)]
      go_simp
      refine (copy14 L sl rl rh wg A n cap ks _ (HA.out.below hB (Nat.le_refl _)) hn (by omega)).mono ?_
      rintro e W' ⟨Y, yy, rfl, Gb, hb⟩
      have hnb := p.lt
      have la := ownsRow_lt Ga
      generalize hnbe : World.heap _ = hp at Gb la hnb
      generalize hnbe : Array.size hp = nb at Gb la hnb
      go_simp
      replace o := o.below hb o.lt
      replace p := p.below hb p.lt
      refine hK.out _ _ o ?_
      replace hB := hB.trans (hb.mono hB.size)
      replace Ga := Ga.below hb (Nat.le_refl _)
      clear hb hK
      (try simp only [Act.put, List.setIfInBounds_toArray, List.set_cons_zero, List.set_cons_succ])
      refine rg_many (fuel := 3) [4, 5] rfl (by simp) (by kernel_rfl) (by kernel_rfl) ?_
      intro c hc
      rcases (show c = 4 ∨ c = 5 by simpa using hc) with rfl | rfl
      · intro K hK
        simp only [pick1, wpHead]
        rw [if_pos (by rfl)]
        go_simp
        have hg := p.lt
        have ta := OwnT.new W' #[.int .i64 0, .int .i64 0, .int .i64 0, .int .i64 0, .slice none 0 0, .int .i64 0] 26
        have hb := (Below.refl W'.heap.size W').alloc (Nat.le_refl _) (.cells #[.int .i64 0, .int .i64 0, .int .i64 0, .int .i64 0, .slice none 0 0, .int .i64 0] 26)
        have hga : w.heap.size + 2 ≤ W'.heap.size := p.lt
        obtain ⟨ga, hge⟩ : ∃ g, g = W'.heap.size := ⟨_, rfl⟩
        rw [← hge] at ta hga ⊢
        generalize hWe : World.alloc W' _ = W' at hb ta ⊢
        clear hge hWe hg
        replace o := o.below hb o.lt
        replace p := p.below hb p.lt
        refine hK.out _ _ o ?_
        replace hB := hB.trans (hb.mono hB.size)
        replace Ga := Ga.below hb (Nat.le_refl _)
        replace Gb := Gb.below hb (Nat.le_refl _)
        clear hb hK
        (try simp only [Act.put, List.setIfInBounds_toArray, List.set_cons_zero, List.set_cons_succ])
        refine rg_many (fuel := 2) [5] rfl (by simp) (by kernel_rfl) (by kernel_rfl) ?_
        intro c hc
        rcases (show c = 5 by simpa using hc) with rfl
        · intro K hK
          simp only [pick1, wpHead]
          rw [if_pos (by rfl)]
          go_simp
          have hg := p.lt
          have tb := OwnT.new W' #[.int .i64 0, .int .i64 0, .int .i64 0, .int .i64 0, .slice none 0 0, .int .i64 0] 26
          have hb := (Below.refl W'.heap.size W').alloc (Nat.le_refl _) (.cells #[.int .i64 0, .int .i64 0, .int .i64 0, .int .i64 0, .slice none 0 0, .int .i64 0] 26)
          have habx := ta.lt
          have hgb : w.heap.size + 2 ≤ W'.heap.size := p.lt
          obtain ⟨gb, hge⟩ : ∃ g, g = W'.heap.size := ⟨_, rfl⟩
          rw [← hge] at tb hgb habx ⊢
          generalize hWe : World.alloc W' _ = W' at hb tb ⊢
          have hab : ga ≠ gb := by omega
          clear hge hWe hg
          replace o := o.below hb o.lt
          replace p := p.below hb p.lt
          refine hK.out _ _ o ?_
          replace hB := hB.trans (hb.mono hB.size)
          replace Ga := Ga.below hb (Nat.le_refl _)
          replace Gb := Gb.below hb (Nat.le_refl _)
          replace ta := ta.below hb ta.lt
          clear hb hK
          (try simp only [Act.put, List.setIfInBounds_toArray, List.set_cons_zero, List.set_cons_succ])
          refine rg_one (fuel := 1) 6 rfl (by kernel_rfl) (by kernel_rfl) ?_
          simp only [pick1, wpHead]
          intro K hK
          rw [if_pos (by rfl)]
          obtain ⟨ly, ky, fy⟩ := ta.own
          go_simp
          refine hK.out _ _ (put6_other o (by omega)) ?_
          clear hK K ly ky fy
          replace Ga := put6_gro (x0 := .int .i64 L) (x1 := .int .i64 sl) (x2 := .int .i64 rl) (x3 := .int .i64 rh) (x4 := .slice X n xx) (x5 := .int .i64 wg) Ga (ta.apart Ga (by decide))
          replace Gb := put6_gro (x0 := .int .i64 L) (x1 := .int .i64 sl) (x2 := .int .i64 rl) (x3 := .int .i64 rh) (x4 := .slice X n xx) (x5 := .int .i64 wg) Gb (ta.apart Gb (by decide))
          replace o := put6_other (x0 := .int .i64 L) (x1 := .int .i64 sl) (x2 := .int .i64 rl) (x3 := .int .i64 rh) (x4 := .slice X n xx) (x5 := .int .i64 wg) (g := ga) o (by omega)
          replace p := put6_other (x0 := .int .i64 L) (x1 := .int .i64 sl) (x2 := .int .i64 rl) (x3 := .int .i64 rh) (x4 := .slice X n xx) (x5 := .int .i64 wg) (g := ga) p (by omega)
          replace hB := put6_below (x0 := .int .i64 L) (x1 := .int .i64 sl) (x2 := .int .i64 rl) (x3 := .int .i64 rh) (x4 := .slice X n xx) (x5 := .int .i64 wg) (g := ga) hB (by omega)
          replace tb := put6_ownT (x0 := .int .i64 L) (x1 := .int .i64 sl) (x2 := .int .i64 rl) (x3 := .int .i64 rh) (x4 := .slice X n xx) (x5 := .int .i64 wg) (g := ga) tb (by omega)
          replace ta := put6_own (x0 := .int .i64 L) (x1 := .int .i64 sl) (x2 := .int .i64 rl) (x3 := .int .i64 rh) (x4 := .slice X n xx) (x5 := .int .i64 wg) ta
          obtain ⟨W8, hW9⟩ : ∃ W9, W9 = put6 W' ga (.int .i64 L) (.int .i64 sl) (.int .i64 rl) (.int .i64 rh) (.slice X n xx) (.int .i64 wg) := ⟨_, rfl⟩
          rw [← hW9] at Ga Gb o p hB ta tb
          simp only [put6] at hW9
          rw [← hW9]
          clear hW9
          refine rg_one (fuel := 0) 7 rfl (by kernel_rfl) (by kernel_rfl) ?_
          simp only [pick1, wpHead]
          intro K hK
          rw [if_pos (by rfl)]
          obtain ⟨ly, ky, fy⟩ := tb.own
          go_simp
          refine hK.out _ _ (put6_other o (by omega)) ?_
          clear hK K ly ky fy
          replace Ga := put6_gro (x0 := .int .i64 L) (x1 := .int .i64 sl) (x2 := .int .i64 rl) (x3 := .int .i64 rh) (x4 := .slice Y n yy) (x5 := .int .i64 wg) Ga (tb.apart Ga (by decide))
          replace Gb := put6_gro (x0 := .int .i64 L) (x1 := .int .i64 sl) (x2 := .int .i64 rl) (x3 := .int .i64 rh) (x4 := .slice Y n yy) (x5 := .int .i64 wg) Gb (tb.apart Gb (by decide))
          replace o := put6_other (x0 := .int .i64 L) (x1 := .int .i64 sl) (x2 := .int .i64 rl) (x3 := .int .i64 rh) (x4 := .slice Y n yy) (x5 := .int .i64 wg) (g := gb) o (by omega)
          replace p := put6_other (x0 := .int .i64 L) (x1 := .int .i64 sl) (x2 := .int .i64 rl) (x3 := .int .i64 rh) (x4 := .slice Y n yy) (x5 := .int .i64 wg) (g := gb) p (by omega)
          replace hB := put6_below (x0 := .int .i64 L) (x1 := .int .i64 sl) (x2 := .int .i64 rl) (x3 := .int .i64 rh) (x4 := .slice Y n yy) (x5 := .int .i64 wg) (g := gb) hB (by omega)
          replace ta := put6_ownT (x0 := .int .i64 L) (x1 := .int .i64 sl) (x2 := .int .i64 rl) (x3 := .int .i64 rh) (x4 := .slice Y n yy) (x5 := .int .i64 wg) (g := gb) ta (by omega)
          replace tb := put6_own (x0 := .int .i64 L) (x1 := .int .i64 sl) (x2 := .int .i64 rl) (x3 := .int .i64 rh) (x4 := .slice Y n yy) (x5 := .int .i64 wg) tb
          obtain ⟨W9, hW9⟩ : ∃ W9, W9 = put6 W8 gb (.int .i64 L) (.int .i64 sl) (.int .i64 rl) (.int .i64 rh) (.slice Y n yy) (.int .i64 wg) := ⟨_, rfl⟩
          rw [← hW9] at Ga Gb o p hB ta tb
          simp only [put6] at hW9
          rw [← hW9]
          clear hW9
          refine rg_done (by kernel_rfl) ?_
          have r := rest ga gb nb X Y xx yy _ hB o p ta.own tb.own (Lib.hid Ga) (Lib.hid Gb) (by omega) (Lib.hid fun k e => ⟨(la k e).1, (la k e).2, fun e9 => ta.apart Ga (by decide) (e9 ▸ e), fun e9 => tb.apart Ga (by decide) (e9 ▸ e)⟩) (Lib.hid fun k e => ⟨(ownsRow_lt Gb k e).1, fun e9 => ta.apart Gb (by decide) (e9 ▸ e), fun e9 => tb.apart Gb (by decide) (e9 ▸ e)⟩)
          simp only [Act.put, List.setIfInBounds_toArray, List.set_cons_zero, List.set_cons_succ] at r
          (try simp only [Act.put, List.setIfInBounds_toArray, List.set_cons_zero, List.set_cons_succ])
          exact r
      · intro K hK
        simp only [pick1, wpHead]
        rw [if_pos (by rfl)]
        go_simp
        have hg := p.lt
        have tb := OwnT.new W' #[.int .i64 0, .int .i64 0, .int .i64 0, .int .i64 0, .slice none 0 0, .int .i64 0] 26
        have hb := (Below.refl W'.heap.size W').alloc (Nat.le_refl _) (.cells #[.int .i64 0, .int .i64 0, .int .i64 0, .int .i64 0, .slice none 0 0, .int .i64 0] 26)
        have hgb : w.heap.size + 2 ≤ W'.heap.size := p.lt
        obtain ⟨gb, hge⟩ : ∃ g, g = W'.heap.size := ⟨_, rfl⟩
        rw [← hge] at tb hgb ⊢
        generalize hWe : World.alloc W' _ = W' at hb tb ⊢
        clear hge hWe hg
        replace o := o.below hb o.lt
        replace p := p.below hb p.lt
        refine hK.out _ _ o ?_
        replace hB := hB.trans (hb.mono hB.size)
        replace Ga := Ga.below hb (Nat.le_refl _)
        replace Gb := Gb.below hb (Nat.le_refl _)
        clear hb hK
        (try simp only [Act.put, List.setIfInBounds_toArray, List.set_cons_zero, List.set_cons_succ])
        refine rg_many (fuel := 2) [4] rfl (by simp) (by kernel_rfl) (by kernel_rfl) ?_
        intro c hc
        rcases (show c = 4 by simpa using hc) with rfl
        · intro K hK
          simp only [pick1, wpHead]
          rw [if_pos (by rfl)]
          go_simp
          have hg := p.lt
          have ta := OwnT.new W' #[.int .i64 0, .int .i64 0, .int .i64 0, .int .i64 0, .slice none 0 0, .int .i64 0] 26
          have hb := (Below.refl W'.heap.size W').alloc (Nat.le_refl _) (.cells #[.int .i64 0, .int .i64 0, .int .i64 0, .int .i64 0, .slice none 0 0, .int .i64 0] 26)
          have habx := tb.lt
          have hga : w.heap.size + 2 ≤ W'.heap.size := p.lt
          obtain ⟨ga, hge⟩ : ∃ g, g = W'.heap.size := ⟨_, rfl⟩
          rw [← hge] at ta hga habx ⊢
          generalize hWe : World.alloc W' _ = W' at hb ta ⊢
          have hab : ga ≠ gb := by omega
          clear hge hWe hg
          replace o := o.below hb o.lt
          replace p := p.below hb p.lt
          refine hK.out _ _ o ?_
          replace hB := hB.trans (hb.mono hB.size)
          replace Ga := Ga.below hb (Nat.le_refl _)
          replace Gb := Gb.below hb (Nat.le_refl _)
          replace tb := tb.below hb tb.lt
          clear hb hK
          (try simp only [Act.put, List.setIfInBounds_toArray, List.set_cons_zero, List.set_cons_succ])
          refine rg_one (fuel := 1) 6 rfl (by kernel_rfl) (by kernel_rfl) ?_
          simp only [pick1, wpHead]
          intro K hK
          rw [if_pos (by rfl)]
          obtain ⟨ly, ky, fy⟩ := ta.own
          go_simp
          refine hK.out _ _ (put6_other o (by omega)) ?_
          clear hK K ly ky fy
          replace Ga := put6_gro (x0 := .int .i64 L) (x1 := .int .i64 sl) (x2 := .int .i64 rl) (x3 := .int .i64 rh) (x4 := .slice X n xx) (x5 := .int .i64 wg) Ga (ta.apart Ga (by decide))
          replace Gb := put6_gro (x0 := .int .i64 L) (x1 := .int .i64 sl) (x2 := .int .i64 rl) (x3 := .int .i64 rh) (x4 := .slice X n xx) (x5 := .int .i64 wg) Gb (ta.apart Gb (by decide))
          replace o := put6_other (x0 := .int .i64 L) (x1 := .int .i64 sl) (x2 := .int .i64 rl) (x3 := .int .i64 rh) (x4 := .slice X n xx) (x5 := .int .i64 wg) (g := ga) o (by omega)
          replace p := put6_other (x0 := .int .i64 L) (x1 := .int .i64 sl) (x2 := .int .i64 rl) (x3 := .int .i64 rh) (x4 := .slice X n xx) (x5 := .int .i64 wg) (g := ga) p (by omega)
          replace hB := put6_below (x0 := .int .i64 L) (x1 := .int .i64 sl) (x2 := .int .i64 rl) (x3 := .int .i64 rh) (x4 := .slice X n xx) (x5 := .int .i64 wg) (g := ga) hB (by omega)
          replace tb := put6_ownT (x0 := .int .i64 L) (x1 := .int .i64 sl) (x2 := .int .i64 rl) (x3 := .int .i64 rh) (x4 := .slice X n xx) (x5 := .int .i64 wg) (g := ga) tb (by omega)
          replace ta := put6_own (x0 := .int .i64 L) (x1 := .int .i64 sl) (x2 := .int .i64 rl) (x3 := .int .i64 rh) (x4 := .slice X n xx) (x5 := .int .i64 wg) ta
          obtain ⟨W8, hW9⟩ : ∃ W9, W9 = put6 W' ga (.int .i64 L) (.int .i64 sl) (.int .i64 rl) (.int .i64 rh) (.slice X n xx) (.int .i64 wg) := ⟨_, rfl⟩
          rw [← hW9] at Ga Gb o p hB ta tb
          simp only [put6] at hW9
          rw [← hW9]
          clear hW9
          refine rg_one (fuel := 0) 7 rfl (by kernel_rfl) (by kernel_rfl) ?_
          simp only [pick1, wpHead]
          intro K hK
          rw [if_pos (by rfl)]
          obtain ⟨ly, ky, fy⟩ := tb.own
          go_simp
          refine hK.out _ _ (put6_other o (by omega)) ?_
          clear hK K ly ky fy
          replace Ga := put6_gro (x0 := .int .i64 L) (x1 := .int .i64 sl) (x2 := .int .i64 rl) (x3 := .int .i64 rh) (x4 := .slice Y n yy) (x5 := .int .i64 wg) Ga (tb.apart Ga (by decide))
          replace Gb := put6_gro (x0 := .int .i64 L) (x1 := .int .i64 sl) (x2 := .int .i64 rl) (x3 := .int .i64 rh) (x4 := .slice Y n yy) (x5 := .int .i64 wg) Gb (tb.apart Gb (by decide))
          replace o := put6_other (x0 := .int .i64 L) (x1 := .int .i64 sl) (x2 := .int .i64 rl) (x3 := .int .i64 rh) (x4 := .slice Y n yy) (x5 := .int .i64 wg) (g := gb) o (by omega)
          replace p := put6_other (x0 := .int .i64 L) (x1 := .int .i64 sl) (x2 := .int .i64 rl) (x3 := .int .i64 rh) (x4 := .slice Y n yy) (x5 := .int .i64 wg) (g := gb) p (by omega)
          replace hB := put6_below (x0 := .int .i64 L) (x1 := .int .i64 sl) (x2 := .int .i64 rl) (x3 := .int .i64 rh) (x4 := .slice Y n yy) (x5 := .int .i64 wg) (g := gb) hB (by omega)
          replace ta := put6_ownT (x0 := .int .i64 L) (x1 := .int .i64 sl) (x2 := .int .i64 rl) (x3 := .int .i64 rh) (x4 := .slice Y n yy) (x5 := .int .i64 wg) (g := gb) ta (by omega)
          replace tb := put6_own (x0 := .int .i64 L) (x1 := .int .i64 sl) (x2 := .int .i64 rl) (x3 := .int .i64 rh) (x4 := .slice Y n yy) (x5 := .int .i64 wg) tb
          obtain ⟨W9, hW9⟩ : ∃ W9, W9 = put6 W8 gb (.int .i64 L) (.int .i64 sl) (.int .i64 rl) (.int .i64 rh) (.slice Y n yy) (.int .i64 wg) := ⟨_, rfl⟩
          rw [← hW9] at Ga Gb o p hB ta tb
          simp only [put6] at hW9
          rw [← hW9]
          clear hW9
          refine rg_done (by kernel_rfl) ?_
          have r := rest ga gb nb X Y xx yy _ hB o p ta.own tb.own (Lib.hid Ga) (Lib.hid Gb) (by omega) (Lib.hid fun k e => ⟨(la k e).1, (la k e).2, fun e9 => ta.apart Ga (by decide) (e9 ▸ e), fun e9 => tb.apart Ga (by decide) (e9 ▸ e)⟩) (Lib.hid fun k e => ⟨(ownsRow_lt Gb k e).1, fun e9 => ta.apart Gb (by decide) (e9 ▸ e), fun e9 => tb.apart Gb (by decide) (e9 ▸ e)⟩)
          simp only [Act.put, List.setIfInBounds_toArray, List.set_cons_zero, List.set_cons_succ] at r
          (try simp only [Act.put, List.setIfInBounds_toArray, List.set_cons_zero, List.set_cons_succ])
          exact r
    · intro K hK
      simp only [pick1, wpHead]
      rw [if_pos (by rfl)]
      go_simp
      have hg := p.lt
      have ta := OwnT.new W' #[.int .i64 0, .int .i64 0, .int .i64 0, .int .i64 0, .slice none 0 0, .int .i64 0] 26
      have hb := (Below.refl W'.heap.size W').alloc (Nat.le_refl _) (.cells #[.int .i64 0, .int .i64 0, .int .i64 0, .int .i64 0, .slice none 0 0, .int .i64 0] 26)
      have hga : w.heap.size + 2 ≤ W'.heap.size := p.lt
      obtain ⟨ga, hge⟩ : ∃ g, g = W'.heap.size := ⟨_, rfl⟩
      rw [← hge] at ta hga ⊢
      generalize hWe : World.alloc W' _ = W' at hb ta ⊢
      clear hge hWe hg
      replace o := o.below hb o.lt
      replace p := p.below hb p.lt
      refine hK.out _ _ o ?_
      replace hB := hB.trans (hb.mono hB.size)
      replace Ga := Ga.below hb (Nat.le_refl _)
      clear hb hK
      (try simp only [Act.put, List.setIfInBounds_toArray, List.set_cons_zero, List.set_cons_succ])
      refine rg_many (fuel := 3) [3, 5] rfl (by simp) (by kernel_rfl) (by kernel_rfl) ?_
      intro c hc
      rcases (show c = 3 ∨ c = 5 by simpa using hc) with rfl | rfl
      · intro K hK
        simp only [pick1, wpHead]
        rw [if_pos (by rfl)]
        go_simp
        refine (copy14 L sl rl rh wg A n cap ks _ (HA.out.below hB (Nat.le_refl _)) hn (by omega)).mono ?_
        rintro e W' ⟨Y, yy, rfl, Gb, hb⟩
        have hnb := p.lt
        have la := ownsRow_lt Ga
        generalize hnbe : World.heap _ = hp at Gb la hnb
        generalize hnbe : Array.size hp = nb at Gb la hnb
        go_simp
        replace o := o.below hb o.lt
        replace p := p.below hb p.lt
        refine hK.out _ _ o ?_
        replace hB := hB.trans (hb.mono hB.size)
        replace Ga := Ga.below hb (Nat.le_refl _)
        replace ta := ta.below hb ta.lt
        clear hb hK
        (try simp only [Act.put, List.setIfInBounds_toArray, List.set_cons_zero, List.set_cons_succ])
        refine rg_many (fuel := 2) [5] rfl (by simp) (by kernel_rfl) (by kernel_rfl) ?_
        intro c hc
        rcases (show c = 5 by simpa using hc) with rfl
        · intro K hK
          simp only [pick1, wpHead]
          rw [if_pos (by rfl)]
          go_simp
          have hg := p.lt
          have tb := OwnT.new W' #[.int .i64 0, .int .i64 0, .int .i64 0, .int .i64 0, .slice none 0 0, .int .i64 0] 26
          have hb := (Below.refl W'.heap.size W').alloc (Nat.le_refl _) (.cells #[.int .i64 0, .int .i64 0, .int .i64 0, .int .i64 0, .slice none 0 0, .int .i64 0] 26)
          have habx := ta.lt
          have hgb : w.heap.size + 2 ≤ W'.heap.size := p.lt
          obtain ⟨gb, hge⟩ : ∃ g, g = W'.heap.size := ⟨_, rfl⟩
          rw [← hge] at tb hgb habx ⊢
          generalize hWe : World.alloc W' _ = W' at hb tb ⊢
          have hab : ga ≠ gb := by omega
          clear hge hWe hg
          replace o := o.below hb o.lt
          replace p := p.below hb p.lt
          refine hK.out _ _ o ?_
          replace hB := hB.trans (hb.mono hB.size)
          replace Ga := Ga.below hb (Nat.le_refl _)
          replace Gb := Gb.below hb (Nat.le_refl _)
          replace ta := ta.below hb ta.lt
          clear hb hK
          (try simp only [Act.put, List.setIfInBounds_toArray, List.set_cons_zero, List.set_cons_succ])
          refine rg_one (fuel := 1) 6 rfl (by kernel_rfl) (by kernel_rfl) ?_
          simp only [pick1, wpHead]
          intro K hK
          rw [if_pos (by rfl)]
          obtain ⟨ly, ky, fy⟩ := ta.own
          go_simp
          refine hK.out _ _ (put6_other o (by omega)) ?_
          clear hK K ly ky fy
          replace Ga := put6_gro (x0 := .int .i64 L) (x1 := .int .i64 sl) (x2 := .int .i64 rl) (x3 := .int .i64 rh) (x4 := .slice X n xx) (x5 := .int .i64 wg) Ga (ta.apart Ga (by decide))
          replace Gb := put6_gro (x0 := .int .i64 L) (x1 := .int .i64 sl) (x2 := .int .i64 rl) (x3 := .int .i64 rh) (x4 := .slice X n xx) (x5 := .int .i64 wg) Gb (ta.apart Gb (by decide))
          replace o := put6_other (x0 := .int .i64 L) (x1 := .int .i64 sl) (x2 := .int .i64 rl) (x3 := .int .i64 rh) (x4 := .slice X n xx) (x5 := .int .i64 wg) (g := ga) o (by omega)
          replace p := put6_other (x0 := .int .i64 L) (x1 := .int .i64 sl) (x2 := .int .i64 rl) (x3 := .int .i64 rh) (x4 := .slice X n xx) (x5 := .int .i64 wg) (g := ga) p (by omega)
          replace hB := put6_below (x0 := .int .i64 L) (x1 := .int .i64 sl) (x2 := .int .i64 rl) (x3 := .int .i64 rh) (x4 := .slice X n xx) (x5 := .int .i64 wg) (g := ga) hB (by omega)
          replace tb := put6_ownT (x0 := .int .i64 L) (x1 := .int .i64 sl) (x2 := .int .i64 rl) (x3 := .int .i64 rh) (x4 := .slice X n xx) (x5 := .int .i64 wg) (g := ga) tb (by omega)
          replace ta := put6_own (x0 := .int .i64 L) (x1 := .int .i64 sl) (x2 := .int .i64 rl) (x3 := .int .i64 rh) (x4 := .slice X n xx) (x5 := .int .i64 wg) ta
          obtain ⟨W8, hW9⟩ : ∃ W9, W9 = put6 W' ga (.int .i64 L) (.int .i64 sl) (.int .i64 rl) (.int .i64 rh) (.slice X n xx) (.int .i64 wg) := ⟨_, rfl⟩
          rw [← hW9] at Ga Gb o p hB ta tb
          simp only [put6] at hW9
          rw [← hW9]
          clear hW9
          refine rg_one (fuel := 0) 7 rfl (by kernel_rfl) (by kernel_rfl) ?_
          simp only [pick1, wpHead]
          intro K hK
          rw [if_pos (by rfl)]
          obtain ⟨ly, ky, fy⟩ := tb.own
          go_simp
          refine hK.out _ _ (put6_other o (by omega)) ?_
          clear hK K ly ky fy
          replace Ga := put6_gro (x0 := .int .i64 L) (x1 := .int .i64 sl) (x2 := .int .i64 rl) (x3 := .int .i64 rh) (x4 := .slice Y n yy) (x5 := .int .i64 wg) Ga (tb.apart Ga (by decide))
          replace Gb := put6_gro (x0 := .int .i64 L) (x1 := .int .i64 sl) (x2 := .int .i64 rl) (x3 := .int .i64 rh) (x4 := .slice Y n yy) (x5 := .int .i64 wg) Gb (tb.apart Gb (by decide))
          replace o := put6_other (x0 := .int .i64 L) (x1 := .int .i64 sl) (x2 := .int .i64 rl) (x3 := .int .i64 rh) (x4 := .slice Y n yy) (x5 := .int .i64 wg) (g := gb) o (by omega)
          replace p := put6_other (x0 := .int .i64 L) (x1 := .int .i64 sl) (x2 := .int .i64 rl) (x3 := .int .i64 rh) (x4 := .slice Y n yy) (x5 := .int .i64 wg) (g := gb) p (by omega)
          replace hB := put6_below (x0 := .int .i64 L) (x1 := .int .i64 sl) (x2 := .int .i64 rl) (x3 := .int .i64 rh) (x4 := .slice Y n yy) (x5 := .int .i64 wg) (g := gb) hB (by omega)
          replace ta := put6_ownT (x0 := .int .i64 L) (x1 := .int .i64 sl) (x2 := .int .i64 rl) (x3 := .int .i64 rh) (x4 := .slice Y n yy) (x5 := .int .i64 wg) (g := gb) ta (by omega)
          replace tb := put6_own (x0 := .int .i64 L) (x1 := .int .i64 sl) (x2 := .int .i64 rl) (x3 := .int .i64 rh) (x4 := .slice Y n yy) (x5 := .int .i64 wg) tb
          obtain ⟨W9, hW9⟩ : ∃ W9, W9 = put6 W8 gb (.int .i64 L) (.int .i64 sl) (.int .i64 rl) (.int .i64 rh) (.slice Y n yy) (.int .i64 wg) := ⟨_, rfl⟩
          rw [← hW9] at Ga Gb o p hB ta tb
          simp only [put6] at hW9
          rw [← hW9]
          clear hW9
          refine rg_done (by kernel_rfl) ?_
          have r := rest ga gb nb X Y xx yy _ hB o p ta.own tb.own (Lib.hid Ga) (Lib.hid Gb) (by omega) (Lib.hid fun k e => ⟨(la k e).1, (la k e).2, fun e9 => ta.apart Ga (by decide) (e9 ▸ e), fun e9 => tb.apart Ga (by decide) (e9 ▸ e)⟩) (Lib.hid fun k e => ⟨(ownsRow_lt Gb k e).1, fun e9 => ta.apart Gb (by decide) (e9 ▸ e), fun e9 => tb.apart Gb (by decide) (e9 ▸ e)⟩)
          simp only [Act.put, List.setIfInBounds_toArray, List.set_cons_zero, List.set_cons_succ] at r
          (try simp only [Act.put, List.setIfInBounds_toArray, List.set_cons_zero, List.set_cons_succ])
          exact r
      · intro K hK
        simp only [pick1, wpHead]
        rw [if_pos (by rfl)]
        go_simp
        have hg := p.lt
        have tb := OwnT.new W' #[.int .i64 0, .int .i64 0, .int .i64 0, .int .i64 0, .slice none 0 0, .int .i64 0] 26
        have hb := (Below.refl W'.heap.size W').alloc (Nat.le_refl _) (.cells #[.int .i64 0, .int .i64 0, .int .i64 0, .int .i64 0, .slice none 0 0, .int .i64 0] 26)
        have habx := ta.lt
        have hgb : w.heap.size + 2 ≤ W'.heap.size := p.lt
        obtain ⟨gb, hge⟩ : ∃ g, g = W'.heap.size := ⟨_, rfl⟩
        rw [← hge] at tb hgb habx ⊢
        generalize hWe : World.alloc W' _ = W' at hb tb ⊢
        have hab : ga ≠ gb := by omega
        clear hge hWe hg
        replace o := o.below hb o.lt
        replace p := p.below hb p.lt
        refine hK.out _ _ o ?_
        replace hB := hB.trans (hb.mono hB.size)
        replace Ga := Ga.below hb (Nat.le_refl _)
        replace ta := ta.below hb ta.lt
        clear hb hK
        (try simp only [Act.put, List.setIfInBounds_toArray, List.set_cons_zero, List.set_cons_succ])
        refine rg_many (fuel := 2) [3] rfl (by simp) (by kernel_rfl) (by kernel_rfl) ?_
        intro c hc
        rcases (show c = 3 by simpa using hc) with rfl
        · intro K hK
          simp only [pick1, wpHead]
          rw [if_pos (by rfl)]
          go_simp
          refine (copy14 L sl rl rh wg A n cap ks _ (HA.out.below hB (Nat.le_refl _)) hn (by omega)).mono ?_
          rintro e W' ⟨Y, yy, rfl, Gb, hb⟩
          have hnb := p.lt
          have la := ownsRow_lt Ga
          generalize hnbe : World.heap _ = hp at Gb la hnb
          generalize hnbe : Array.size hp = nb at Gb la hnb
          go_simp
          replace o := o.below hb o.lt
          replace p := p.below hb p.lt
          refine hK.out _ _ o ?_
          replace hB := hB.trans (hb.mono hB.size)
          replace Ga := Ga.below hb (Nat.le_refl _)
          replace ta := ta.below hb ta.lt
          replace tb := tb.below hb tb.lt
          clear hb hK
          (try simp only [Act.put, List.setIfInBounds_toArray, List.set_cons_zero, List.set_cons_succ])
          refine rg_one (fuel := 1) 6 rfl (by kernel_rfl) (by kernel_rfl) ?_
          simp only [pick1, wpHead]
          intro K hK
          rw [if_pos (by rfl)]
          obtain ⟨ly, ky, fy⟩ := ta.own
          go_simp
          refine hK.out _ _ (put6_other o (by omega)) ?_
          clear hK K ly ky fy
          replace Ga := put6_gro (x0 := .int .i64 L) (x1 := .int .i64 sl) (x2 := .int .i64 rl) (x3 := .int .i64 rh) (x4 := .slice X n xx) (x5 := .int .i64 wg) Ga (ta.apart Ga (by decide))
          replace Gb := put6_gro (x0 := .int .i64 L) (x1 := .int .i64 sl) (x2 := .int .i64 rl) (x3 := .int .i64 rh) (x4 := .slice X n xx) (x5 := .int .i64 wg) Gb (ta.apart Gb (by decide))
          replace o := put6_other (x0 := .int .i64 L) (x1 := .int .i64 sl) (x2 := .int .i64 rl) (x3 := .int .i64 rh) (x4 := .slice X n xx) (x5 := .int .i64 wg) (g := ga) o (by omega)
          replace p := put6_other (x0 := .int .i64 L) (x1 := .int .i64 sl) (x2 := .int .i64 rl) (x3 := .int .i64 rh) (x4 := .slice X n xx) (x5 := .int .i64 wg) (g := ga) p (by omega)
          replace hB := put6_below (x0 := .int .i64 L) (x1 := .int .i64 sl) (x2 := .int .i64 rl) (x3 := .int .i64 rh) (x4 := .slice X n xx) (x5 := .int .i64 wg) (g := ga) hB (by omega)
          replace tb := put6_ownT (x0 := .int .i64 L) (x1 := .int .i64 sl) (x2 := .int .i64 rl) (x3 := .int .i64 rh) (x4 := .slice X n xx) (x5 := .int .i64 wg) (g := ga) tb (by omega)
          replace ta := put6_own (x0 := .int .i64 L) (x1 := .int .i64 sl) (x2 := .int .i64 rl) (x3 := .int .i64 rh) (x4 := .slice X n xx) (x5 := .int .i64 wg) ta
          obtain ⟨W8, hW9⟩ : ∃ W9, W9 = put6 W' ga (.int .i64 L) (.int .i64 sl) (.int .i64 rl) (.int .i64 rh) (.slice X n xx) (.int .i64 wg) := ⟨_, rfl⟩
          rw [← hW9] at Ga Gb o p hB ta tb
          simp only [put6] at hW9
          rw [← hW9]
          clear hW9
          refine rg_one (fuel := 0) 7 rfl (by kernel_rfl) (by kernel_rfl) ?_
          simp only [pick1, wpHead]
          intro K hK
          rw [if_pos (by rfl)]
          obtain ⟨ly, ky, fy⟩ := tb.own
          go_simp
          refine hK.out _ _ (put6_other o (by omega)) ?_
          clear hK K ly ky fy
          replace Ga := put6_gro (x0 := .int .i64 L) (x1 := .int .i64 sl) (x2 := .int .i64 rl) (x3 := .int .i64 rh) (x4 := .slice Y n yy) (x5 := .int .i64 wg) Ga (tb.apart Ga (by decide))
          replace Gb := put6_gro (x0 := .int .i64 L) (x1 := .int .i64 sl) (x2 := .int .i64 rl) (x3 := .int .i64 rh) (x4 := .slice Y n yy) (x5 := .int .i64 wg) Gb (tb.apart Gb (by decide))
          replace o := put6_other (x0 := .int .i64 L) (x1 := .int .i64 sl) (x2 := .int .i64 rl) (x3 := .int .i64 rh) (x4 := .slice Y n yy) (x5 := .int .i64 wg) (g := gb) o (by omega)
          replace p := put6_other (x0 := .int .i64 L) (x1 := .int .i64 sl) (x2 := .int .i64 rl) (x3 := .int .i64 rh) (x4 := .slice Y n yy) (x5 := .int .i64 wg) (g := gb) p (by omega)
          replace hB := put6_below (x0 := .int .i64 L) (x1 := .int .i64 sl) (x2 := .int .i64 rl) (x3 := .int .i64 rh) (x4 := .slice Y n yy) (x5 := .int .i64 wg) (g := gb) hB (by omega)
          replace ta := put6_ownT (x0 := .int .i64 L) (x1 := .int .i64 sl) (x2 := .int .i64 rl) (x3 := .int .i64 rh) (x4 := .slice Y n yy) (x5 := .int .i64 wg) (g := gb) ta (by omega)
          replace tb := put6_own (x0 := .int .i64 L) (x1 := .int .i64 sl) (x2 := .int .i64 rl) (x3 := .int .i64 rh) (x4 := .slice Y n yy) (x5 := .int .i64 wg) tb
          obtain ⟨W9, hW9⟩ : ∃ W9, W9 = put6 W8 gb (.int .i64 L) (.int .i64 sl) (.int .i64 rl) (.int .i64 rh) (.slice Y n yy) (.int .i64 wg) := ⟨_, rfl⟩
          rw [← hW9] at Ga Gb o p hB ta tb
          simp only [put6] at hW9
          rw [← hW9]
          clear hW9
          refine rg_done (by kernel_rfl) ?_
          have r := rest ga gb nb X Y xx yy _ hB o p ta.own tb.own (Lib.hid Ga) (Lib.hid Gb) (by omega) (Lib.hid fun k e => ⟨(la k e).1, (la k e).2, fun e9 => ta.apart Ga (by decide) (e9 ▸ e), fun e9 => tb.apart Ga (by decide) (e9 ▸ e)⟩) (Lib.hid fun k e => ⟨(ownsRow_lt Gb k e).1, fun e9 => ta.apart Gb (by decide) (e9 ▸ e), fun e9 => tb.apart Gb (by decide) (e9 ▸ e)⟩)
          simp only [Act.put, List.setIfInBounds_toArray, List.set_cons_zero, List.set_cons_succ] at r
          (try simp only [Act.put, List.setIfInBounds_toArray, List.set_cons_zero, List.set_cons_succ])
          exact r
    · intro K hK
      simp only [pick1, wpHead]
      rw [if_pos (by rfl)]
      go_simp
      have hg := p.lt
      have tb := OwnT.new W' #[.int .i64 0, .int .i64 0, .int .i64 0, .int .i64 0, .slice none 0 0, .int .i64 0] 26
      have hb := (Below.refl W'.heap.size W').alloc (Nat.le_refl _) (.cells #[.int .i64 0, .int .i64 0, .int .i64 0, .int .i64 0, .slice none 0 0, .int .i64 0] 26)
      have hgb : w.heap.size + 2 ≤ W'.heap.size := p.lt
      obtain ⟨gb, hge⟩ : ∃ g, g = W'.heap.size := ⟨_, rfl⟩
      rw [← hge] at tb hgb ⊢
      generalize hWe : World.alloc W' _ = W' at hb tb ⊢
      clear hge hWe hg
      replace o := o.below hb o.lt
      replace p := p.below hb p.lt
      refine hK.out _ _ o ?_
      replace hB := hB.trans (hb.mono hB.size)
      replace Ga := Ga.below hb (Nat.le_refl _)
      clear hb hK
      (try simp only [Act.put, List.setIfInBounds_toArray, List.set_cons_zero, List.set_cons_succ])
      refine rg_many (fuel := 3) [3, 4] rfl (by simp) (by kernel_rfl) (by kernel_rfl) ?_
      intro c hc
      rcases (show c = 3 ∨ c = 4 by simpa using hc) with rfl | rfl
      · intro K hK
        simp only [pick1, wpHead]
        rw [if_pos (by rfl)]
        go_simp
        refine (copy14 L sl rl rh wg A n cap ks _ (HA.out.below hB (Nat.le_refl _)) hn (by omega)).mono ?_
        rintro e W' ⟨Y, yy, rfl, Gb, hb⟩
        have hnb := p.lt
        have la := ownsRow_lt Ga
        generalize hnbe : World.heap _ = hp at Gb la hnb
        generalize hnbe : Array.size hp = nb at Gb la hnb
        go_simp
        replace o := o.below hb o.lt
        replace p := p.below hb p.lt
        refine hK.out _ _ o ?_
        replace hB := hB.trans (hb.mono hB.size)
        replace Ga := Ga.below hb (Nat.le_refl _)
        replace tb := tb.below hb tb.lt
        clear hb hK
        (try simp only [Act.put, List.setIfInBounds_toArray, List.set_cons_zero, List.set_cons_succ])
        refine rg_many (fuel := 2) [4] rfl (by simp) (by kernel_rfl) (by kernel_rfl) ?_
        intro c hc
        rcases (show c = 4 by simpa using hc) with rfl
        · intro K hK
          simp only [pick1, wpHead]
          rw [if_pos (by rfl)]
          go_simp
          have hg := p.lt
          have ta := OwnT.new W' #[.int .i64 0, .int .i64 0, .int .i64 0, .int .i64 0, .slice none 0 0, .int .i64 0] 26
          have hb := (Below.refl W'.heap.size W').alloc (Nat.le_refl _) (.cells #[.int .i64 0, .int .i64 0, .int .i64 0, .int .i64 0, .slice none 0 0, .int .i64 0] 26)
          have habx := tb.lt
          have hga : w.heap.size + 2 ≤ W'.heap.size := p.lt
          obtain ⟨ga, hge⟩ : ∃ g, g = W'.heap.size := ⟨_, rfl⟩
          rw [← hge] at ta hga habx ⊢
          generalize hWe : World.alloc W' _ = W' at hb ta ⊢
          have hab : ga ≠ gb := by omega
          clear hge hWe hg
          replace o := o.below hb o.lt
          replace p := p.below hb p.lt
          refine hK.out _ _ o ?_
          replace hB := hB.trans (hb.mono hB.size)
          replace Ga := Ga.below hb (Nat.le_refl _)
          replace Gb := Gb.below hb (Nat.le_refl _)
          replace tb := tb.below hb tb.lt
          clear hb hK
          (try simp only [Act.put, List.setIfInBounds_toArray, List.set_cons_zero, List.set_cons_succ])
          refine rg_one (fuel := 1) 6 rfl (by kernel_rfl) (by kernel_rfl) ?_
          simp only [pick1, wpHead]
          intro K hK
          rw [if_pos (by rfl)]
          obtain ⟨ly, ky, fy⟩ := ta.own
          go_simp
          refine hK.out _ _ (put6_other o (by omega)) ?_
          clear hK K ly ky fy
          replace Ga := put6_gro (x0 := .int .i64 L) (x1 := .int .i64 sl) (x2 := .int .i64 rl) (x3 := .int .i64 rh) (x4 := .slice X n xx) (x5 := .int .i64 wg) Ga (ta.apart Ga (by decide))
          replace Gb := put6_gro (x0 := .int .i64 L) (x1 := .int .i64 sl) (x2 := .int .i64 rl) (x3 := .int .i64 rh) (x4 := .slice X n xx) (x5 := .int .i64 wg) Gb (ta.apart Gb (by decide))
          replace o := put6_other (x0 := .int .i64 L) (x1 := .int .i64 sl) (x2 := .int .i64 rl) (x3 := .int .i64 rh) (x4 := .slice X n xx) (x5 := .int .i64 wg) (g := ga) o (by omega)
          replace p := put6_other (x0 := .int .i64 L) (x1 := .int .i64 sl) (x2 := .int .i64 rl) (x3 := .int .i64 rh) (x4 := .slice X n xx) (x5 := .int .i64 wg) (g := ga) p (by omega)
          replace hB := put6_below (x0 := .int .i64 L) (x1 := .int .i64 sl) (x2 := .int .i64 rl) (x3 := .int .i64 rh) (x4 := .slice X n xx) (x5 := .int .i64 wg) (g := ga) hB (by omega)
          replace tb := put6_ownT (x0 := .int .i64 L) (x1 := .int .i64 sl) (x2 := .int .i64 rl) (x3 := .int .i64 rh) (x4 := .slice X n xx) (x5 := .int .i64 wg) (g := ga) tb (by omega)
          replace ta := put6_own (x0 := .int .i64 L) (x1 := .int .i64 sl) (x2 := .int .i64 rl) (x3 := .int .i64 rh) (x4 := .slice X n xx) (x5 := .int .i64 wg) ta
          obtain ⟨W8, hW9⟩ : ∃ W9, W9 = put6 W' ga (.int .i64 L) (.int .i64 sl) (.int .i64 rl) (.int .i64 rh) (.slice X n xx) (.int .i64 wg) := ⟨_, rfl⟩
          rw [← hW9] at Ga Gb o p hB ta tb
          simp only [put6] at hW9
          rw [← hW9]
          clear hW9
          refine rg_one (fuel := 0) 7 rfl (by kernel_rfl) (by kernel_rfl) ?_
          simp only [pick1, wpHead]
          intro K hK
          rw [if_pos (by rfl)]
          obtain ⟨ly, ky, fy⟩ := tb.own
          go_simp
          refine hK.out _ _ (put6_other o (by omega)) ?_
          clear hK K ly ky fy
          replace Ga := put6_gro (x0 := .int .i64 L) (x1 := .int .i64 sl) (x2 := .int .i64 rl) (x3 := .int .i64 rh) (x4 := .slice Y n yy) (x5 := .int .i64 wg) Ga (tb.apart Ga (by decide))
          replace Gb := put6_gro (x0 := .int .i64 L) (x1 := .int .i64 sl) (x2 := .int .i64 rl) (x3 := .int .i64 rh) (x4 := .slice Y n yy) (x5 := .int .i64 wg) Gb (tb.apart Gb (by decide))
          replace o := put6_other (x0 := .int .i64 L) (x1 := .int .i64 sl) (x2 := .int .i64 rl) (x3 := .int .i64 rh) (x4 := .slice Y n yy) (x5 := .int .i64 wg) (g := gb) o (by omega)
          replace p := put6_other (x0 := .int .i64 L) (x1 := .int .i64 sl) (x2 := .int .i64 rl) (x3 := .int .i64 rh) (x4 := .slice Y n yy) (x5 := .int .i64 wg) (g := gb) p (by omega)
          replace hB := put6_below (x0 := .int .i64 L) (x1 := .int .i64 sl) (x2 := .int .i64 rl) (x3 := .int .i64 rh) (x4 := .slice Y n yy) (x5 := .int .i64 wg) (g := gb) hB (by omega)
          replace ta := put6_ownT (x0 := .int .i64 L) (x1 := .int .i64 sl) (x2 := .int .i64 rl) (x3 := .int .i64 rh) (x4 := .slice Y n yy) (x5 := .int .i64 wg) (g := gb) ta (by omega)
          replace tb := put6_own (x0 := .int .i64 L) (x1 := .int .i64 sl) (x2 := .int .i64 rl) (x3 := .int .i64 rh) (x4 := .slice Y n yy) (x5 := .int .i64 wg) tb
          obtain ⟨W9, hW9⟩ : ∃ W9, W9 = put6 W8 gb (.int .i64 L) (.int .i64 sl) (.int .i64 rl) (.int .i64 rh) (.slice Y n yy) (.int .i64 wg) := ⟨_, rfl⟩
          rw [← hW9] at Ga Gb o p hB ta tb
          simp only [put6] at hW9
          rw [← hW9]
          clear hW9
          refine rg_done (by kernel_rfl) ?_
          have r := rest ga gb nb X Y xx yy _ hB o p ta.own tb.own (Lib.hid Ga) (Lib.hid Gb) (by omega) (Lib.hid fun k e => ⟨(la k e).1, (la k e).2, fun e9 => ta.apart Ga (by decide) (e9 ▸ e), fun e9 => tb.apart Ga (by decide) (e9 ▸ e)⟩) (Lib.hid fun k e => ⟨(ownsRow_lt Gb k e).1, fun e9 => ta.apart Gb (by decide) (e9 ▸ e), fun e9 => tb.apart Gb (by decide) (e9 ▸ e)⟩)
          simp only [Act.put, List.setIfInBounds_toArray, List.set_cons_zero, List.set_cons_succ] at r
          (try simp only [Act.put, List.setIfInBounds_toArray, List.set_cons_zero, List.set_cons_succ])
          exact r
      · intro K hK
        simp only [pick1, wpHead]
        rw [if_pos (by rfl)]
        go_simp
        have hg := p.lt
        have ta := OwnT.new W' #[.int .i64 0, .int .i64 0, .int .i64 0, .int .i64 0, .slice none 0 0, .int .i64 0] 26
        have hb := (Below.refl W'.heap.size W').alloc (Nat.le_refl _) (.cells #[.int .i64 0, .int .i64 0, .int .i64 0, .int .i64 0, .slice none 0 0, .int .i64 0] 26)
        have habx := tb.lt
        have hga : w.heap.size + 2 ≤ W'.heap.size := p.lt
        obtain ⟨ga, hge⟩ : ∃ g, g = W'.heap.size := ⟨_, rfl⟩
        rw [← hge] at ta hga habx ⊢
        generalize hWe : World.alloc W' _ = W' at hb ta ⊢
        have hab : ga ≠ gb := by omega
        clear hge hWe hg
        replace o := o.below hb o.lt
        replace p := p.below hb p.lt
        refine hK.out _ _ o ?_
        replace hB := hB.trans (hb.mono hB.size)
        replace Ga := Ga.below hb (Nat.le_refl _)
        replace tb := tb.below hb tb.lt
        clear hb hK
        (try simp only [Act.put, List.setIfInBounds_toArray, List.set_cons_zero, List.set_cons_succ])
        refine rg_many (fuel := 2) [3] rfl (by simp) (by kernel_rfl) (by kernel_rfl) ?_
        intro c hc
        rcases (show c = 3 by simpa using hc) with rfl
        · intro K hK
          simp only [pick1, wpHead]
          rw [if_pos (by rfl)]
          go_simp
          refine (copy14 L sl rl rh wg A n cap ks _ (HA.out.below hB (Nat.le_refl _)) hn (by omega)).mono ?_
          rintro e W' ⟨Y, yy, rfl, Gb, hb⟩
          have hnb := p.lt
          have la := ownsRow_lt Ga
          generalize hnbe : World.heap _ = hp at Gb la hnb
          generalize hnbe : Array.size hp = nb at Gb la hnb
          go_simp
          replace o := o.below hb o.lt
          replace p := p.below hb p.lt
          refine hK.out _ _ o ?_
          replace hB := hB.trans (hb.mono hB.size)
          replace Ga := Ga.below hb (Nat.le_refl _)
          replace ta := ta.below hb ta.lt
          replace tb := tb.below hb tb.lt
          clear hb hK
          (try simp only [Act.put, List.setIfInBounds_toArray, List.set_cons_zero, List.set_cons_succ])
          refine rg_one (fuel := 1) 6 rfl (by kernel_rfl) (by kernel_rfl) ?_
          simp only [pick1, wpHead]
          intro K hK
          rw [if_pos (by rfl)]
          obtain ⟨ly, ky, fy⟩ := ta.own
          go_simp
          refine hK.out _ _ (put6_other o (by omega)) ?_
          clear hK K ly ky fy
          replace Ga := put6_gro (x0 := .int .i64 L) (x1 := .int .i64 sl) (x2 := .int .i64 rl) (x3 := .int .i64 rh) (x4 := .slice X n xx) (x5 := .int .i64 wg) Ga (ta.apart Ga (by decide))
          replace Gb := put6_gro (x0 := .int .i64 L) (x1 := .int .i64 sl) (x2 := .int .i64 rl) (x3 := .int .i64 rh) (x4 := .slice X n xx) (x5 := .int .i64 wg) Gb (ta.apart Gb (by decide))
          replace o := put6_other (x0 := .int .i64 L) (x1 := .int .i64 sl) (x2 := .int .i64 rl) (x3 := .int .i64 rh) (x4 := .slice X n xx) (x5 := .int .i64 wg) (g := ga) o (by omega)
          replace p := put6_other (x0 := .int .i64 L) (x1 := .int .i64 sl) (x2 := .int .i64 rl) (x3 := .int .i64 rh) (x4 := .slice X n xx) (x5 := .int .i64 wg) (g := ga) p (by omega)
          replace hB := put6_below (x0 := .int .i64 L) (x1 := .int .i64 sl) (x2 := .int .i64 rl) (x3 := .int .i64 rh) (x4 := .slice X n xx) (x5 := .int .i64 wg) (g := ga) hB (by omega)
          replace tb := put6_ownT (x0 := .int .i64 L) (x1 := .int .i64 sl) (x2 := .int .i64 rl) (x3 := .int .i64 rh) (x4 := .slice X n xx) (x5 := .int .i64 wg) (g := ga) tb (by omega)
          replace ta := put6_own (x0 := .int .i64 L) (x1 := .int .i64 sl) (x2 := .int .i64 rl) (x3 := .int .i64 rh) (x4 := .slice X n xx) (x5 := .int .i64 wg) ta
          obtain ⟨W8, hW9⟩ : ∃ W9, W9 = put6 W' ga (.int .i64 L) (.int .i64 sl) (.int .i64 rl) (.int .i64 rh) (.slice X n xx) (.int .i64 wg) := ⟨_, rfl⟩
          rw [← hW9] at Ga Gb o p hB ta tb
          simp only [put6] at hW9
          rw [← hW9]
          clear hW9
          refine rg_one (fuel := 0) 7 rfl (by kernel_rfl) (by kernel_rfl) ?_
          simp only [pick1, wpHead]
          intro K hK
          rw [if_pos (by rfl)]
          obtain ⟨ly, ky, fy⟩ := tb.own
          go_simp
          refine hK.out _ _ (put6_other o (by omega)) ?_
          clear hK K ly ky fy
          replace Ga := put6_gro (x0 := .int .i64 L) (x1 := .int .i64 sl) (x2 := .int .i64 rl) (x3 := .int .i64 rh) (x4 := .slice Y n yy) (x5 := .int .i64 wg) Ga (tb.apart Ga (by decide))
          replace Gb := put6_gro (x0 := .int .i64 L) (x1 := .int .i64 sl) (x2 := .int .i64 rl) (x3 := .int .i64 rh) (x4 := .slice Y n yy) (x5 := .int .i64 wg) Gb (tb.apart Gb (by decide))
          replace o := put6_other (x0 := .int .i64 L) (x1 := .int .i64 sl) (x2 := .int .i64 rl) (x3 := .int .i64 rh) (x4 := .slice Y n yy) (x5 := .int .i64 wg) (g := gb) o (by omega)
          replace p := put6_other (x0 := .int .i64 L) (x1 := .int .i64 sl) (x2 := .int .i64 rl) (x3 := .int .i64 rh) (x4 := .slice Y n yy) (x5 := .int .i64 wg) (g := gb) p (by omega)
          replace hB := put6_below (x0 := .int .i64 L) (x1 := .int .i64 sl) (x2 := .int .i64 rl) (x3 := .int .i64 rh) (x4 := .slice Y n yy) (x5 := .int .i64 wg) (g := gb) hB (by omega)
          replace ta := put6_ownT (x0 := .int .i64 L) (x1 := .int .i64 sl) (x2 := .int .i64 rl) (x3 := .int .i64 rh) (x4 := .slice Y n yy) (x5 := .int .i64 wg) (g := gb) ta (by omega)
          replace tb := put6_own (x0 := .int .i64 L) (x1 := .int .i64 sl) (x2 := .int .i64 rl) (x3 := .int .i64 rh) (x4 := .slice Y n yy) (x5 := .int .i64 wg) tb
          obtain ⟨W9, hW9⟩ : ∃ W9, W9 = put6 W8 gb (.int .i64 L) (.int .i64 sl) (.int .i64 rl) (.int .i64 rh) (.slice Y n yy) (.int .i64 wg) := ⟨_, rfl⟩
          rw [← hW9] at Ga Gb o p hB ta tb
          simp only [put6] at hW9
          rw [← hW9]
          clear hW9
          refine rg_done (by kernel_rfl) ?_
          have r := rest ga gb nb X Y xx yy _ hB o p ta.own tb.own (Lib.hid Ga) (Lib.hid Gb) (by omega) (Lib.hid fun k e => ⟨(la k e).1, (la k e).2, fun e9 => ta.apart Ga (by decide) (e9 ▸ e), fun e9 => tb.apart Ga (by decide) (e9 ▸ e)⟩) (Lib.hid fun k e => ⟨(ownsRow_lt Gb k e).1, fun e9 => ta.apart Gb (by decide) (e9 ▸ e), fun e9 => tb.apart Gb (by decide) (e9 ▸ e)⟩)
          simp only [Act.put, List.setIfInBounds_toArray, List.set_cons_zero, List.set_cons_succ] at r
          (try simp only [Act.put, List.setIfInBounds_toArray, List.set_cons_zero, List.set_cons_succ])
          exact r
  · intro K hK
    simp only [pick1, wpHead]
    rw [if_pos (by rfl)]
    go_simp
    have hg := p.lt
    have ta := OwnT.new W #[.int .i64 0, .int .i64 0, .int .i64 0, .int .i64 0, .slice none 0 0, .int .i64 0] 26
    have hb := (Below.refl W.heap.size W).alloc (Nat.le_refl _) (.cells #[.int .i64 0, .int .i64 0, .int .i64 0, .int .i64 0, .slice none 0 0, .int .i64 0] 26)
    have hga : w.heap.size + 2 ≤ W.heap.size := p.lt
    obtain ⟨ga, hge⟩ : ∃ g, g = W.heap.size := ⟨_, rfl⟩
    rw [← hge] at ta hga ⊢
    generalize hWe : World.alloc W _ = W' at hb ta ⊢
    clear hge hWe hg
    replace o := o.below hb o.lt
    replace p := p.below hb p.lt
    refine hK.out _ _ o ?_
    replace hB := hB.trans (hb.mono hB.size)
    clear hb hK
    (try simp only [Act.put, List.setIfInBounds_toArray, List.set_cons_zero, List.set_cons_succ])
    refine rg_many (fuel := 4) [1, 5] rfl (by simp) (by kernel_rfl) (by kernel_rfl) ?_
    intro c hc
    rcases (show c = 1 ∨ c = 5 by simpa using hc) with rfl | rfl
    · intro K hK
      simp only [pick1, wpHead]
      rw [if_pos (by rfl)]
      go_simp
      refine (copy14 L sl rl rh wg A n cap ks _ (HA.out.below hB (Nat.le_refl _)) hn (by omega)).mono ?_
      rintro e W' ⟨X, xx, rfl, Ga, hb⟩
      replace Ga := Ga.base (base' := w.heap.size + 2) p.lt
      go_simp
      replace o := o.below hb o.lt
      replace p := p.below hb p.lt
      refine hK.out _ _ o ?_
      replace hB := hB.trans (hb.mono hB.size)
      replace ta := ta.below hb ta.lt
      clear hb hK
      (try simp only [Act.put, List.setIfInBounds_toArray, List.set_cons_zero, List.set_cons_succ])
      refine rg_many (fuel := 3) [3, 5] rfl (by simp) (by kernel_rfl) (by kernel_rfl) ?_
      intro c hc
      rcases (show c = 3 ∨ c = 5 by simpa using hc) with rfl | rfl
      · intro K hK
        simp only [pick1, wpHead]
        rw [if_pos (by rfl)]
        go_simp
        refine (copy14 L sl rl rh wg A n cap ks _ (HA.out.below hB (Nat.le_refl _)) hn (by omega)).mono ?_
        rintro e W' ⟨Y, yy, rfl, Gb, hb⟩
        have hnb := p.lt
        have la := ownsRow_lt Ga
        generalize hnbe : World.heap _ = hp at Gb la hnb
        generalize hnbe : Array.size hp = nb at Gb la hnb
        go_simp
        replace o := o.below hb o.lt
        replace p := p.below hb p.lt
        refine hK.out _ _ o ?_
        replace hB := hB.trans (hb.mono hB.size)
        replace Ga := Ga.below hb (Nat.le_refl _)
        replace ta := ta.below hb ta.lt
        clear hb hK
        (try simp only [Act.put, List.setIfInBounds_toArray, List.set_cons_zero, List.set_cons_succ])
        refine rg_many (fuel := 2) [5] rfl (by simp) (by kernel_rfl) (by kernel_rfl) ?_
        intro c hc
        rcases (show c = 5 by simpa using hc) with rfl
        · intro K hK
          simp only [pick1, wpHead]
          rw [if_pos (by rfl)]
          go_simp
          have hg := p.lt
          have tb := OwnT.new W' #[.int .i64 0, .int .i64 0, .int .i64 0, .int .i64 0, .slice none 0 0, .int .i64 0] 26
          have hb := (Below.refl W'.heap.size W').alloc (Nat.le_refl _) (.cells #[.int .i64 0, .int .i64 0, .int .i64 0, .int .i64 0, .slice none 0 0, .int .i64 0] 26)
          have habx := ta.lt
          have hgb : w.heap.size + 2 ≤ W'.heap.size := p.lt
          obtain ⟨gb, hge⟩ : ∃ g, g = W'.heap.size := ⟨_, rfl⟩
          rw [← hge] at tb hgb habx ⊢
          generalize hWe : World.alloc W' _ = W' at hb tb ⊢
          have hab : ga ≠ gb := by omega
          clear hge hWe hg
          replace o := o.below hb o.lt
          replace p := p.below hb p.lt
          refine hK.out _ _ o ?_
          replace hB := hB.trans (hb.mono hB.size)
          replace Ga := Ga.below hb (Nat.le_refl _)
          replace Gb := Gb.below hb (Nat.le_refl _)
          replace ta := ta.below hb ta.lt
          clear hb hK
          (try simp only [Act.put, List.setIfInBounds_toArray, List.set_cons_zero, List.set_cons_succ])
          refine rg_one (fuel := 1) 6 rfl (by kernel_rfl) (by kernel_rfl) ?_
          simp only [pick1, wpHead]
          intro K hK
          rw [if_pos (by rfl)]
          obtain ⟨ly, ky, fy⟩ := ta.own
          go_simp
          refine hK.out _ _ (put6_other o (by omega)) ?_
          clear hK K ly ky fy
          replace Ga := put6_gro (x0 := .int .i64 L) (x1 := .int .i64 sl) (x2 := .int .i64 rl) (x3 := .int .i64 rh) (x4 := .slice X n xx) (x5 := .int .i64 wg) Ga (ta.apart Ga (by decide))
          replace Gb := put6_gro (x0 := .int .i64 L) (x1 := .int .i64 sl) (x2 := .int .i64 rl) (x3 := .int .i64 rh) (x4 := .slice X n xx) (x5 := .int .i64 wg) Gb (ta.apart Gb (by decide))
          replace o := put6_other (x0 := .int .i64 L) (x1 := .int .i64 sl) (x2 := .int .i64 rl) (x3 := .int .i64 rh) (x4 := .slice X n xx) (x5 := .int .i64 wg) (g := ga) o (by omega)
          replace p := put6_other (x0 := .int .i64 L) (x1 := .int .i64 sl) (x2 := .int .i64 rl) (x3 := .int .i64 rh) (x4 := .slice X n xx) (x5 := .int .i64 wg) (g := ga) p (by omega)
          replace hB := put6_below (x0 := .int .i64 L) (x1 := .int .i64 sl) (x2 := .int .i64 rl) (x3 := .int .i64 rh) (x4 := .slice X n xx) (x5 := .int .i64 wg) (g := ga) hB (by omega)
          replace tb := put6_ownT (x0 := .int .i64 L) (x1 := .int .i64 sl) (x2 := .int .i64 rl) (x3 := .int .i64 rh) (x4 := .slice X n xx) (x5 := .int .i64 wg) (g := ga) tb (by omega)
          replace ta := put6_own (x0 := .int .i64 L) (x1 := .int .i64 sl) (x2 := .int .i64 rl) (x3 := .int .i64 rh) (x4 := .slice X n xx) (x5 := .int .i64 wg) ta
          obtain ⟨W8, hW9⟩ : ∃ W9, W9 = put6 W' ga (.int .i64 L) (.int .i64 sl) (.int .i64 rl) (.int .i64 rh) (.slice X n xx) (.int .i64 wg) := ⟨_, rfl⟩
          rw [← hW9] at Ga Gb o p hB ta tb
          simp only [put6] at hW9
          rw [← hW9]
          clear hW9
          refine rg_one (fuel := 0) 7 rfl (by kernel_rfl) (by kernel_rfl) ?_
          simp only [pick1, wpHead]
          intro K hK
          rw [if_pos (by rfl)]
          obtain ⟨ly, ky, fy⟩ := tb.own
          go_simp
          refine hK.out _ _ (put6_other o (by omega)) ?_
          clear hK K ly ky fy
          replace Ga := put6_gro (x0 := .int .i64 L) (x1 := .int .i64 sl) (x2 := .int .i64 rl) (x3 := .int .i64 rh) (x4 := .slice Y n yy) (x5 := .int .i64 wg) Ga (tb.apart Ga (by decide))
          replace Gb := put6_gro (x0 := .int .i64 L) (x1 := .int .i64 sl) (x2 := .int .i64 rl) (x3 := .int .i64 rh) (x4 := .slice Y n yy) (x5 := .int .i64 wg) Gb (tb.apart Gb (by decide))
          replace o := put6_other (x0 := .int .i64 L) (x1 := .int .i64 sl) (x2 := .int .i64 rl) (x3 := .int .i64 rh) (x4 := .slice Y n yy) (x5 := .int .i64 wg) (g := gb) o (by omega)
          replace p := put6_other (x0 := .int .i64 L) (x1 := .int .i64 sl) (x2 := .int .i64 rl) (x3 := .int .i64 rh) (x4 := .slice Y n yy) (x5 := .int .i64 wg) (g := gb) p (by omega)
          replace hB := put6_below (x0 := .int .i64 L) (x1 := .int .i64 sl) (x2 := .int .i64 rl) (x3 := .int .i64 rh) (x4 := .slice Y n yy) (x5 := .int .i64 wg) (g := gb) hB (by omega)
          replace ta := put6_ownT (x0 := .int .i64 L) (x1 := .int .i64 sl) (x2 := .int .i64 rl) (x3 := .int .i64 rh) (x4 := .slice Y n yy) (x5 := .int .i64 wg) (g := gb) ta (by omega)
          replace tb := put6_own (x0 := .int .i64 L) (x1 := .int .i64 sl) (x2 := .int .i64 rl) (x3 := .int .i64 rh) (x4 := .slice Y n yy) (x5 := .int .i64 wg) tb
          obtain ⟨W9, hW9⟩ : ∃ W9, W9 = put6 W8 gb (.int .i64 L) (.int .i64 sl) (.int .i64 rl) (.int .i64 rh) (.slice Y n yy) (.int .i64 wg) := ⟨_, rfl⟩
          rw [← hW9] at Ga Gb o p hB ta tb
          simp only [put6] at hW9
          rw [← hW9]
          clear hW9
          refine rg_done (by kernel_rfl) ?_
          have r := rest ga gb nb X Y xx yy _ hB o p ta.own tb.own (Lib.hid Ga) (Lib.hid Gb) (by omega) (Lib.hid fun k e => ⟨(la k e).1, (la k e).2, fun e9 => ta.apart Ga (by decide) (e9 ▸ e), fun e9 => tb.apart Ga (by decide) (e9 ▸ e)⟩) (Lib.hid fun k e => ⟨(ownsRow_lt Gb k e).1, fun e9 => ta.apart Gb (by decide) (e9 ▸ e), fun e9 => tb.apart Gb (by decide) (e9 ▸ e)⟩)
          simp only [Act.put, List.setIfInBounds_toArray, List.set_cons_zero, List.set_cons_succ] at r
          (try simp only [Act.put, List.setIfInBounds_toArray, List.set_cons_zero, List.set_cons_succ])
          exact r
      · intro K hK
        simp only [pick1, wpHead]
        rw [if_pos (by rfl)]
        go_simp
        have hg := p.lt
        have tb := OwnT.new W' #[.int .i64 0, .int .i64 0, .int .i64 0, .int .i64 0, .slice none 0 0, .int .i64 0] 26
        have hb := (Below.refl W'.heap.size W').alloc (Nat.le_refl _) (.cells #[.int .i64 0, .int .i64 0, .int .i64 0, .int .i64 0, .slice none 0 0, .int .i64 0] 26)
        have habx := ta.lt
        have hgb : w.heap.size + 2 ≤ W'.heap.size := p.lt
        obtain ⟨gb, hge⟩ : ∃ g, g = W'.heap.size := ⟨_, rfl⟩
        rw [← hge] at tb hgb habx ⊢
        generalize hWe : World.alloc W' _ = W' at hb tb ⊢
        have hab : ga ≠ gb := by omega
        clear hge hWe hg
        replace o := o.below hb o.lt
        replace p := p.below hb p.lt
        refine hK.out _ _ o ?_
        replace hB := hB.trans (hb.mono hB.size)
        replace Ga := Ga.below hb (Nat.le_refl _)
        replace ta := ta.below hb ta.lt
        clear hb hK
        (try simp only [Act.put, List.setIfInBounds_toArray, List.set_cons_zero, List.set_cons_succ])
        refine rg_many (fuel := 2) [3] rfl (by simp) (by kernel_rfl) (by kernel_rfl) ?_
        intro c hc
        rcases (show c = 3 by simpa using hc) with rfl
        · intro K hK
          simp only [pick1, wpHead]
          rw [if_pos (by rfl)]
          go_simp
          refine (copy14 L sl rl rh wg A n cap ks _ (HA.out.below hB (Nat.le_refl _)) hn (by omega)).mono ?_
          rintro e W' ⟨Y, yy, rfl, Gb, hb⟩
          have hnb := p.lt
          have la := ownsRow_lt Ga
          generalize hnbe : World.heap _ = hp at Gb la hnb
          generalize hnbe : Array.size hp = nb at Gb la hnb
          go_simp
          replace o := o.below hb o.lt
          replace p := p.below hb p.lt
          refine hK.out _ _ o ?_
          replace hB := hB.trans (hb.mono hB.size)
          replace Ga := Ga.below hb (Nat.le_refl _)
          replace ta := ta.below hb ta.lt
          replace tb := tb.below hb tb.lt
          clear hb hK
          (try simp only [Act.put, List.setIfInBounds_toArray, List.set_cons_zero, List.set_cons_succ])
          refine rg_one (fuel := 1) 6 rfl (by kernel_rfl) (by kernel_rfl) ?_
          simp only [pick1, wpHead]
          intro K hK
          rw [if_pos (by rfl)]
          obtain ⟨ly, ky, fy⟩ := ta.own
          go_simp
          refine hK.out _ _ (put6_other o (by omega)) ?_
          clear hK K ly ky fy
          replace Ga := put6_gro (x0 := .int .i64 L) (x1 := .int .i64 sl) (x2 := .int .i64 rl) (x3 := .int .i64 rh) (x4 := .slice X n xx) (x5 := .int .i64 wg) Ga (ta.apart Ga (by decide))
          replace Gb := put6_gro (x0 := .int .i64 L) (x1 := .int .i64 sl) (x2 := .int .i64 rl) (x3 := .int .i64 rh) (x4 := .slice X n xx) (x5 := .int .i64 wg) Gb (ta.apart Gb (by decide))
          replace o := put6_other (x0 := .int .i64 L) (x1 := .int .i64 sl) (x2 := .int .i64 rl) (x3 := .int .i64 rh) (x4 := .slice X n xx) (x5 := .int .i64 wg) (g := ga) o (by omega)
          replace p := put6_other (x0 := .int .i64 L) (x1 := .int .i64 sl) (x2 := .int .i64 rl) (x3 := .int .i64 rh) (x4 := .slice X n xx) (x5 := .int .i64 wg) (g := ga) p (by omega)
          replace hB := put6_below (x0 := .int .i64 L) (x1 := .int .i64 sl) (x2 := .int .i64 rl) (x3 := .int .i64 rh) (x4 := .slice X n xx) (x5 := .int .i64 wg) (g := ga) hB (by omega)
          replace tb := put6_ownT (x0 := .int .i64 L) (x1 := .int .i64 sl) (x2 := .int .i64 rl) (x3 := .int .i64 rh) (x4 := .slice X n xx) (x5 := .int .i64 wg) (g := ga) tb (by omega)
          replace ta := put6_own (x0 := .int .i64 L) (x1 := .int .i64 sl) (x2 := .int .i64 rl) (x3 := .int .i64 rh) (x4 := .slice X n xx) (x5 := .int .i64 wg) ta
          obtain ⟨W8, hW9⟩ : ∃ W9, W9 = put6 W' ga (.int .i64 L) (.int .i64 sl) (.int .i64 rl) (.int .i64 rh) (.slice X n xx) (.int .i64 wg) := ⟨_, rfl⟩
          rw [← hW9] at Ga Gb o p hB ta tb
          simp only [put6] at hW9
          rw [← hW9]
          clear hW9
          refine rg_one (fuel := 0) 7 rfl (by kernel_rfl) (by kernel_rfl) ?_
          simp only [pick1, wpHead]
          intro K hK
          rw [if_pos (by rfl)]
          obtain ⟨ly, ky, fy⟩ := tb.own
          go_simp
          refine hK.out _ _ (put6_other o (by omega)) ?_
          clear hK K ly ky fy
          replace Ga := put6_gro (x0 := .int .i64 L) (x1 := .int .i64 sl) (x2 := .int .i64 rl) (x3 := .int .i64 rh) (x4 := .slice Y n yy) (x5 := .int .i64 wg) Ga (tb.apart Ga (by decide))
          replace Gb := put6_gro (x0 := .int .i64 L) (x1 := .int .i64 sl) (x2 := .int .i64 rl) (x3 := .int .i64 rh) (x4 := .slice Y n yy) (x5 := .int .i64 wg) Gb (tb.apart Gb (by decide))
          replace o := put6_other (x0 := .int .i64 L) (x1 := .int .i64 sl) (x2 := .int .i64 rl) (x3 := .int .i64 rh) (x4 := .slice Y n yy) (x5 := .int .i64 wg) (g := gb) o (by omega)
          replace p := put6_other (x0 := .int .i64 L) (x1 := .int .i64 sl) (x2 := .int .i64 rl) (x3 := .int .i64 rh) (x4 := .slice Y n yy) (x5 := .int .i64 wg) (g := gb) p (by omega)
          replace hB := put6_below (x0 := .int .i64 L) (x1 := .int .i64 sl) (x2 := .int .i64 rl) (x3 := .int .i64 rh) (x4 := .slice Y n yy) (x5 := .int .i64 wg) (g := gb) hB (by omega)
          replace ta := put6_ownT (x0 := .int .i64 L) (x1 := .int .i64 sl) (x2 := .int .i64 rl) (x3 := .int .i64 rh) (x4 := .slice Y n yy) (x5 := .int .i64 wg) (g := gb) ta (by omega)
          replace tb := put6_own (x0 := .int .i64 L) (x1 := .int .i64 sl) (x2 := .int .i64 rl) (x3 := .int .i64 rh) (x4 := .slice Y n yy) (x5 := .int .i64 wg) tb
          obtain ⟨W9, hW9⟩ : ∃ W9, W9 = put6 W8 gb (.int .i64 L) (.int .i64 sl) (.int .i64 rl) (.int .i64 rh) (.slice Y n yy) (.int .i64 wg) := ⟨_, rfl⟩
          rw [← hW9] at Ga Gb o p hB ta tb
          simp only [put6] at hW9
          rw [← hW9]
          clear hW9
          refine rg_done (by kernel_rfl) ?_
          have r := rest ga gb nb X Y xx yy _ hB o p ta.own tb.own (Lib.hid Ga) (Lib.hid Gb) (by omega) (Lib.hid fun k e => ⟨(la k e).1, (la k e).2, fun e9 => ta.apart Ga (by decide) (e9 ▸ e), fun e9 => tb.apart Ga (by decide) (e9 ▸ e)⟩) (Lib.hid fun k e => ⟨(ownsRow_lt Gb k e).1, fun e9 => ta.apart Gb (by decide) (e9 ▸ e), fun e9 => tb.apart Gb (by decide) (e9 ▸ e)⟩)
          simp only [Act.put, List.setIfInBounds_toArray, List.set_cons_zero, List.set_cons_succ] at r
          (try simp only [Act.put, List.setIfInBounds_toArray, List.set_cons_zero, List.set_cons_succ])
          exact r
    · intro K hK
      simp only [pick1, wpHead]
      rw [if_pos (by rfl)]
      go_simp
      have hg := p.lt
      have tb := OwnT.new W' #[.int .i64 0, .int .i64 0, .int .i64 0, .int .i64 0, .slice none 0 0, .int .i64 0] 26
      have hb := (Below.refl W'.heap.size W').alloc (Nat.le_refl _) (.cells #[.int .i64 0, .int .i64 0, .int .i64 0, .int .i64 0, .slice none 0 0, .int .i64 0] 26)
      have habx := ta.lt
      have hgb : w.heap.size + 2 ≤ W'.heap.size := p.lt
      obtain ⟨gb, hge⟩ : ∃ g, g = W'.heap.size := ⟨_, rfl⟩
      rw [← hge] at tb hgb habx ⊢
      generalize hWe : World.alloc W' _ = W' at hb tb ⊢
      have hab : ga ≠ gb := by omega
      clear hge hWe hg
      replace o := o.below hb o.lt
      replace p := p.below hb p.lt
      refine hK.out _ _ o ?_
      replace hB := hB.trans (hb.mono hB.size)
      replace ta := ta.below hb ta.lt
      clear hb hK
      (try simp only [Act.put, List.setIfInBounds_toArray, List.set_cons_zero, List.set_cons_succ])
      refine rg_many (fuel := 3) [1] rfl (by simp) (by kernel_rfl) (by kernel_rfl) ?_
      intro c hc
      rcases (show c = 1 by simpa using hc) with rfl
      · intro K hK
        simp only [pick1, wpHead]
        rw [if_pos (by rfl)]
        go_simp
        refine (copy14 L sl rl rh wg A n cap ks _ (HA.out.below hB (Nat.le_refl _)) hn (by omega)).mono ?_
        rintro e W' ⟨X, xx, rfl, Ga, hb⟩
        replace Ga := Ga.base (base' := w.heap.size + 2) p.lt
        go_simp
        replace o := o.below hb o.lt
        replace p := p.below hb p.lt
        refine hK.out _ _ o ?_
        replace hB := hB.trans (hb.mono hB.size)
        replace ta := ta.below hb ta.lt
        replace tb := tb.below hb tb.lt
        clear hb hK
        (try simp only [Act.put, List.setIfInBounds_toArray, List.set_cons_zero, List.set_cons_succ])
        refine rg_many (fuel := 2) [3] rfl (by simp) (by kernel_rfl) (by kernel_rfl) ?_
        intro c hc
        rcases (show c = 3 by simpa using hc) with rfl
        · intro K hK
          simp only [pick1, wpHead]
          rw [if_pos (by rfl)]
          go_simp
          refine (copy14 L sl rl rh wg A n cap ks _ (HA.out.below hB (Nat.le_refl _)) hn (by omega)).mono ?_
          rintro e W' ⟨Y, yy, rfl, Gb, hb⟩
          have hnb := p.lt
          have la := ownsRow_lt Ga
          generalize hnbe : World.heap _ = hp at Gb la hnb
          generalize hnbe : Array.size hp = nb at Gb la hnb
          go_simp
          replace o := o.below hb o.lt
          replace p := p.below hb p.lt
          refine hK.out _ _ o ?_
          replace hB := hB.trans (hb.mono hB.size)
          replace Ga := Ga.below hb (Nat.le_refl _)
          replace ta := ta.below hb ta.lt
          replace tb := tb.below hb tb.lt
          clear hb hK
          (try simp only [Act.put, List.setIfInBounds_toArray, List.set_cons_zero, List.set_cons_succ])
          refine rg_one (fuel := 1) 6 rfl (by kernel_rfl) (by kernel_rfl) ?_
          simp only [pick1, wpHead]
          intro K hK
          rw [if_pos (by rfl)]
          obtain ⟨ly, ky, fy⟩ := ta.own
          go_simp
          refine hK.out _ _ (put6_other o (by omega)) ?_
          clear hK K ly ky fy
          replace Ga := put6_gro (x0 := .int .i64 L) (x1 := .int .i64 sl) (x2 := .int .i64 rl) (x3 := .int .i64 rh) (x4 := .slice X n xx) (x5 := .int .i64 wg) Ga (ta.apart Ga (by decide))
          replace Gb := put6_gro (x0 := .int .i64 L) (x1 := .int .i64 sl) (x2 := .int .i64 rl) (x3 := .int .i64 rh) (x4 := .slice X n xx) (x5 := .int .i64 wg) Gb (ta.apart Gb (by decide))
          replace o := put6_other (x0 := .int .i64 L) (x1 := .int .i64 sl) (x2 := .int .i64 rl) (x3 := .int .i64 rh) (x4 := .slice X n xx) (x5 := .int .i64 wg) (g := ga) o (by omega)
          replace p := put6_other (x0 := .int .i64 L) (x1 := .int .i64 sl) (x2 := .int .i64 rl) (x3 := .int .i64 rh) (x4 := .slice X n xx) (x5 := .int .i64 wg) (g := ga) p (by omega)
          replace hB := put6_below (x0 := .int .i64 L) (x1 := .int .i64 sl) (x2 := .int .i64 rl) (x3 := .int .i64 rh) (x4 := .slice X n xx) (x5 := .int .i64 wg) (g := ga) hB (by omega)
          replace tb := put6_ownT (x0 := .int .i64 L) (x1 := .int .i64 sl) (x2 := .int .i64 rl) (x3 := .int .i64 rh) (x4 := .slice X n xx) (x5 := .int .i64 wg) (g := ga) tb (by omega)
          replace ta := put6_own (x0 := .int .i64 L) (x1 := .int .i64 sl) (x2 := .int .i64 rl) (x3 := .int .i64 rh) (x4 := .slice X n xx) (x5 := .int .i64 wg) ta
          obtain ⟨W8, hW9⟩ : ∃ W9, W9 = put6 W' ga (.int .i64 L) (.int .i64 sl) (.int .i64 rl) (.int .i64 rh) (.slice X n xx) (.int .i64 wg) := ⟨_, rfl⟩
          rw [← hW9] at Ga Gb o p hB ta tb
          simp only [put6] at hW9
          rw [← hW9]
          clear hW9
          refine rg_one (fuel := 0) 7 rfl (by kernel_rfl) (by kernel_rfl) ?_
          simp only [pick1, wpHead]
          intro K hK
          rw [if_pos (by rfl)]
          obtain ⟨ly, ky, fy⟩ := tb.own
          go_simp
          refine hK.out _ _ (put6_other o (by omega)) ?_
          clear hK K ly ky fy
          replace Ga := put6_gro (x0 := .int .i64 L) (x1 := .int .i64 sl) (x2 := .int .i64 rl) (x3 := .int .i64 rh) (x4 := .slice Y n yy) (x5 := .int .i64 wg) Ga (tb.apart Ga (by decide))
          replace Gb := put6_gro (x0 := .int .i64 L) (x1 := .int .i64 sl) (x2 := .int .i64 rl) (x3 := .int .i64 rh) (x4 := .slice Y n yy) (x5 := .int .i64 wg) Gb (tb.apart Gb (by decide))
          replace o := put6_other (x0 := .int .i64 L) (x1 := .int .i64 sl) (x2 := .int .i64 rl) (x3 := .int .i64 rh) (x4 := .slice Y n yy) (x5 := .int .i64 wg) (g := gb) o (by omega)
          replace p := put6_other (x0 := .int .i64 L) (x1 := .int .i64 sl) (x2 := .int .i64 rl) (x3 := .int .i64 rh) (x4 := .slice Y n yy) (x5 := .int .i64 wg) (g := gb) p (by omega)
          replace hB := put6_below (x0 := .int .i64 L) (x1 := .int .i64 sl) (x2 := .int .i64 rl) (x3 := .int .i64 rh) (x4 := .slice Y n yy) (x5 := .int .i64 wg) (g := gb) hB (by omega)
          replace ta := put6_ownT (x0 := .int .i64 L) (x1 := .int .i64 sl) (x2 := .int .i64 rl) (x3 := .int .i64 rh) (x4 := .slice Y n yy) (x5 := .int .i64 wg) (g := gb) ta (by omega)
          replace tb := put6_own (x0 := .int .i64 L) (x1 := .int .i64 sl) (x2 := .int .i64 rl) (x3 := .int .i64 rh) (x4 := .slice Y n yy) (x5 := .int .i64 wg) tb
          obtain ⟨W9, hW9⟩ : ∃ W9, W9 = put6 W8 gb (.int .i64 L) (.int .i64 sl) (.int .i64 rl) (.int .i64 rh) (.slice Y n yy) (.int .i64 wg) := ⟨_, rfl⟩
          rw [← hW9] at Ga Gb o p hB ta tb
          simp only [put6] at hW9
          rw [← hW9]
          clear hW9
          refine rg_done (by kernel_rfl) ?_
          have r := rest ga gb nb X Y xx yy _ hB o p ta.own tb.own (Lib.hid Ga) (Lib.hid Gb) (by omega) (Lib.hid fun k e => ⟨(la k e).1, (la k e).2, fun e9 => ta.apart Ga (by decide) (e9 ▸ e), fun e9 => tb.apart Ga (by decide) (e9 ▸ e)⟩) (Lib.hid fun k e => ⟨(ownsRow_lt Gb k e).1, fun e9 => ta.apart Gb (by decide) (e9 ▸ e), fun e9 => tb.apart Gb (by decide) (e9 ▸ e)⟩)
          simp only [Act.put, List.setIfInBounds_toArray, List.set_cons_zero, List.set_cons_succ] at r
          (try simp only [Act.put, List.setIfInBounds_toArray, List.set_cons_zero, List.set_cons_succ])
          exact r
  · intro K hK
    simp only [pick1, wpHead]
    rw [if_pos (by rfl)]
    go_simp
    have hg := p.lt
    have tb := OwnT.new W #[.int .i64 0, .int .i64 0, .int .i64 0, .int .i64 0, .slice none 0 0, .int .i64 0] 26
    have hb := (Below.refl W.heap.size W).alloc (Nat.le_refl _) (.cells #[.int .i64 0, .int .i64 0, .int .i64 0, .int .i64 0, .slice none 0 0, .int .i64 0] 26)
    have hgb : w.heap.size + 2 ≤ W.heap.size := p.lt
    obtain ⟨gb, hge⟩ : ∃ g, g = W.heap.size := ⟨_, rfl⟩
    rw [← hge] at tb hgb ⊢
    generalize hWe : World.alloc W _ = W' at hb tb ⊢
    clear hge hWe hg
    replace o := o.below hb o.lt
    replace p := p.below hb p.lt
    refine hK.out _ _ o ?_
    replace hB := hB.trans (hb.mono hB.size)
    clear hb hK
    (try simp only [Act.put, List.setIfInBounds_toArray, List.set_cons_zero, List.set_cons_succ])
    refine rg_many (fuel := 4) [1, 4] rfl (by simp) (by kernel_rfl) (by kernel_rfl) ?_
    intro c hc
    rcases (show c = 1 ∨ c = 4 by simpa using hc) with rfl | rfl
    · intro K hK
      simp only [pick1, wpHead]
      rw [if_pos (by rfl)]
      go_simp
      refine (copy14 L sl rl rh wg A n cap ks _ (HA.out.below hB (Nat.le_refl _)) hn (by omega)).mono ?_
      rintro e W' ⟨X, xx, rfl, Ga, hb⟩
      replace Ga := Ga.base (base' := w.heap.size + 2) p.lt
      go_simp
      replace o := o.below hb o.lt
      replace p := p.below hb p.lt
      refine hK.out _ _ o ?_
      replace hB := hB.trans (hb.mono hB.size)
      replace tb := tb.below hb tb.lt
      clear hb hK
      (try simp only [Act.put, List.setIfInBounds_toArray, List.set_cons_zero, List.set_cons_succ])
      refine rg_many (fuel := 3) [3, 4] rfl (by simp) (by kernel_rfl) (by kernel_rfl) ?_
      intro c hc
      rcases (show c = 3 ∨ c = 4 by simpa using hc) with rfl | rfl
      · intro K hK
        simp only [pick1, wpHead]
        rw [if_pos (by rfl)]
        go_simp
        refine (copy14 L sl rl rh wg A n cap ks _ (HA.out.below hB (Nat.le_refl _)) hn (by omega)).mono ?_
        rintro e W' ⟨Y, yy, rfl, Gb, hb⟩
        have hnb := p.lt
        have la := ownsRow_lt Ga
        generalize hnbe : World.heap _ = hp at Gb la hnb
        generalize hnbe : Array.size hp = nb at Gb la hnb
        go_simp
        replace o := o.below hb o.lt
        replace p := p.below hb p.lt
        refine hK.out _ _ o ?_
        replace hB := hB.trans (hb.mono hB.size)
        replace Ga := Ga.below hb (Nat.le_refl _)
        replace tb := tb.below hb tb.lt
        clear hb hK
        (try simp only [Act.put, List.setIfInBounds_toArray, List.set_cons_zero, List.set_cons_succ])
        refine rg_many (fuel := 2) [4] rfl (by simp) (by kernel_rfl) (by kernel_rfl) ?_
        intro c hc
        rcases (show c = 4 by simpa using hc) with rfl
        · intro K hK
          simp only [pick1, wpHead]
          rw [if_pos (by rfl)]
          go_simp
          have hg := p.lt
          have ta := OwnT.new W' #[.int .i64 0, .int .i64 0, .int .i64 0, .int .i64 0, .slice none 0 0, .int .i64 0] 26
          have hb := (Below.refl W'.heap.size W').alloc (Nat.le_refl _) (.cells #[.int .i64 0, .int .i64 0, .int .i64 0, .int .i64 0, .slice none 0 0, .int .i64 0] 26)
          have habx := tb.lt
          have hga : w.heap.size + 2 ≤ W'.heap.size := p.lt
          obtain ⟨ga, hge⟩ : ∃ g, g = W'.heap.size := ⟨_, rfl⟩
          rw [← hge] at ta hga habx ⊢
          generalize hWe : World.alloc W' _ = W' at hb ta ⊢
          have hab : ga ≠ gb := by omega
          clear hge hWe hg
          replace o := o.below hb o.lt
          replace p := p.below hb p.lt
          refine hK.out _ _ o ?_
          replace hB := hB.trans (hb.mono hB.size)
          replace Ga := Ga.below hb (Nat.le_refl _)
          replace Gb := Gb.below hb (Nat.le_refl _)
          replace tb := tb.below hb tb.lt
          clear hb hK
          (try simp only [Act.put, List.setIfInBounds_toArray, List.set_cons_zero, List.set_cons_succ])
          refine rg_one (fuel := 1) 6 rfl (by kernel_rfl) (by kernel_rfl) ?_
          simp only [pick1, wpHead]
          intro K hK
          rw [if_pos (by rfl)]
          obtain ⟨ly, ky, fy⟩ := ta.own
          go_simp
          refine hK.out _ _ (put6_other o (by omega)) ?_
          clear hK K ly ky fy
          replace Ga := put6_gro (x0 := .int .i64 L) (x1 := .int .i64 sl) (x2 := .int .i64 rl) (x3 := .int .i64 rh) (x4 := .slice X n xx) (x5 := .int .i64 wg) Ga (ta.apart Ga (by decide))
          replace Gb := put6_gro (x0 := .int .i64 L) (x1 := .int .i64 sl) (x2 := .int .i64 rl) (x3 := .int .i64 rh) (x4 := .slice X n xx) (x5 := .int .i64 wg) Gb (ta.apart Gb (by decide))
          replace o := put6_other (x0 := .int .i64 L) (x1 := .int .i64 sl) (x2 := .int .i64 rl) (x3 := .int .i64 rh) (x4 := .slice X n xx) (x5 := .int .i64 wg) (g := ga) o (by omega)
          replace p := put6_other (x0 := .int .i64 L) (x1 := .int .i64 sl) (x2 := .int .i64 rl) (x3 := .int .i64 rh) (x4 := .slice X n xx) (x5 := .int .i64 wg) (g := ga) p (by omega)
          replace hB := put6_below (x0 := .int .i64 L) (x1 := .int .i64 sl) (x2 := .int .i64 rl) (x3 := .int .i64 rh) (x4 := .slice X n xx) (x5 := .int .i64 wg) (g := ga) hB (by omega)
          replace tb := put6_ownT (x0 := .int .i64 L) (x1 := .int .i64 sl) (x2 := .int .i64 rl) (x3 := .int .i64 rh) (x4 := .slice X n xx) (x5 := .int .i64 wg) (g := ga) tb (by omega)
          replace ta := put6_own (x0 := .int .i64 L) (x1 := .int .i64 sl) (x2 := .int .i64 rl) (x3 := .int .i64 rh) (x4 := .slice X n xx) (x5 := .int .i64 wg) ta
          obtain ⟨W8, hW9⟩ : ∃ W9, W9 = put6 W' ga (.int .i64 L) (.int .i64 sl) (.int .i64 rl) (.int .i64 rh) (.slice X n xx) (.int .i64 wg) := ⟨_, rfl⟩
          rw [← hW9] at Ga Gb o p hB ta tb
          simp only [put6] at hW9
          rw [← hW9]
          clear hW9
          refine rg_one (fuel := 0) 7 rfl (by kernel_rfl) (by kernel_rfl) ?_
          simp only [pick1, wpHead]
          intro K hK
          rw [if_pos (by rfl)]
          obtain ⟨ly, ky, fy⟩ := tb.own
          go_simp
          refine hK.out _ _ (put6_other o (by omega)) ?_
          clear hK K ly ky fy
          replace Ga := put6_gro (x0 := .int .i64 L) (x1 := .int .i64 sl) (x2 := .int .i64 rl) (x3 := .int .i64 rh) (x4 := .slice Y n yy) (x5 := .int .i64 wg) Ga (tb.apart Ga (by decide))
          replace Gb := put6_gro (x0 := .int .i64 L) (x1 := .int .i64 sl) (x2 := .int .i64 rl) (x3 := .int .i64 rh) (x4 := .slice Y n yy) (x5 := .int .i64 wg) Gb (tb.apart Gb (by decide))
          replace o := put6_other (x0 := .int .i64 L) (x1 := .int .i64 sl) (x2 := .int .i64 rl) (x3 := .int .i64 rh) (x4 := .slice Y n yy) (x5 := .int .i64 wg) (g := gb) o (by omega)
          replace p := put6_other (x0 := .int .i64 L) (x1 := .int .i64 sl) (x2 := .int .i64 rl) (x3 := .int .i64 rh) (x4 := .slice Y n yy) (x5 := .int .i64 wg) (g := gb) p (by omega)
          replace hB := put6_below (x0 := .int .i64 L) (x1 := .int .i64 sl) (x2 := .int .i64 rl) (x3 := .int .i64 rh) (x4 := .slice Y n yy) (x5 := .int .i64 wg) (g := gb) hB (by omega)
          replace ta := put6_ownT (x0 := .int .i64 L) (x1 := .int .i64 sl) (x2 := .int .i64 rl) (x3 := .int .i64 rh) (x4 := .slice Y n yy) (x5 := .int .i64 wg) (g := gb) ta (by omega)
          replace tb := put6_own (x0 := .int .i64 L) (x1 := .int .i64 sl) (x2 := .int .i64 rl) (x3 := .int .i64 rh) (x4 := .slice Y n yy) (x5 := .int .i64 wg) tb
          obtain ⟨W9, hW9⟩ : ∃ W9, W9 = put6 W8 gb (.int .i64 L) (.int .i64 sl) (.int .i64 rl) (.int .i64 rh) (.slice Y n yy) (.int .i64 wg) := ⟨_, rfl⟩
          rw [← hW9] at Ga Gb o p hB ta tb
          simp only [put6] at hW9
          rw [← hW9]
          clear hW9
          refine rg_done (by kernel_rfl) ?_
          have r := rest ga gb nb X Y xx yy _ hB o p ta.own tb.own (Lib.hid Ga) (Lib.hid Gb) (by omega) (Lib.hid fun k e => ⟨(la k e).1, (la k e).2, fun e9 => ta.apart Ga (by decide) (e9 ▸ e), fun e9 => tb.apart Ga (by decide) (e9 ▸ e)⟩) (Lib.hid fun k e => ⟨(ownsRow_lt Gb k e).1, fun e9 => ta.apart Gb (by decide) (e9 ▸ e), fun e9 => tb.apart Gb (by decide) (e9 ▸ e)⟩)
          simp only [Act.put, List.setIfInBounds_toArray, List.set_cons_zero, List.set_cons_succ] at r
          (try simp only [Act.put, List.setIfInBounds_toArray, List.set_cons_zero, List.set_cons_succ])
          exact r
      · intro K hK
        simp only [pick1, wpHead]
        rw [if_pos (by rfl)]
        go_simp
        have hg := p.lt
        have ta := OwnT.new W' #[.int .i64 0, .int .i64 0, .int .i64 0, .int .i64 0, .slice none 0 0, .int .i64 0] 26
        have hb := (Below.refl W'.heap.size W').alloc (Nat.le_refl _) (.cells #[.int .i64 0, .int .i64 0, .int .i64 0, .int .i64 0, .slice none 0 0, .int .i64 0] 26)
        have habx := tb.lt
        have hga : w.heap.size + 2 ≤ W'.heap.size := p.lt
        obtain ⟨ga, hge⟩ : ∃ g, g = W'.heap.size := ⟨_, rfl⟩
        rw [← hge] at ta hga habx ⊢
        generalize hWe : World.alloc W' _ = W' at hb ta ⊢
        have hab : ga ≠ gb := by omega
        clear hge hWe hg
        replace o := o.below hb o.lt
        replace p := p.below hb p.lt
        refine hK.out _ _ o ?_
        replace hB := hB.trans (hb.mono hB.size)
        replace Ga := Ga.below hb (Nat.le_refl _)
        replace tb := tb.below hb tb.lt
        clear hb hK
        (try simp only [Act.put, List.setIfInBounds_toArray, List.set_cons_zero, List.set_cons_succ])
        refine rg_many (fuel := 2) [3] rfl (by simp) (by kernel_rfl) (by kernel_rfl) ?_
        intro c hc
        rcases (show c = 3 by simpa using hc) with rfl
        · intro K hK
          simp only [pick1, wpHead]
          rw [if_pos (by rfl)]
          go_simp
          refine (copy14 L sl rl rh wg A n cap ks _ (HA.out.below hB (Nat.le_refl _)) hn (by omega)).mono ?_
          rintro e W' ⟨Y, yy, rfl, Gb, hb⟩
          have hnb := p.lt
          have la := ownsRow_lt Ga
          generalize hnbe : World.heap _ = hp at Gb la hnb
          generalize hnbe : Array.size hp = nb at Gb la hnb
          go_simp
          replace o := o.below hb o.lt
          replace p := p.below hb p.lt
          refine hK.out _ _ o ?_
          replace hB := hB.trans (hb.mono hB.size)
          replace Ga := Ga.below hb (Nat.le_refl _)
          replace ta := ta.below hb ta.lt
          replace tb := tb.below hb tb.lt
          clear hb hK
          (try simp only [Act.put, List.setIfInBounds_toArray, List.set_cons_zero, List.set_cons_succ])
          refine rg_one (fuel := 1) 6 rfl (by kernel_rfl) (by kernel_rfl) ?_
          simp only [pick1, wpHead]
          intro K hK
          rw [if_pos (by rfl)]
          obtain ⟨ly, ky, fy⟩ := ta.own
          go_simp
          refine hK.out _ _ (put6_other o (by omega)) ?_
          clear hK K ly ky fy
          replace Ga := put6_gro (x0 := .int .i64 L) (x1 := .int .i64 sl) (x2 := .int .i64 rl) (x3 := .int .i64 rh) (x4 := .slice X n xx) (x5 := .int .i64 wg) Ga (ta.apart Ga (by decide))
          replace Gb := put6_gro (x0 := .int .i64 L) (x1 := .int .i64 sl) (x2 := .int .i64 rl) (x3 := .int .i64 rh) (x4 := .slice X n xx) (x5 := .int .i64 wg) Gb (ta.apart Gb (by decide))
          replace o := put6_other (x0 := .int .i64 L) (x1 := .int .i64 sl) (x2 := .int .i64 rl) (x3 := .int .i64 rh) (x4 := .slice X n xx) (x5 := .int .i64 wg) (g := ga) o (by omega)
          replace p := put6_other (x0 := .int .i64 L) (x1 := .int .i64 sl) (x2 := .int .i64 rl) (x3 := .int .i64 rh) (x4 := .slice X n xx) (x5 := .int .i64 wg) (g := ga) p (by omega)
          replace hB := put6_below (x0 := .int .i64 L) (x1 := .int .i64 sl) (x2 := .int .i64 rl) (x3 := .int .i64 rh) (x4 := .slice X n xx) (x5 := .int .i64 wg) (g := ga) hB (by omega)
          replace tb := put6_ownT (x0 := .int .i64 L) (x1 := .int .i64 sl) (x2 := .int .i64 rl) (x3 := .int .i64 rh) (x4 := .slice X n xx) (x5 := .int .i64 wg) (g := ga) tb (by omega)
          replace ta := put6_own (x0 := .int .i64 L) (x1 := .int .i64 sl) (x2 := .int .i64 rl) (x3 := .int .i64 rh) (x4 := .slice X n xx) (x5 := .int .i64 wg) ta
          obtain ⟨W8, hW9⟩ : ∃ W9, W9 = put6 W' ga (.int .i64 L) (.int .i64 sl) (.int .i64 rl) (.int .i64 rh) (.slice X n xx) (.int .i64 wg) := ⟨_, rfl⟩
          rw [← hW9] at Ga Gb o p hB ta tb
          simp only [put6] at hW9
          rw [← hW9]
          clear hW9
          refine rg_one (fuel := 0) 7 rfl (by kernel_rfl) (by kernel_rfl) ?_
          simp only [pick1, wpHead]
          intro K hK
          rw [if_pos (by rfl)]
          obtain ⟨ly, ky, fy⟩ := tb.own
          go_simp
          refine hK.out _ _ (put6_other o (by omega)) ?_
          clear hK K ly ky fy
          replace Ga := put6_gro (x0 := .int .i64 L) (x1 := .int .i64 sl) (x2 := .int .i64 rl) (x3 := .int .i64 rh) (x4 := .slice Y n yy) (x5 := .int .i64 wg) Ga (tb.apart Ga (by decide))
          replace Gb := put6_gro (x0 := .int .i64 L) (x1 := .int .i64 sl) (x2 := .int .i64 rl) (x3 := .int .i64 rh) (x4 := .slice Y n yy) (x5 := .int .i64 wg) Gb (tb.apart Gb (by decide))
          replace o := put6_other (x0 := .int .i64 L) (x1 := .int .i64 sl) (x2 := .int .i64 rl) (x3 := .int .i64 rh) (x4 := .slice Y n yy) (x5 := .int .i64 wg) (g := gb) o (by omega)
          replace p := put6_other (x0 := .int .i64 L) (x1 := .int .i64 sl) (x2 := .int .i64 rl) (x3 := .int .i64 rh) (x4 := .slice Y n yy) (x5 := .int .i64 wg) (g := gb) p (by omega)
          replace hB := put6_below (x0 := .int .i64 L) (x1 := .int .i64 sl) (x2 := .int .i64 rl) (x3 := .int .i64 rh) (x4 := .slice Y n yy) (x5 := .int .i64 wg) (g := gb) hB (by omega)
          replace ta := put6_ownT (x0 := .int .i64 L) (x1 := .int .i64 sl) (x2 := .int .i64 rl) (x3 := .int .i64 rh) (x4 := .slice Y n yy) (x5 := .int .i64 wg) (g := gb) ta (by omega)
          replace tb := put6_own (x0 := .int .i64 L) (x1 := .int .i64 sl) (x2 := .int .i64 rl) (x3 := .int .i64 rh) (x4 := .slice Y n yy) (x5 := .int .i64 wg) tb
          obtain ⟨W9, hW9⟩ : ∃ W9, W9 = put6 W8 gb (.int .i64 L) (.int .i64 sl) (.int .i64 rl) (.int .i64 rh) (.slice Y n yy) (.int .i64 wg) := ⟨_, rfl⟩
          rw [← hW9] at Ga Gb o p hB ta tb
          simp only [put6] at hW9
          rw [← hW9]
          clear hW9
          refine rg_done (by kernel_rfl) ?_
          have r := rest ga gb nb X Y xx yy _ hB o p ta.own tb.own (Lib.hid Ga) (Lib.hid Gb) (by omega) (Lib.hid fun k e => ⟨(la k e).1, (la k e).2, fun e9 => ta.apart Ga (by decide) (e9 ▸ e), fun e9 => tb.apart Ga (by decide) (e9 ▸ e)⟩) (Lib.hid fun k e => ⟨(ownsRow_lt Gb k e).1, fun e9 => ta.apart Gb (by decide) (e9 ▸ e), fun e9 => tb.apart Gb (by decide) (e9 ▸ e)⟩)
          simp only [Act.put, List.setIfInBounds_toArray, List.set_cons_zero, List.set_cons_succ] at r
          (try simp only [Act.put, List.setIfInBounds_toArray, List.set_cons_zero, List.set_cons_succ])
          exact r
    · intro K hK
      simp only [pick1, wpHead]
      rw [if_pos (by rfl)]
      go_simp
      have hg := p.lt
      have ta := OwnT.new W' #[.int .i64 0, .int .i64 0, .int .i64 0, .int .i64 0, .slice none 0 0, .int .i64 0] 26
      have hb := (Below.refl W'.heap.size W').alloc (Nat.le_refl _) (.cells #[.int .i64 0, .int .i64 0, .int .i64 0, .int .i64 0, .slice none 0 0, .int .i64 0] 26)
      have habx := tb.lt
      have hga : w.heap.size + 2 ≤ W'.heap.size := p.lt
      obtain ⟨ga, hge⟩ : ∃ g, g = W'.heap.size := ⟨_, rfl⟩
      rw [← hge] at ta hga habx ⊢
      generalize hWe : World.alloc W' _ = W' at hb ta ⊢
      have hab : ga ≠ gb := by omega
      clear hge hWe hg
      replace o := o.below hb o.lt
      replace p := p.below hb p.lt
      refine hK.out _ _ o ?_
      replace hB := hB.trans (hb.mono hB.size)
      replace tb := tb.below hb tb.lt
      clear hb hK
      (try simp only [Act.put, List.setIfInBounds_toArray, List.set_cons_zero, List.set_cons_succ])
      refine rg_many (fuel := 3) [1] rfl (by simp) (by kernel_rfl) (by kernel_rfl) ?_
      intro c hc
      rcases (show c = 1 by simpa using hc) with rfl
      · intro K hK
        simp only [pick1, wpHead]
        rw [if_pos (by rfl)]
        go_simp
        refine (copy14 L sl rl rh wg A n cap ks _ (HA.out.below hB (Nat.le_refl _)) hn (by omega)).mono ?_
        rintro e W' ⟨X, xx, rfl, Ga, hb⟩
        replace Ga := Ga.base (base' := w.heap.size + 2) p.lt
        go_simp
        replace o := o.below hb o.lt
        replace p := p.below hb p.lt
        refine hK.out _ _ o ?_
        replace hB := hB.trans (hb.mono hB.size)
        replace ta := ta.below hb ta.lt
        replace tb := tb.below hb tb.lt
        clear hb hK
        (try simp only [Act.put, List.setIfInBounds_toArray, List.set_cons_zero, List.set_cons_succ])
        refine rg_many (fuel := 2) [3] rfl (by simp) (by kernel_rfl) (by kernel_rfl) ?_
        intro c hc
        rcases (show c = 3 by simpa using hc) with rfl
        · intro K hK
          simp only [pick1, wpHead]
          rw [if_pos (by rfl)]
          go_simp
          refine (copy14 L sl rl rh wg A n cap ks _ (HA.out.below hB (Nat.le_refl _)) hn (by omega)).mono ?_
          rintro e W' ⟨Y, yy, rfl, Gb, hb⟩
          have hnb := p.lt
          have la := ownsRow_lt Ga
          generalize hnbe : World.heap _ = hp at Gb la hnb
          generalize hnbe : Array.size hp = nb at Gb la hnb
          go_simp
          replace o := o.below hb o.lt
          replace p := p.below hb p.lt
          refine hK.out _ _ o ?_
          replace hB := hB.trans (hb.mono hB.size)
          replace Ga := Ga.below hb (Nat.le_refl _)
          replace ta := ta.below hb ta.lt
          replace tb := tb.below hb tb.lt
          clear hb hK
          (try simp only [Act.put, List.setIfInBounds_toArray, List.set_cons_zero, List.set_cons_succ])
          refine rg_one (fuel := 1) 6 rfl (by kernel_rfl) (by kernel_rfl) ?_
          simp only [pick1, wpHead]
          intro K hK
          rw [if_pos (by rfl)]
          obtain ⟨ly, ky, fy⟩ := ta.own
          go_simp
          refine hK.out _ _ (put6_other o (by omega)) ?_
          clear hK K ly ky fy
          replace Ga := put6_gro (x0 := .int .i64 L) (x1 := .int .i64 sl) (x2 := .int .i64 rl) (x3 := .int .i64 rh) (x4 := .slice X n xx) (x5 := .int .i64 wg) Ga (ta.apart Ga (by decide))
          replace Gb := put6_gro (x0 := .int .i64 L) (x1 := .int .i64 sl) (x2 := .int .i64 rl) (x3 := .int .i64 rh) (x4 := .slice X n xx) (x5 := .int .i64 wg) Gb (ta.apart Gb (by decide))
          replace o := put6_other (x0 := .int .i64 L) (x1 := .int .i64 sl) (x2 := .int .i64 rl) (x3 := .int .i64 rh) (x4 := .slice X n xx) (x5 := .int .i64 wg) (g := ga) o (by omega)
          replace p := put6_other (x0 := .int .i64 L) (x1 := .int .i64 sl) (x2 := .int .i64 rl) (x3 := .int .i64 rh) (x4 := .slice X n xx) (x5 := .int .i64 wg) (g := ga) p (by omega)
          replace hB := put6_below (x0 := .int .i64 L) (x1 := .int .i64 sl) (x2 := .int .i64 rl) (x3 := .int .i64 rh) (x4 := .slice X n xx) (x5 := .int .i64 wg) (g := ga) hB (by omega)
          replace tb := put6_ownT (x0 := .int .i64 L) (x1 := .int .i64 sl) (x2 := .int .i64 rl) (x3 := .int .i64 rh) (x4 := .slice X n xx) (x5 := .int .i64 wg) (g := ga) tb (by omega)
          replace ta := put6_own (x0 := .int .i64 L) (x1 := .int .i64 sl) (x2 := .int .i64 rl) (x3 := .int .i64 rh) (x4 := .slice X n xx) (x5 := .int .i64 wg) ta
          obtain ⟨W8, hW9⟩ : ∃ W9, W9 = put6 W' ga (.int .i64 L) (.int .i64 sl) (.int .i64 rl) (.int .i64 rh) (.slice X n xx) (.int .i64 wg) := ⟨_, rfl⟩
          rw [← hW9] at Ga Gb o p hB ta tb
          simp only [put6] at hW9
          rw [← hW9]
          clear hW9
          refine rg_one (fuel := 0) 7 rfl (by kernel_rfl) (by kernel_rfl) ?_
          simp only [pick1, wpHead]
          intro K hK
          rw [if_pos (by rfl)]
          obtain ⟨ly, ky, fy⟩ := tb.own
          go_simp
          refine hK.out _ _ (put6_other o (by omega)) ?_
          clear hK K ly ky fy
          replace Ga := put6_gro (x0 := .int .i64 L) (x1 := .int .i64 sl) (x2 := .int .i64 rl) (x3 := .int .i64 rh) (x4 := .slice Y n yy) (x5 := .int .i64 wg) Ga (tb.apart Ga (by decide))
          replace Gb := put6_gro (x0 := .int .i64 L) (x1 := .int .i64 sl) (x2 := .int .i64 rl) (x3 := .int .i64 rh) (x4 := .slice Y n yy) (x5 := .int .i64 wg) Gb (tb.apart Gb (by decide))
          replace o := put6_other (x0 := .int .i64 L) (x1 := .int .i64 sl) (x2 := .int .i64 rl) (x3 := .int .i64 rh) (x4 := .slice Y n yy) (x5 := .int .i64 wg) (g := gb) o (by omega)
          replace p := put6_other (x0 := .int .i64 L) (x1 := .int .i64 sl) (x2 := .int .i64 rl) (x3 := .int .i64 rh) (x4 := .slice Y n yy) (x5 := .int .i64 wg) (g := gb) p (by omega)
          replace hB := put6_below (x0 := .int .i64 L) (x1 := .int .i64 sl) (x2 := .int .i64 rl) (x3 := .int .i64 rh) (x4 := .slice Y n yy) (x5 := .int .i64 wg) (g := gb) hB (by omega)
          replace ta := put6_ownT (x0 := .int .i64 L) (x1 := .int .i64 sl) (x2 := .int .i64 rl) (x3 := .int .i64 rh) (x4 := .slice Y n yy) (x5 := .int .i64 wg) (g := gb) ta (by omega)
          replace tb := put6_own (x0 := .int .i64 L) (x1 := .int .i64 sl) (x2 := .int .i64 rl) (x3 := .int .i64 rh) (x4 := .slice Y n yy) (x5 := .int .i64 wg) tb
          obtain ⟨W9, hW9⟩ : ∃ W9, W9 = put6 W8 gb (.int .i64 L) (.int .i64 sl) (.int .i64 rl) (.int .i64 rh) (.slice Y n yy) (.int .i64 wg) := ⟨_, rfl⟩
          rw [← hW9] at Ga Gb o p hB ta tb
          simp only [put6] at hW9
          rw [← hW9]
          clear hW9
          refine rg_done (by kernel_rfl) ?_
          have r := rest ga gb nb X Y xx yy _ hB o p ta.own tb.own (Lib.hid Ga) (Lib.hid Gb) (by omega) (Lib.hid fun k e => ⟨(la k e).1, (la k e).2, fun e9 => ta.apart Ga (by decide) (e9 ▸ e), fun e9 => tb.apart Ga (by decide) (e9 ▸ e)⟩) (Lib.hid fun k e => ⟨(ownsRow_lt Gb k e).1, fun e9 => ta.apart Gb (by decide) (e9 ▸ e), fun e9 => tb.apart Gb (by decide) (e9 ▸ e)⟩)
          simp only [Act.put, List.setIfInBounds_toArray, List.set_cons_zero, List.set_cons_succ] at r
          (try simp only [Act.put, List.setIfInBounds_toArray, List.set_cons_zero, List.set_cons_succ])
          exact r
end Go.Proofs.Ytphcpphmoeiioaa
