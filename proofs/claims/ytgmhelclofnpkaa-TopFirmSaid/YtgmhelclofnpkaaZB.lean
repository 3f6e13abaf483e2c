/- Discord: fields, the test. -/
import Derived.Test.YtgmhelclofnpkaaZA
import Derived.Test.YtgmhelclofnpkaaKh
namespace Go.Proofs.Ytgmhelclofnpkaa
open Go.RowKit Go.Maps

abbrev dsV (A B C : Option Addr) (cA cB cC : Nat) (d : Ds) : Value := .agg #[.slice A d.P.length cA, .slice B d.O.length cB, .int .i64 d.u, .int .i64 d.h.full, .int .i64 d.h.read, .int .i64 d.h.slip, .int .i64 d.h.skew, .int .i64 d.h.circ, .int .i64 d.h.lo, .int .i64 d.h.hi, .int .i64 d.h.wrong, .slice C d.l.length cC]
abbrev dsC (A B C : Option Addr) (cA cB cC : Nat) (d : Ds) : List Value := [.slice A d.P.length cA, .slice B d.O.length cB, .int .i64 d.u, .int .i64 d.h.full, .int .i64 d.h.read, .int .i64 d.h.slip, .int .i64 d.h.skew, .int .i64 d.h.circ, .int .i64 d.h.lo, .int .i64 d.h.hi, .int .i64 d.h.wrong, .slice C d.l.length cC]
abbrev flC (A B C : Option Addr) (cA cB cC : Nat) (d : Ds) (bs : Nat) : List Value := [.slice A d.P.length cA, .slice B d.O.length cB, .int .i64 d.u, .int .i64 d.h.full, .int .i64 d.h.read, .int .i64 d.h.slip, .int .i64 d.h.skew, .int .i64 d.h.circ, .int .i64 d.h.lo, .int .i64 d.h.hi, .int .i64 d.h.wrong, .slice C d.l.length cC, .map (some bs)]
theorem Rd.keptBy {sz : Nat} {w w' : World} {A : Option Addr} {rows : List (List Value)} {row : Option Nat} (h : Rd sz w A rows) (hg : w.grownBy w' row) (hne : ∀ b off, A = some ⟨b, off, none⟩ → some b ≠ row) : Rd sz w' A rows :=
  ⟨fun i hi => let ⟨b, off, e, hb, hc⟩ := h.at_ i hi
    ⟨b, off, e, Nat.lt_of_lt_of_le hb hg.size, fun j r hj c v hv => (World.cell?_of_block (hg.block b hb (hne b off e))).trans (hc j r hj c v hv)⟩⟩
theorem grown_row {w w' : World} {row : Option Nat} (h : w.grownBy w' none) : w.grownBy w' row := ⟨h.os, h.tape, h.output, h.size, fun k hk _ => h.block k hk (by simp)⟩
theorem below_row {w w' : World} {row : Option Nat} (h : Below w.heap.size w w') : w.grownBy w' row := grown_row (grown_of_below h)
/-- What the fields' search reads, apart from the block bm. -/
structure FlH (d : Ds) (A B C : Option Addr) (cA cB cC bs Bf bm : Nat) (w : World) : Prop where
  f : Own w Bf (flC A B C cA cB cC d bs)
  fb : Bf ≠ bm
  p : Rd 2 w A (d.P.map ptrow)
  pb : ∀ b off, A = some ⟨b, off, none⟩ → b ≠ bm
  o : RdI w B d.O
  ob : ∀ b off, B = some ⟨b, off, none⟩ → b ≠ bm
theorem FlH.kept {d : Ds} {A B C : Option Addr} {cA cB cC bs Bf bm : Nat} {w w' : World} (h : FlH d A B C cA cB cC bs Bf bm w) (hg : w.grownBy w' (some bm)) : FlH d A B C cA cB cC bs Bf bm w' :=
  ⟨h.f.grown hg (by simpa using h.fb), h.fb, h.p.keptBy hg (fun b off e => by simpa using h.pb b off e), h.pb, Rd.keptBy h.o hg (fun b off e => by simpa using h.ob b off e), h.ob⟩
namespace Dp
theorem Fld.kept {w w' : World} {bm : Nat} {f : List P2} {v : Value} (h : Fld w bm f v) (hg : w.grownBy w' (some bm)) : Fld w' bm f v := by
  obtain ⟨b, cap, e, hb, hr⟩ := h
  exact ⟨b, cap, e, hb, hr.keptBy hg (fun b' off e' => by cases e'; simpa using hb)⟩
theorem Found.kept {d : Ds} {w w' : World} {bm : Nat} {F : Nat × Int → Option Value} {S : List P2 → Prop} (h : Found d w bm F S) (hg : w.grownBy w' (some bm)) : Found d w' bm F S :=
  ⟨fun z v e => by obtain ⟨f, h1, h2, h3, h4⟩ := h.sound z v e; exact ⟨f, h1, h2, h3, h4.kept hg⟩, h.all⟩
theorem Found.same {d : Ds} {w : World} {bm : Nat} {F : Nat × Int → Option Value} {S S' : List P2 → Prop} (h : Found d w bm F S) (e : ∀ f, S f ↔ S' f) : Found d w bm F S' := by
  have : S = S' := funext fun f => propext (e f)
  subst this; exact h
theorem Found.bad {d : Ds} {w : World} {bm : Nat} {F : Nat × Int → Option Value} {S : List P2 → Prop} {g : List P2} (h : Found d w bm F S) (hg : Pl.ok g = false) : Found d w bm F (fun f => S f ∨ f = g) :=
  ⟨fun z v e => by obtain ⟨f, h1, h2⟩ := h.sound z v e; exact ⟨f, Or.inl h1, h2⟩, fun f hf ho => by
    rcases hf with hf | rfl
    · exact h.all f hf ho
    · rw [hg] at ho; cases ho⟩
theorem Found.there {d : Ds} {w : World} {bm : Nat} {F : Nat × Int → Option Value} {S : List P2 → Prop} {g : List P2} (h : Found d w bm F S) (hg : (F (key d g)).isSome = true) : Found d w bm F (fun f => S f ∨ f = g) :=
  ⟨fun z v e => by obtain ⟨f, h1, h2⟩ := h.sound z v e; exact ⟨f, Or.inl h1, h2⟩, fun f hf ho => by
    rcases hf with hf | rfl
    · exact h.all f hf ho
    · exact hg⟩
theorem Found.put {d : Ds} {w : World} {bm : Nat} {F : Nat × Int → Option Value} {S : List P2 → Prop} {g : List P2} {v : Value} (h : Found d w bm F S) (ho : Pl.ok g = true) (hv : Fld w bm g v) : Found d w bm (updV F (key d g) v) (fun f => S f ∨ f = g) :=
  ⟨fun z u e => by
    unfold updV at e
    by_cases hz : z = key d g
    · rw [if_pos hz] at e
      cases e
      exact ⟨g, Or.inr rfl, ho, hz, hv⟩
    · rw [if_neg hz] at e
      obtain ⟨f, h1, h2⟩ := h.sound z u e
      exact ⟨f, Or.inl h1, h2⟩, fun f hf hof => by
    unfold updV
    by_cases hz : key d f = key d g
    · rw [if_pos hz]; rfl
    · rw [if_neg hz]
      rcases hf with hf | rfl
      · exact h.all f hf hof
      · exact absurd rfl hz⟩
end Dp
theorem kd_wf {d : Ds} (hu : 1 ≤ d.u ∧ d.u ≤ 1000) {f : List P2} (hf : Pl.ok f = true) (hl : f.length ≤ 8) : kdT.wf (Dp.key d f) := by
  have h1 := Dp.ar_bd hu hf
  have h2 := Dp.mk_lt (d := d) hl
  exact ⟨show (Lit.int .u64 ((Dp.mk d f : Nat) : Int)).wf = true from WalkArith.wf_u64 (by omega), show (Lit.int .i64 (Dp.ar d f)).wf = true from WalkArith.wf_i64 (by omega)⟩
theorem zeroSl (w : World) : (zeroValue 22).run Try.prog w = .ok (.slice none 0 0) w := by kernel_rfl
section
attribute [local go_sem ↓] mn2_run mx2_run
set_option maxRecDepth 100000 in
set_option maxHeartbeats 8000000 in
theorem fieldsEnd (d : Ds) (A B C : Option Addr) (cA cB cC bs Bf bm nb : Nat) (first : List P2) (b off c1 : Nat) (F : Nat × Int → Option Value) (S : List P2 → Prop) (w : World) (hd : Hid (Dp.Ok d)) (hl : first.length = d.P.length)
    (hF : FlH d A B C cA cB cC bs Bf bm w) (hfst : Rd 2 w (some ⟨b, off, none⟩) (first.map ptrow)) (hM : MapV kdT w bm nb F) (hnb : nb < 1000000000000) (hS : Dp.Found d w bm F S) :
    Calls Try.prog 102 #[.pointer (some ⟨Bf, 0, none⟩), .map (some bm), .int .u64 (Dp.mk d first : Nat), .slice (some ⟨b, off, none⟩) first.length c1] w fun e w' => e = .returned (.tuple #[]) ∧ ∃ F', MapV kdT w' bm (nb + 1) F' ∧ Dp.Found d w' bm F' (fun f => S f ∨ f = first) ∧ w.grownBy w' (some bm) := by
  obtain ⟨n, hn⟩ : ∃ n, Hid (n = first.length) := ⟨_, rfl⟩
  have hlen : d.P.length = n := by rw [hn.out, hl]
  have hn6 : 3 ≤ n ∧ n ≤ 6 := by
    have h1 := hd.out.six
    have h2 := hd.out.ok
    unfold Pl.ok at h2
    simp only [Bool.and_eq_true, btw_iff] at h2
    omega
  rw [← hn.out]
  have HF := Lib.hid hF
  have HM := Lib.hid hM
  have HS := Lib.hid hS
  have o0 := hF.f
  have hu := hd.out.un
  have hql := fun w => sl_nil' w
  have HR := Lib.hid hfst
  clear hF hM hS hfst hl
  unfold flC at o0
  rw [hlen] at o0
  cases hk : Pl.ok first
  · have HT := Lib.hid (cTup (show (if Pl.ok first = true then Pl.area first else 0) = 0 by rw [hk]; rfl) (show (if Pl.ok first = true then (0 : Int) else 20) = 20 by rw [hk]; rfl) (ctwW (some ⟨b, off, none⟩) n c1 first w HR.out hn (by omega)))
    have hnew := Lib.hid (HS.out.bad hk)
    have O0 := Lib.hid o0
    obtain ⟨l0, c0, f0⟩ := o0
    clear hk
    go_enter Try.func102, Try.ntmps102
    go_wp2_with fail
    refine HT.out.mono ?_
    rintro e w1 ⟨rfl, hb1⟩
    obtain ⟨l1, c1', f1⟩ := O0.out.below hb1 l0
    have hz0 : (0 : Int).tdiv d.u = 0 := Int.zero_tdiv _
    have hu0 : ¬ d.u = 0 := by omega
    clear l0 c0 f0 O0
    go_wp2
    refine bodyPost_ret (v := .tuple #[]) (by simp [results, Try.results102, go_sem]) rfl ?_
    have hB2 : Below w.heap.size w (w1.alloc (Obj.cells #[.int .u64 (Dp.mk d first : Nat), .int .i64 0] 164)) := hb1.alloc hb1.size _
    exact ⟨rfl, F, (HM.out.kept (below_row (row := none) hB2) (by simp)).mono (by omega), hnew.out.kept (below_row hB2), below_row hB2⟩
  · obtain ⟨N, hN⟩ : ∃ N, Pl.area first = N := ⟨_, rfl⟩
    have HT := Lib.hid (cTup (show (if Pl.ok first = true then Pl.area first else 0) = N by rw [hk]; exact hN) (show (if Pl.ok first = true then (0 : Int) else 20) = 0 by rw [hk]; rfl) (ctwW (some ⟨b, off, none⟩) n c1 first w HR.out hn (by omega)))
    have hal : first.all Pl.isP = true := by
      unfold Pl.ok at hk
      simp only [Bool.and_eq_true] at hk
      exact hk.1.2
    have hNb : -800000 ≤ N ∧ N ≤ 800000 := by
      have := Pl.sumTo_bd hal first.length (Nat.le_refl _)
      unfold Pl.area at hN
      have := hn.out
      omega
    have hwf := Lib.hid (kd_wf hu hk (by have := hn.out; omega))
    have hab := Dp.ar_bd hu hk
    obtain ⟨a, ha⟩ : ∃ a, Dp.ar d first = a := ⟨_, rfl⟩
    have hav : (max N (-N)).tdiv d.u = a := by rw [← ha]; unfold Dp.ar; rw [hN]
    have hkey : Dp.key d first = (Dp.mk d first, a) := by unfold Dp.key; rw [ha]
    rw [ha] at hab
    have hw0 : IntKind.i64.wrap (-N) = -N := IntWalk.i64_in _ (by omega)
    have hwa : IntKind.i64.wrap a = a := IntWalk.i64_in _ (by omega)
    have HK := Lib.hid hk
    have O0 := Lib.hid o0
    obtain ⟨l0, c0, f0⟩ := o0
    have hu0 : ¬ d.u = 0 := by omega
    clear hk hN hal ha
    have HKEY := Lib.hid hkey
    clear hkey
    cases hf : F (Dp.key d first) with
    | some v =>
      have hnew := Lib.hid (HS.out.there (g := first) (by rw [hf]; rfl))
      obtain ⟨g, h1, h2, h3, b2, cap2, hv, _, _⟩ := HS.out.sound _ _ hf
      subst hv
      have hql2 := fun W => sl_nil b2 0 g.length cap2 W
      have hlk := Lib.hid (fun W (k : MapV kdT W bm nb F) => (show (Instr.lookup 161 (.map (some bm)) (.agg #[.int .u64 (Dp.mk d first : Nat), .int .i64 a]) false).run Try.prog W = .ok (.slice (some ⟨b2, 0, none⟩) g.length cap2) W from by
        have := k.look (mt := 161) Try.underlying161 (zeroSl W) hwf.out
        rw [hf] at this
        rw [HKEY.out] at this
        exact this))
      clear hf h1 h2 h3
      go_enter Try.func102, Try.ntmps102
      go_wp2_with fail
      refine HT.out.mono ?_
      rintro e w1 ⟨rfl, hb1⟩
      obtain ⟨l1, c1', f1⟩ := O0.out.below hb1 l0
      have hB2 : Below w.heap.size w (w1.alloc (Obj.cells #[.int .u64 (Dp.mk d first : Nat), .int .i64 a] 164)) := hb1.alloc hb1.size _
      have hM2 := HM.out.kept (below_row (row := none) hB2) (by simp)
      have hrun := hlk.out _ hM2
      clear l0 c0 f0 O0
      go_wp2
      refine bodyPost_ret (v := .tuple #[]) (by simp [results, Try.results102, go_sem]) rfl ?_
      exact ⟨rfl, F, hM2.mono (by omega), hnew.out.kept (below_row hB2), below_row hB2⟩
    | none =>
      have hlk := Lib.hid (fun W (k : MapV kdT W bm nb F) => (show (Instr.lookup 161 (.map (some bm)) (.agg #[.int .u64 (Dp.mk d first : Nat), .int .i64 a]) false).run Try.prog W = .ok (.slice none 0 0) W from by
        have := k.look (mt := 161) Try.underlying161 (zeroSl W) hwf.out
        rw [hf] at this
        rw [HKEY.out] at this
        exact this))
      clear hf
      go_enter Try.func102, Try.ntmps102
      go_wp2_with fail
      refine HT.out.mono ?_
      rintro e w1 ⟨rfl, hb1⟩
      obtain ⟨l1, c1', f1⟩ := O0.out.below hb1 l0
      have hB2 : Below w.heap.size w (w1.alloc (Obj.cells #[.int .u64 (Dp.mk d first : Nat), .int .i64 a] 164)) := hb1.alloc hb1.size _
      have hM2 := HM.out.kept (below_row (row := none) hB2) (by simp)
      have hrun := hlk.out _ hM2
      have k2 : Own (w1.alloc (Obj.cells #[.int .u64 (Dp.mk d first : Nat), .int .i64 a] 164)) w1.heap.size [.int .u64 (Dp.mk d first : Nat), .int .i64 a] := Own.new' _ _ rfl rfl
      clear l0 c0 f0 O0
      go_wp2
      clear hrun c1' f1
      refine rg_start (fun W => Own W w1.heap.size [.int .u64 (Dp.mk d first : Nat), .int .i64 a]) 5 (by kernel_rfl) rfl ?_
      have k3 := k2.drew
      have hB3 := hB2.drew
      have hz1 := hb1.size
      clear k2 hB2 hM2 hb1
      generalize World.drew _ = R0 at k3 hB3 ⊢
      refine rg_take (fuel := 2) [0, 1, 2] (by kernel_rfl) (by intro _ _ d _ _ h; first | (cases d <;> exact h) | (simp [Exit.then, Exit.inBlock, ownPostG] at h)) rfl (by kernel_rfl) (by kernel_rfl) k3 ?_; simp only [pickL, pick1, List.cons_append, List.nil_append]
      iterate 3 (refine wpTake_cons (v := ?_) (Or.inl ⟨by rfl, ?_⟩) ?_; rotate_left; (intro w' hSw; have yc := hSw.c; clear hSw; go_simp; (try with_reducible rfl)); (try simp only [Act.put, List.setIfInBounds_toArray, List.set_cons_zero, List.set_cons_succ]))
      refine wpTake_nil ?_
      refine rg_one (fuel := 1) 3 rfl (by kernel_rfl) (by kernel_rfl) ?_; simp only [pick1, wpHead]
      intro K' hK; rw [if_pos (by rfl)]; go_simp
      refine (ClonePtW b off n c1 first _ (HR.out.below hB3 (Nat.le_refl _)) hn (by omega)).mono ?_
      rintro e w3 ⟨g, cg, rfl, hgl, hRg, hb3⟩
      have k4 := k3.below hb3 k3.lt
      have hB4 := hB3.trans (hb3.mono hB3.size)
      have hzR := hB3.size
      refine hK.out _ _ k4 ?_
      clear hK K'; (try simp only [Act.put, List.setIfInBounds_toArray, List.set_cons_zero, List.set_cons_succ])
      clear k3 hB3 hb3
      have hM4 := HM.out.kept (below_row (row := none) hB4) (by simp)
      have hbm := HM.out.lt
      obtain ⟨w5, hup, hM5, hg5, hz5⟩ := hM4.update (mt := 161) Try.underlying161 (by omega) hwf.out (.slice (some ⟨g, 0, none⟩) n cg)
      have hup2 : (Instr.mapUpdate 161 (.map (some bm)) (.agg #[.int .u64 (Dp.mk d first : Nat), .int .i64 a]) (.slice (some ⟨g, 0, none⟩) n cg)).run Try.prog w3 = .ok () w5 := by
        have := hup
        rw [HKEY.out] at this
        exact this
      clear hup
      have hG := (below_row (row := some bm) hB4).trans hg5
      have hFl : Dp.Fld w5 bm first (.slice (some ⟨g, 0, none⟩) n cg) := ⟨g, cg, by rw [hn.out], by omega, hRg.keptBy hg5 (fun b' off' e' => by cases e'; simp; omega)⟩
      have hnew := Lib.hid ((HS.out.kept hG).put HK.out hFl)
      refine rg_one (fuel := 0) 4 rfl (by kernel_rfl) (by kernel_rfl) ?_; simp only [pick1, wpHead]
      intro K' hK; rw [if_pos (by rfl)]; go_simp
      have k5 : Own w5 w1.heap.size [.int .u64 (Dp.mk d first : Nat), .int .i64 a] := k4.grown hg5 (by simp; omega)
      refine hK.out _ _ k5 ?_
      clear hK K' hup2
      refine rg_done (by kernel_rfl) ?_
      go_wp2
      refine bodyPost_ret (v := .tuple #[]) (by simp [results, Try.results102, go_sem]) rfl ?_
      exact ⟨rfl, _, hM5, hnew.out, hG⟩
end
end Go.Proofs.Ytgmhelclofnpkaa
namespace Go.Proofs.Ytgmhelclofnpkaa
open Go.RowKit Go.Maps

theorem neq_p2 (g g' : P2) (w : World) :
    (binOp .neq 53 (.agg #[.int .i64 g.1, .int .i64 g.2]) (.agg #[.int .i64 g'.1, .int .i64 g'.2])).run Try.prog w = .ok (.bool (decide (g ≠ g'))) w := by
  obtain ⟨a, b⟩ := g
  obtain ⟨c, d⟩ := g'
  by_cases h1 : a = c
  · subst h1
    by_cases h2 : b = d
    · subst h2; simp [go_sem]
    · simp [go_sem, h2]
  · simp [go_sem, h1]
/-- What the start of a search reads. -/
structure FdS (Bf : Nat) (vs : List Value) (b1 f1 b2 f2 n : Nat) (c : P2) (o : Int) (W : World) : Prop where
  f : Own W Bf vs
  o : W.cell? ⟨b1, f1 + n, none⟩ = some (.int .i64 o)
  p0 : W.cell? ⟨b2, f2 + n * 2, none⟩ = some (.int .i64 c.1)
  p1 : W.cell? ⟨b2, f2 + n * 2 + 1, none⟩ = some (.int .i64 c.2)
theorem FdS.below {Bf : Nat} {vs : List Value} {b1 f1 b2 f2 n : Nat} {c : P2} {o : Int} {W W' : World} (h : FdS Bf vs b1 f1 b2 f2 n c o W) (hb : Below W.heap.size W W') (l1 : b1 < W.heap.size) (l2 : b2 < W.heap.size) : FdS Bf vs b1 f1 b2 f2 n c o W' :=
  ⟨h.f.below hb h.f.lt, (hb.cell (p := ⟨b1, _, none⟩) l1).trans h.o, (hb.cell (p := ⟨b2, _, none⟩) l2).trans h.p0, (hb.cell (p := ⟨b2, _, none⟩) l2).trans h.p1⟩
theorem FdS.belowB {B Bf : Nat} {vs : List Value} {b1 f1 b2 f2 n : Nat} {c : P2} {o : Int} {W W' : World} (h : FdS Bf vs b1 f1 b2 f2 n c o W) (hb : Below B W W') (l0 : Bf < B) (l1 : b1 < B) (l2 : b2 < B) : FdS Bf vs b1 f1 b2 f2 n c o W' :=
  ⟨h.f.below hb l0, (hb.cell (p := ⟨b1, _, none⟩) l1).trans h.o, (hb.cell (p := ⟨b2, _, none⟩) l2).trans h.p0, (hb.cell (p := ⟨b2, _, none⟩) l2).trans h.p1⟩
/-- The fields of the corners so far: those whose next corner is further to the left, or the same and further down. -/
def Sij (d : Ds) (S : List P2 → Prop) (first : List P2) (x y : Int) (f : List P2) : Prop := S f ∨ ∃ p : P2, (p.1 < x ∨ (p.1 = x ∧ p.2 < y)) ∧ Dp.inOff d first.length p ∧ Dp.Box d (first ++ [p]) f
theorem sij_0 {d : Ds} {S : List P2 → Prop} {first : List P2} {x y : Int} (hy : y = (Pl.at' d.P first.length).2 - Dp.off d first.length) (f : List P2) : Sij d S first x y f ↔ (S f ∨ ∃ p : P2, p.1 < x ∧ Dp.inOff d first.length p ∧ Dp.Box d (first ++ [p]) f) := by
  unfold Sij
  constructor
  · rintro (h | ⟨p, h1, h2, h3⟩)
    · exact Or.inl h
    · refine Or.inr ⟨p, ?_, h2, h3⟩
      unfold Dp.inOff at h2
      omega
  · rintro (h | ⟨p, h1, h2, h3⟩)
    · exact Or.inl h
    · exact Or.inr ⟨p, Or.inl h1, h2, h3⟩
theorem sij_s {d : Ds} {S : List P2 → Prop} {first : List P2} {x y : Int} (hin : Dp.inOff d first.length (x, y)) (f : List P2) : (Sij d S first x y f ∨ Dp.Box d (first ++ [(x, y)]) f) ↔ Sij d S first x (y + 1) f := by
  unfold Sij
  constructor
  · rintro ((h | ⟨p, h1, h2, h3⟩) | h)
    · exact Or.inl h
    · exact Or.inr ⟨p, by omega, h2, h3⟩
    · exact Or.inr ⟨(x, y), Or.inr ⟨rfl, by show y < y + 1; omega⟩, hin, h⟩
  · rintro (h | ⟨⟨p1, p2⟩, h1, h2, h3⟩)
    · exact Or.inl (Or.inl h)
    · simp only at h1
      by_cases e : p1 = x ∧ p2 = y
      · obtain ⟨rfl, rfl⟩ := e
        exact Or.inr h3
      · exact Or.inl (Or.inr ⟨(p1, p2), by simp only; omega, h2, h3⟩)
theorem sij_n {d : Ds} {S : List P2 → Prop} {first : List P2} {x y : Int} (hy : (Pl.at' d.P first.length).2 + Dp.off d first.length < y) (f : List P2) : Sij d S first x y f ↔ (S f ∨ ∃ p : P2, p.1 < x + 1 ∧ Dp.inOff d first.length p ∧ Dp.Box d (first ++ [p]) f) := by
  unfold Sij
  constructor
  · rintro (h | ⟨p, h1, h2, h3⟩)
    · exact Or.inl h
    · exact Or.inr ⟨p, by omega, h2, h3⟩
  · rintro (h | ⟨p, h1, h2, h3⟩)
    · exact Or.inl h
    · refine Or.inr ⟨p, ?_, h2, h3⟩
      unfold Dp.inOff at h2
      omega
def Si (d : Ds) (S : List P2 → Prop) (first : List P2) (x : Int) (f : List P2) : Prop := S f ∨ ∃ p : P2, p.1 < x ∧ Dp.inOff d first.length p ∧ Dp.Box d (first ++ [p]) f
theorem si_0 {d : Ds} {S : List P2 → Prop} {first : List P2} {x : Int} (hx : x = (Pl.at' d.P first.length).1 - Dp.off d first.length) (f : List P2) : S f ↔ Si d S first x f := by
  unfold Si
  constructor
  · exact Or.inl
  · rintro (h | ⟨p, h1, h2, h3⟩)
    · exact h
    · unfold Dp.inOff at h2
      omega
theorem si_n {d : Ds} {S : List P2 → Prop} {first : List P2} {x : Int} (hl : first.length < d.P.length) (hx : (Pl.at' d.P first.length).1 + Dp.off d first.length < x) (f : List P2) : Si d S first x f ↔ (S f ∨ Dp.Box d first f) := by
  unfold Si
  rw [Dp.box_step hl]
  constructor
  · rintro (h | ⟨p, h1, h2, h3⟩)
    · exact Or.inl h
    · exact Or.inr ⟨p, h2, h3⟩
  · rintro (h | ⟨p, h2, h3⟩)
    · exact Or.inl h
    · refine Or.inr ⟨p, ?_, h2, h3⟩
      unfold Dp.inOff at h2
      omega
set_option maxRecDepth 100000 in
set_option maxHeartbeats 16000000 in
theorem fieldsW (d : Ds) (A B C : Option Addr) (cA cB cC bs Bf bm : Nat) (hd : Hid (Dp.Ok d)) : ∀ (r : Nat) (first : List P2) (A1 : Option Addr) (c1 nb : Nat) (F : Nat × Int → Option Value) (S : List P2 → Prop) (w : World), first.length + r = d.P.length → first.length ≤ c1 → (A1 = none → first = []) → (∀ b off, A1 = some ⟨b, off, none⟩ → b ≠ bm) →
    FlH d A B C cA cB cC bs Bf bm w → Rd 2 w A1 (first.map ptrow) → MapV kdT w bm nb F → nb + 25 ^ r < 1000000000000 → Dp.Found d w bm F S →
    Calls Try.prog 102 #[.pointer (some ⟨Bf, 0, none⟩), .map (some bm), .int .u64 (Dp.mk d first : Nat), .slice A1 first.length c1] w fun e w' => e = .returned (.tuple #[]) ∧ ∃ F', MapV kdT w' bm (nb + 25 ^ r) F' ∧ Dp.Found d w' bm F' (fun f => S f ∨ Dp.Box d first f) ∧ w.grownBy w' (some bm) := by
  intro r
  induction r with
  | zero =>
    intro first A1 c1 nb F S w hl hc hnil hne hF hfst hM hnb hS
    have h3 : 0 < first.length := by
      have h2 := hd.out.ok
      unfold Pl.ok at h2
      simp only [Bool.and_eq_true, btw_iff] at h2
      omega
    obtain ⟨b, off, rfl, _, _⟩ := rd_p2 hfst (i := 0) (p := first[0]) (by simp)
    refine (fieldsEnd d A B C cA cB cC bs Bf bm nb first b off c1 F S w hd (by omega) hF hfst hM (by simp at hnb; omega) hS).mono ?_
    rintro e w' ⟨rfl, F', h1, h2, h3⟩
    exact ⟨rfl, F', by simpa using h1, h2.same (fun f => by rw [Dp.box_full (by omega)]), h3⟩
  | succ r ih =>
    intro first A1 c1 nb F S w hl hc hnil hne hF hfst hM hnb hS
    obtain ⟨n, hn⟩ : ∃ n, Hid (n = first.length) := ⟨_, rfl⟩
    obtain ⟨N6, hN6⟩ : ∃ N6, Hid (d.P.length = N6) := ⟨_, rfl⟩
    have hnl : n < N6 ∧ N6 ≤ 6 := by
      have := hd.out.six
      have := hn.out
      have := hN6.out
      omega
    rw [← hn.out] at hc ⊢
    obtain ⟨⟨cx, cy⟩, hcc⟩ : ∃ c, Hid (d.P[n]? = some c) := ⟨d.P[n]'(by have := hN6.out; omega), by simp [Hid]⟩
    obtain ⟨o, hoo⟩ : ∃ o, Hid (d.O[n]? = some o) := ⟨d.O[n]'(by have := hN6.out; have := hd.out.ol; omega), by simp [Hid]⟩
    have hob := hd.out.off o (List.mem_of_getElem? hoo.out)
    obtain ⟨oN, rfl⟩ : ∃ oN : Nat, o = oN := ⟨o.toNat, by omega⟩
    have hcb : (-200 ≤ cx ∧ cx ≤ 200) ∧ -200 ≤ cy ∧ cy ≤ 200 := by
      have h2 := hd.out.ok
      unfold Pl.ok at h2
      simp only [Bool.and_eq_true] at h2
      exact Pl.isP_iff.1 (List.all_eq_true.1 h2.1.2 _ (List.mem_of_getElem? hcc.out))
    obtain ⟨b1, f1, hB1, hl1, hc1⟩ := RdI.elem hF.o hoo.out
    obtain ⟨b2, f2, hA1, hl2, hp0, hp1⟩ := rd_p2 hF.p hcc.out
    have o0 := hF.f
    have HF := Lib.hid hF
    have HM := Lib.hid hM
    have HS := Lib.hid hS
    have HR := Lib.hid hfst
    have HIH := Lib.hid ih
    clear hF hM hS hfst ih
    unfold flC at o0
    rw [hN6.out] at o0
    have hol : d.O.length = N6 := by rw [hd.out.ol, hN6.out]
    rw [hol] at o0
    have hne1 : ((n : Int) == (N6 : Int)) = false := by simp; omega
    have s0 : FdS Bf [.slice A N6 cA, .slice B N6 cB, .int .i64 d.u, .int .i64 d.h.full, .int .i64 d.h.read, .int .i64 d.h.slip, .int .i64 d.h.skew, .int .i64 d.h.circ, .int .i64 d.h.lo, .int .i64 d.h.hi, .int .i64 d.h.wrong, .slice C d.l.length cC, .map (some bs)] b1 f1 b2 f2 n (cx, cy) oN w.drew := ⟨o0.drew, hc1, hp0, hp1⟩
    have hl1w := hl1
    have hl2w := hl2
    have hl1' : b1 < w.drew.heap.size := hl1
    have hl2' : b2 < w.drew.heap.size := hl2
    have oB : Below w.heap.size w w.drew := (Below.refl _ _).drew
    obtain ⟨l0, c0, g0⟩ := o0
    subst hB1 hA1
    go_enter Try.func102, Try.ntmps102
    go_wp2
    clear l0 c0 g0 hl1 hl2 hc1 hp0 hp1
    refine rg_start (FdS Bf [.slice (some ⟨b2, f2, none⟩) N6 cA, .slice (some ⟨b1, f1, none⟩) N6 cB, .int .i64 d.u, .int .i64 d.h.full, .int .i64 d.h.read, .int .i64 d.h.slip, .int .i64 d.h.skew, .int .i64 d.h.circ, .int .i64 d.h.lo, .int .i64 d.h.hi, .int .i64 d.h.wrong, .slice C d.l.length cC, .map (some bs)] b1 f1 b2 f2 n (cx, cy) oN) 19 (by kernel_rfl) rfl ?_
    have hsz : w.drew.heap.size = w.heap.size := rfl
    generalize World.drew _ = R0 at s0 hl1' hl2' oB hsz ⊢
    refine rg_take (fuel := 3) [0, 1, 2, 3, 4, 5, 6, 7, 8, 9, 10, 11, 12, 13, 14, 15] (by kernel_rfl) (by intro _ _ d _ _ h; first | (cases d <;> exact h) | (simp [Exit.then, Exit.inBlock, ownPostG] at h)) rfl (by kernel_rfl) (by kernel_rfl) s0 ?_; simp only [pickL, pick1, List.cons_append, List.nil_append]
    iterate 16 (refine wpTake_cons (v := ?_) (Or.inl ⟨by rfl, ?_⟩) ?_; rotate_left; (intro w' hSw; have yf := hSw.f.c; have yl := hSw.f.lt; have y0 := hSw.o; have y1 := hSw.p0; have y2 := hSw.p1; clear hSw; go_simp; (try with_reducible rfl)); (try simp only [Act.put, List.setIfInBounds_toArray, List.set_cons_zero, List.set_cons_succ]))
    refine wpTake_nil ?_
    refine rg_one (fuel := 2) 16 rfl (by kernel_rfl) (by kernel_rfl) ?_; simp only [pick1, wpHead]
    intro K' hK; rw [if_pos (by rfl)]; go_simp
    have ba : Below R0.heap.size R0 (R0.alloc (Obj.cells #[.int .i64 0, .int .i64 0] 53)) := (Below.refl _ _).alloc (Nat.le_refl _) _
    have s1 := s0.below ba hl1' hl2'
    have k1 : Own (R0.alloc (Obj.cells #[.int .i64 0, .int .i64 0] 53)) w.heap.size [.int .i64 0, .int .i64 0] := Own.new' _ _ hsz.symm rfl
    have hB1 := oB.trans (ba.mono oB.size)
    refine hK.out _ _ s1 ?_
    clear hK K'; (try simp only [Act.put, List.setIfInBounds_toArray, List.set_cons_zero, List.set_cons_succ])
    clear s0 ba oB hl1' hl2'
    generalize R0.alloc (Obj.cells #[.int .i64 0, .int .i64 0] 53) = R1 at s1 k1 hB1 ⊢
    refine rg_one (fuel := 1) 17 rfl (by kernel_rfl) (by kernel_rfl) ?_; simp only [pick1, wpHead]
    intro K' hK; rw [if_pos (by rfl)]; go_simp
    refine hK.out _ _ s1 ?_
    clear hK K'; (try simp only [Act.put, List.setIfInBounds_toArray, List.set_cons_zero, List.set_cons_succ])
    refine rg_one (fuel := 0) 18 rfl (by kernel_rfl) (by kernel_rfl) ?_; simp only [pick1, wpHead]
    have K1 := Lib.hid k1
    obtain ⟨lk, ck, gq⟩ := k1
    intro K' hK; rw [if_pos (by rfl)]; go_simp
    have bs2 : Below w.heap.size R1 ((R1.setCell ⟨w.heap.size, 0, none⟩ (.int .i64 cx)).setCell ⟨w.heap.size, 1, none⟩ (.int .i64 cy)) := ((Below.refl _ _).setCell (by exact Nat.le_refl _) _).setCell (by exact Nat.le_refl _) _
    have s2 := s1.belowB bs2 HF.out.f.lt hl1w hl2w
    have k2 : Own ((R1.setCell ⟨w.heap.size, 0, none⟩ (.int .i64 cx)).setCell ⟨w.heap.size, 1, none⟩ (.int .i64 cy)) w.heap.size [.int .i64 cx, .int .i64 cy] := (K1.out.set 0 (by simp) _).set 1 (by simp) _
    have hB2 := hB1.trans bs2
    refine hK.out _ _ s2 ?_
    clear hK K'; (try simp only [Act.put, List.setIfInBounds_toArray, List.set_cons_zero, List.set_cons_succ])
    clear K1 lk ck gq s1 hB1 bs2 s2
    generalize World.setCell _ _ _ = W2 at k2 hB2 ⊢
    refine rg_done (by kernel_rfl) ?_
    have hG2 : w.grownBy W2 (some bm) := below_row hB2
    have hM2 : MapV kdT W2 bm (nb + 0 * 5 * 25 ^ r) F := (HM.out.kept (below_row (row := none) hB2) (by simp)).mono (by omega)
    have hatP : Pl.at' d.P first.length = (cx, cy) := by rw [← hn.out]; simp [Pl.at', List.getD_eq_getElem?_getD, hcc.out]
    have hoff : Dp.off d first.length = oN := by rw [← hn.out]; simp [Dp.off, List.getD_eq_getElem?_getD, hoo.out]
    have hS2 : Dp.Found d W2 bm F (Si d S first (cx - oN + (0 : Nat))) := (HS.out.kept hG2).same (si_0 (by rw [hatP, hoff]; simp))
    have hpow : 25 ^ (r + 1) = 25 * 25 ^ r := by rw [Nat.pow_succ, Nat.mul_comm]
    have HatP := Lib.hid hatP
    have Hoff := Lib.hid hoff
    have hpw : 0 < 25 ^ r := Nat.pow_pos (by decide)
    rw [hpow] at hnb
    obtain ⟨pw, hpe⟩ : ∃ pw, 25 ^ r = pw := ⟨_, rfl⟩
    replace hpe := Lib.hid hpe
    rw [hpe.out] at hnb hpw hM2
    have HIH2 := HIH
    have HPOW := Lib.hid (hpow.trans (by rw [hpe.out]))
    clear hatP hoff hpow HIH hB2
    have hw1 : IntKind.i64.wrap (cx - oN) = cx - oN := IntWalk.i64_in _ (by omega)
    have hw2 : IntKind.i64.wrap (cy - oN) = cy - oN := IntWalk.i64_in _ (by omega)
    have hw3 : IntKind.i64.wrap (cx + oN) = cx + oN := IntWalk.i64_in _ (by omega)
    have hw4 : IntKind.i64.wrap (cy + oN) = cy + oN := IntWalk.i64_in _ (by omega)
    have k2' := Lib.hid k2
    obtain ⟨lk, ck, gq⟩ := k2
    go_wp2
    go_loopg [14] (2 * oN + 1) (fun K x wr => ∃ (i : Nat) (F' : Nat × Int → Option Value), K + i = 2 * oN + 1 ∧ x = .int .i64 (cx - oN + (i : Nat)) ∧ Own wr w.heap.size [.int .i64 cx, .int .i64 cy] ∧ MapV kdT wr bm (nb + i * 5 * pw) F' ∧ Dp.Found d wr bm F' (Si d S first (cx - oN + (i : Nat))) ∧ w.grownBy wr (some bm))
    case atStart => exact ⟨0, F, rfl, by simp, k2'.out, hM2, hS2, hG2⟩
    case round =>
      clear hG2 hM2 hS2 k2' lk ck gq
      obtain ⟨i, F', hi, rfl, k3, hM3, hS3, hG3⟩ := hrel
      have K3 := Lib.hid k3
      obtain ⟨lk, ck, gq⟩ := k3
      obtain ⟨X, hX⟩ : ∃ X, Hid (X = cx - oN + (i : Nat)) := ⟨_, rfl⟩
      rw [← hX.out] at hS3 ⊢
      by_cases hlt : i < 2 * oN + 1
      · have hX1 : cx - oN ≤ X ∧ X ≤ cx + oN := by have := hX.out; omega
        have hw5 : IntKind.i64.wrap (X + 1) = X + 1 := IntWalk.i64_in _ (by omega)
        have hM4 : MapV kdT wr bm (nb + (i * 5 + 0) * pw) F' := hM3
        have hS4 : Dp.Found d wr bm F' (Sij d S first X (cy - oN + (0 : Nat))) := hS3.same (fun f => (sij_0 (by rw [HatP.out, Hoff.out]; simp) f).symm)
        clear hM3 hS3
        go_wp2
        go_loopg [15] (2 * oN + 1) (fun K y wr2 => ∃ (j : Nat) (F2 : Nat × Int → Option Value), K + j = 2 * oN + 1 ∧ y = .int .i64 (cy - oN + (j : Nat)) ∧ Own wr2 w.heap.size [.int .i64 cx, .int .i64 cy] ∧ MapV kdT wr2 bm (nb + (i * 5 + j) * pw) F2 ∧ Dp.Found d wr2 bm F2 (Sij d S first X (cy - oN + (j : Nat))) ∧ w.grownBy wr2 (some bm))
        case atStart => exact ⟨0, F', rfl, by simp, K3.out, hM4, hS4, hG3⟩
        case round =>
          clear hG3 hM4 hS4 K3 lk ck gq
          obtain ⟨j, F2, hj, rfl, k3, hM3, hS3, hG3⟩ := hrel
          have K3 := Lib.hid k3
          obtain ⟨lk, ck, gq⟩ := k3
          obtain ⟨Y, hY⟩ : ∃ Y, Hid (Y = cy - oN + (j : Nat)) := ⟨_, rfl⟩
          rw [← hY.out] at hS3 ⊢
          by_cases hlt2 : j < 2 * oN + 1
          · have hY1 : cy - oN ≤ Y ∧ Y ≤ cy + oN := by have := hY.out; omega
            have hw6 : IntKind.i64.wrap (Y + 1) = Y + 1 := IntWalk.i64_in _ (by omega)
            by_cases hpc : (X, Y) = (cx, cy)
            · have hrunN := fun W => neq_p2 (X, Y) (cx, cy) W
              rw [decide_eq_false (by simpa using hpc)] at hrunN
              have hmk : Dp.mk d (first ++ [(X, Y)]) = Dp.mk d first := by rw [Dp.mk_snoc, if_neg (by rw [HatP.out]; simpa using hpc)]
              have HMKQ := Lib.hid hmk
              clear hmk hpc
              go_wp2
              have hbm := hM3.lt
              have hbm0 := HM.out.lt
              have kp : Own ((wr.alloc (Obj.cells #[.int .i64 X, .int .i64 Y] 53)).drew) wr.heap.size [.int .i64 X, .int .i64 Y] := (Own.new' _ _ rfl rfl).drew
              have bR : Below wr.heap.size wr ((wr.alloc (Obj.cells #[.int .i64 X, .int .i64 Y] 53)).drew) := by (repeat' (first | (with_reducible exact Below.refl _ _) | (with_reducible assumption) | (with_reducible refine Below.drew ?_) | (with_reducible refine below_drewN ?_ _) | (with_reducible refine Below.setCell ?_ ?_ _) | (with_reducible refine Below.alloc ?_ ?_ _) | (refine Below.trans ?_ (Below.mono (by with_reducible assumption) ?_)) | omega | (exact Below.size (by with_reducible assumption)) | (simp; done) | (simp; omega)))
              have hzR : ((wr.alloc (Obj.cells #[.int .i64 X, .int .i64 Y] 53)).drew).heap.size = wr.heap.size + 1 := by simp
              have hzw := hG3.size
              have hz0 := K3.out.lt
              refine rg_start (fun W => Own W wr.heap.size [.int .i64 X, .int .i64 Y]) 11 (by kernel_rfl) rfl ?_
              generalize World.drew _ = R0 at kp bR hzR ⊢
              clear lk ck gq
              refine rg_take (fuel := 3) [0, 1, 2, 3, 4, 5, 6, 7] (by kernel_rfl) (by intro _ _ d _ _ h; first | (cases d <;> exact h) | (simp [Exit.then, Exit.inBlock, ownPostG] at h)) rfl (by kernel_rfl) (by kernel_rfl) kp ?_; simp only [pickL, pick1, List.cons_append, List.nil_append]
              iterate 8 (refine wpTake_cons (v := ?_) (Or.inl ⟨by rfl, ?_⟩) ?_; rotate_left; (intro w' hSw; have yc := hSw.c; clear hSw; go_simp; (try with_reducible rfl)); (try simp only [Act.put, List.setIfInBounds_toArray, List.set_cons_zero, List.set_cons_succ]))
              refine wpTake_nil ?_
              refine rg_one (fuel := 2) 8 rfl (by kernel_rfl) (by kernel_rfl) ?_; simp only [pick1, wpHead]
              intro K' hK; rw [if_pos (by rfl)]; go_simp
              have ba : Below R0.heap.size R0 (R0.alloc (Obj.cells #[.int .i64 X, .int .i64 Y] 53)) := (Below.refl _ _).alloc (Nat.le_refl _) _
              have kq : Own (R0.alloc (Obj.cells #[.int .i64 X, .int .i64 Y] 53)) R0.heap.size [.int .i64 X, .int .i64 Y] := Own.new' _ _ rfl rfl
              have kp1 := kp.below ba kp.lt
              have bR1 := bR.trans (ba.mono bR.size)
              refine hK.out _ _ kp1 ?_
              clear hK K'; (try simp only [Act.put, List.setIfInBounds_toArray, List.set_cons_zero, List.set_cons_succ])
              clear kp bR ba
              generalize R0.alloc (Obj.cells #[.int .i64 X, .int .i64 Y] 53) = R1 at kp1 bR1 kq ⊢
              have hR1 : Rd 2 R1 A1 (first.map ptrow) := HR.out.keptBy (hG3.trans (below_row bR1)) (fun b off e => by simpa using hne b off e)
              obtain ⟨g', cap, R2, hcp, hrun, hg', hR2, bR2⟩ := run_corner R1 A1 n first 22 hR1 hn.out (by omega) (fun e => by rw [hn.out, hnil e]; rfl) R0.heap.size (X, Y) kq
              rw [hzR] at hrun
              refine rg_one (fuel := 1) 9 rfl (by kernel_rfl) (by kernel_rfl) ?_
              simp only [pick1]
              intro K' hK
              refine step_push (u := .slice A1 n n) (y := .slice (some ⟨wr.heap.size + 1, 0, none⟩) 1 1) (v' := .slice (some ⟨g', 0, none⟩) (n + 1) cap) (w' := R2) (t := 22) (s := .tmp 114) (x := .tmp 116) (by kernel_rfl) (by kernel_rfl) (by kernel_rfl) (by kernel_rfl) hrun ?_
              have kp2 := kp1.below bR2 kp1.lt
              have bR3 := bR1.trans (bR2.mono bR1.size)
              refine hK.out _ _ kp2 ?_
              clear hK K'; (try simp only [Act.put, List.setIfInBounds_toArray, List.set_cons_zero, List.set_cons_succ])
              have hG4 := hG3.trans (below_row (row := some bm) bR3)
              have hM4 := hM3.kept (below_row (row := none) bR3) (by simp)
              have hz1 := bR1.size
              have hcall := HIH2.out (first ++ [(X, Y)]) (some ⟨g', 0, none⟩) cap (nb + (i * 5 + j) * pw) F2 (Sij d S first X Y) R2 (by have := hn.out; simp; omega) (by rw [List.length_append, List.length_singleton, ← hn.out]; exact hcp) (fun e => by cases e) (fun b off e => by cases e; omega) (HF.out.kept hG4) hR2 hM4 (by
                rw [hpe.out]
                have : (i * 5 + j) * pw ≤ 24 * pw := Nat.mul_le_mul_right _ (by omega)
                omega) (hS3.kept (below_row bR3))
              rw [List.length_append, List.length_singleton, ← hn.out] at hcall
              rw [HMKQ.out] at hcall
              clear kp1 bR1 kq hR1 hrun hR2
              refine rg_one (fuel := 0) 10 rfl (by kernel_rfl) (by kernel_rfl) ?_; simp only [pick1, wpHead]
              intro K' hK; rw [if_pos (by rfl)]; go_simp
              refine hcall.mono ?_
              rintro e w5 ⟨rfl, F3, h1, h2, h3⟩
              rw [hpe.out] at h1
              have kp5 := kp2.grown h3 (by simp; omega)
              have kc5 : Own w5 w.heap.size [.int .i64 cx, .int .i64 cy] := (K3.out.below bR3 hz0).grown h3 (by simp; omega)
              have hS6 : Hid (Dp.Found d w5 bm F3 (Sij d S first X (Y + 1))) := h2.same (sij_s (by
                unfold Dp.inOff
                rw [HatP.out, Hoff.out]
                simp only
                omega))
              have hG6 := hG4.trans h3
              refine hK.out _ _ kp5 ?_
              clear hK K' hcall h2 h3 kp2 hM4
              refine rg_done (by kernel_rfl) ?_
              go_wp2
              go_roundg (2 * oN + 1 - (j + 1))
              case measure => omega
              case rel =>
                refine ⟨j + 1, F3, by omega, ?_, kc5, h1.mono ?_, ?_, hG6⟩
                · have := hY.out; simp; omega
                · have e : (i * 5 + (j + 1)) * pw = (i * 5 + j) * pw + pw := by rw [← Nat.add_assoc, Nat.succ_mul]
                  omega
                · have e : cy - (oN : Int) + ((j + 1 : Nat) : Int) = Y + 1 := by have := hY.out; omega
                  rw [e]; exact hS6.out
            · have hrunN := fun W => neq_p2 (X, Y) (cx, cy) W
              rw [decide_eq_true hpc] at hrunN
              have hmk : Dp.mk d (first ++ [(X, Y)]) = Dp.mk d first ||| 1 <<< n := by rw [Dp.mk_snoc, if_pos (by rw [HatP.out]; exact hpc), ← hn.out]
              have hml : Dp.mk d first < 256 := Dp.mk_lt (by have := hn.out; omega)
              have hpn : 1 <<< n ≤ 256 := by rw [Nat.one_shiftLeft]; exact Nat.pow_le_pow_right (n := 2) (by decide) (show n ≤ 8 by omega)
              have hpi : ((2 : Int) ^ n) = ((1 <<< n : Nat) : Int) := by rw [Nat.one_shiftLeft]; simp
              obtain ⟨q, hq⟩ : ∃ q, 1 <<< n = q := ⟨_, rfl⟩
              rw [hq] at hmk hpn hpi
              have hwn : IntKind.u64.wrap ((2 : Int) ^ n) = ((q : Nat) : Int) := by rw [hpi]; exact IntWalk.u64_in _ (by omega)
              have hor : bits BinOp.or IntKind.u64 ((Dp.mk d first : Nat) : Int) (IntKind.u64.wrap ((2 : Int) ^ n)) = ((Dp.mk d (first ++ [(X, Y)]) : Nat) : Int) := by
                rw [hwn, bits_or_u64_nat _ _ (by omega) (by omega), hmk]
              clear hmk hpc hwn hpi hpn hq q
              go_wp2
              have hbm := hM3.lt
              have hbm0 := HM.out.lt
              have kp : Own ((wr.alloc (Obj.cells #[.int .i64 X, .int .i64 Y] 53)).drew) wr.heap.size [.int .i64 X, .int .i64 Y] := (Own.new' _ _ rfl rfl).drew
              have bR : Below wr.heap.size wr ((wr.alloc (Obj.cells #[.int .i64 X, .int .i64 Y] 53)).drew) := by (repeat' (first | (with_reducible exact Below.refl _ _) | (with_reducible assumption) | (with_reducible refine Below.drew ?_) | (with_reducible refine below_drewN ?_ _) | (with_reducible refine Below.setCell ?_ ?_ _) | (with_reducible refine Below.alloc ?_ ?_ _) | (refine Below.trans ?_ (Below.mono (by with_reducible assumption) ?_)) | omega | (exact Below.size (by with_reducible assumption)) | (simp; done) | (simp; omega)))
              have hzR : ((wr.alloc (Obj.cells #[.int .i64 X, .int .i64 Y] 53)).drew).heap.size = wr.heap.size + 1 := by simp
              have hzw := hG3.size
              have hz0 := K3.out.lt
              refine rg_start (fun W => Own W wr.heap.size [.int .i64 X, .int .i64 Y]) 11 (by kernel_rfl) rfl ?_
              generalize World.drew _ = R0 at kp bR hzR ⊢
              clear lk ck gq
              refine rg_take (fuel := 3) [0, 1, 2, 3, 4, 5, 6, 7] (by kernel_rfl) (by intro _ _ d _ _ h; first | (cases d <;> exact h) | (simp [Exit.then, Exit.inBlock, ownPostG] at h)) rfl (by kernel_rfl) (by kernel_rfl) kp ?_; simp only [pickL, pick1, List.cons_append, List.nil_append]
              iterate 8 (refine wpTake_cons (v := ?_) (Or.inl ⟨by rfl, ?_⟩) ?_; rotate_left; (intro w' hSw; have yc := hSw.c; clear hSw; go_simp; (try with_reducible rfl)); (try simp only [Act.put, List.setIfInBounds_toArray, List.set_cons_zero, List.set_cons_succ]))
              refine wpTake_nil ?_
              refine rg_one (fuel := 2) 8 rfl (by kernel_rfl) (by kernel_rfl) ?_; simp only [pick1, wpHead]
              intro K' hK; rw [if_pos (by rfl)]; go_simp
              have ba : Below R0.heap.size R0 (R0.alloc (Obj.cells #[.int .i64 X, .int .i64 Y] 53)) := (Below.refl _ _).alloc (Nat.le_refl _) _
              have kq : Own (R0.alloc (Obj.cells #[.int .i64 X, .int .i64 Y] 53)) R0.heap.size [.int .i64 X, .int .i64 Y] := Own.new' _ _ rfl rfl
              have kp1 := kp.below ba kp.lt
              have bR1 := bR.trans (ba.mono bR.size)
              refine hK.out _ _ kp1 ?_
              clear hK K'; (try simp only [Act.put, List.setIfInBounds_toArray, List.set_cons_zero, List.set_cons_succ])
              clear kp bR ba
              generalize R0.alloc (Obj.cells #[.int .i64 X, .int .i64 Y] 53) = R1 at kp1 bR1 kq ⊢
              have hR1 : Rd 2 R1 A1 (first.map ptrow) := HR.out.keptBy (hG3.trans (below_row bR1)) (fun b off e => by simpa using hne b off e)
              obtain ⟨g', cap, R2, hcp, hrun, hg', hR2, bR2⟩ := run_corner R1 A1 n first 22 hR1 hn.out (by omega) (fun e => by rw [hn.out, hnil e]; rfl) R0.heap.size (X, Y) kq
              rw [hzR] at hrun
              refine rg_one (fuel := 1) 9 rfl (by kernel_rfl) (by kernel_rfl) ?_
              simp only [pick1]
              intro K' hK
              refine step_push (u := .slice A1 n n) (y := .slice (some ⟨wr.heap.size + 1, 0, none⟩) 1 1) (v' := .slice (some ⟨g', 0, none⟩) (n + 1) cap) (w' := R2) (t := 22) (s := .tmp 114) (x := .tmp 116) (by kernel_rfl) (by kernel_rfl) (by kernel_rfl) (by kernel_rfl) hrun ?_
              have kp2 := kp1.below bR2 kp1.lt
              have bR3 := bR1.trans (bR2.mono bR1.size)
              refine hK.out _ _ kp2 ?_
              clear hK K'; (try simp only [Act.put, List.setIfInBounds_toArray, List.set_cons_zero, List.set_cons_succ])
              have hG4 := hG3.trans (below_row (row := some bm) bR3)
              have hM4 := hM3.kept (below_row (row := none) bR3) (by simp)
              have hz1 := bR1.size
              have hcall := HIH2.out (first ++ [(X, Y)]) (some ⟨g', 0, none⟩) cap (nb + (i * 5 + j) * pw) F2 (Sij d S first X Y) R2 (by have := hn.out; simp; omega) (by rw [List.length_append, List.length_singleton, ← hn.out]; exact hcp) (fun e => by cases e) (fun b off e => by cases e; omega) (HF.out.kept hG4) hR2 hM4 (by
                rw [hpe.out]
                have : (i * 5 + j) * pw ≤ 24 * pw := Nat.mul_le_mul_right _ (by omega)
                omega) (hS3.kept (below_row bR3))
              rw [List.length_append, List.length_singleton, ← hn.out] at hcall
              clear kp1 bR1 kq hR1 hrun hR2
              refine rg_one (fuel := 0) 10 rfl (by kernel_rfl) (by kernel_rfl) ?_; simp only [pick1, wpHead]
              intro K' hK; rw [if_pos (by rfl)]; go_simp
              refine hcall.mono ?_
              rintro e w5 ⟨rfl, F3, h1, h2, h3⟩
              rw [hpe.out] at h1
              have kp5 := kp2.grown h3 (by simp; omega)
              have kc5 : Own w5 w.heap.size [.int .i64 cx, .int .i64 cy] := (K3.out.below bR3 hz0).grown h3 (by simp; omega)
              have hS6 : Hid (Dp.Found d w5 bm F3 (Sij d S first X (Y + 1))) := h2.same (sij_s (by
                unfold Dp.inOff
                rw [HatP.out, Hoff.out]
                simp only
                omega))
              have hG6 := hG4.trans h3
              refine hK.out _ _ kp5 ?_
              clear hK K' hcall h2 h3 kp2 hM4
              refine rg_done (by kernel_rfl) ?_
              go_wp2
              go_roundg (2 * oN + 1 - (j + 1))
              case measure => omega
              case rel =>
                refine ⟨j + 1, F3, by omega, ?_, kc5, h1.mono ?_, ?_, hG6⟩
                · have := hY.out; simp; omega
                · have e : (i * 5 + (j + 1)) * pw = (i * 5 + j) * pw + pw := by rw [← Nat.add_assoc, Nat.succ_mul]
                  omega
                · have e : cy - (oN : Int) + ((j + 1 : Nat) : Int) = Y + 1 := by have := hY.out; omega
                  rw [e]; exact hS6.out
          · have hY1 : cy + oN < Y := by have := hY.out; omega
            have hS5 : Hid (Dp.Found d wr bm F2 (Si d S first (X + 1))) := hS3.same (sij_n (by rw [HatP.out, Hoff.out]; exact hY1))
            clear hS3
            go_wp2
            go_roundg (2 * oN + 1 - (i + 1))
            case measure => omega
            case rel =>
              refine ⟨i + 1, F2, by omega, ?_, K3.out, hM3.mono ?_, ?_, hG3⟩
              · have := hX.out; simp; omega
              · have : j ≤ 5 := by omega
                exact Nat.add_le_add_left (Nat.mul_le_mul_right _ (by omega)) _
              · have e : cx - (oN : Int) + ((i + 1 : Nat) : Int) = X + 1 := by have := hX.out; omega
                rw [e]; exact hS5.out
      · have hX1 : cx + oN < X := by have := hX.out; omega
        have hS5 : Hid (Dp.Found d wr bm F' (fun f => S f ∨ Dp.Box d first f)) := hS3.same (si_n (by have := hn.out; have := hN6.out; omega) (by rw [HatP.out, Hoff.out]; exact hX1))
        clear hS3
        go_wp2
        (refine bodyPost_end (v := .tuple #[]) ?_ ?_ ?_ <;> first | rfl | (simp [results, Try.results102, go_sem]; done) | skip)
        refine ⟨rfl, F', hM3.mono ?_, hS5.out, hG3⟩
        rw [HPOW.out]
        have : i * 5 ≤ 25 := by omega
        exact Nat.add_le_add_left (Nat.mul_le_mul_right _ this) _
end Go.Proofs.Ytgmhelclofnpkaa
namespace Go.Proofs.Ytgmhelclofnpkaa
open Go.RowKit Go.Maps

set_option maxRecDepth 100000 in
set_option maxHeartbeats 4000000 in
theorem dCheckW (d : Ds) (A B C : Option Addr) (cA cB cC : Nat) (w : World) (hd : Hid (Dp.Ok d)) (hA : Rd 2 w A (d.P.map ptrow)) (hB : RdI w B d.O) (hC : Rd 5 w C (d.l.map wkrow)) :
    Calls Try.prog 101 #[dsV A B C cA cB cC d] w fun e w' => e = .returned (.int .i64 0) ∧ Below w.heap.size w w' := by
  obtain ⟨n, hn⟩ : ∃ n, d.P.length = n := ⟨_, rfl⟩
  obtain ⟨m, hm⟩ : ∃ m, d.l.length = m := ⟨_, rfl⟩
  have hol : d.O.length = n := by rw [hd.out.ol, hn]
  have hn6 : n ≤ 6 := by have := hd.out.six; omega
  have hm8 : m ≤ 8 := by have := hd.out.wh.n; omega
  have HP := Lib.hid (fun W (k : Rd 2 W A (d.P.map ptrow)) => cIB (show (if Pl.ok d.P = true then (0 : Int) else 20) = 0 by rw [hd.out.ok]; rfl) (ccheckW A n cA d.P W k (Lib.hid hn.symm) (by omega)))
  have HO := Lib.hid (fun W (k : RdI W B d.O) => dCfIntW B d.O n cB W k (Lib.hid hol.symm) (by omega) (Lib.hid hd.out.off))
  have HW := Lib.hid (fun W (k : Rd 5 W C (d.l.map wkrow)) => wCheckW d.h C d.l m cC W k (Lib.hid hm.symm) hm8 hd.out.wh.k hd.out.wh.l)
  have hun := hd.out.un
  have HA := Lib.hid hA
  have HB := Lib.hid hB
  have HC := Lib.hid hC
  unfold dsV
  rw [hn, hol, hm]
  have o0 : Own (w.alloc (.cells #[.slice A n cA, .slice B n cB, .int .i64 d.u, .int .i64 d.h.full, .int .i64 d.h.read, .int .i64 d.h.slip, .int .i64 d.h.skew, .int .i64 d.h.circ, .int .i64 d.h.lo, .int .i64 d.h.hi, .int .i64 d.h.wrong, .slice C m cC] 56)) w.heap.size [.slice A n cA, .slice B n cB, .int .i64 d.u, .int .i64 d.h.full, .int .i64 d.h.read, .int .i64 d.h.slip, .int .i64 d.h.skew, .int .i64 d.h.circ, .int .i64 d.h.lo, .int .i64 d.h.hi, .int .i64 d.h.wrong, .slice C m cC] := Own.new' _ _ rfl rfl
  have oB : Below w.heap.size w (w.alloc (.cells #[.slice A n cA, .slice B n cB, .int .i64 d.u, .int .i64 d.h.full, .int .i64 d.h.read, .int .i64 d.h.slip, .int .i64 d.h.skew, .int .i64 d.h.circ, .int .i64 d.h.lo, .int .i64 d.h.hi, .int .i64 d.h.wrong, .slice C m cC] 56)) := by (repeat' (first | (with_reducible exact Below.refl _ _) | (with_reducible assumption) | (with_reducible refine Below.drew ?_) | (with_reducible refine below_drewN ?_ _) | (with_reducible refine Below.setCell ?_ ?_ _) | (with_reducible refine Below.alloc ?_ ?_ _) | (refine Below.trans ?_ (Below.mono (by with_reducible assumption) ?_)) | omega | (exact Below.size (by with_reducible assumption)) | (simp; done) | (simp; omega)))
  have O0 := Lib.hid o0
  obtain ⟨l0, c0, f0⟩ := o0
  clear hA hB hC hn hm hol
  go_enter Try.func101, Try.ntmps101
  go_wp2_with fail
  refine (HP.out _ (HA.out.below oB (Nat.le_refl _))).mono ?_
  rintro e w1 ⟨rfl, hb1⟩
  have o1 := O0.out.below hb1 O0.out.lt
  have hB1 := oB.trans (hb1.mono oB.size)
  clear O0 l0 c0 f0 hb1 oB
  have O0 := Lib.hid o1
  obtain ⟨l0, c0, f0⟩ := o1
  go_wp2_with fail
  refine (HO.out _ (show RdI _ B d.O from HB.out.below hB1 (Nat.le_refl _))).mono ?_
  rintro e w2 ⟨rfl, hb2⟩
  have o1 := O0.out.below hb2 O0.out.lt
  have hB2 := hB1.trans (hb2.mono hB1.size)
  clear O0 l0 c0 f0 hb2 hB1
  have O0 := Lib.hid o1
  obtain ⟨l0, c0, f0⟩ := o1
  go_wp2_with fail
  refine (dwithinT hun _).mono ?_
  rintro e w3 ⟨rfl, rfl⟩
  go_wp2_with fail
  refine (HW.out _ (HC.out.below hB2 (Nat.le_refl _))).mono ?_
  rintro e w4 ⟨rfl, hb4⟩
  go_wp2
  go_ret
  exact ⟨rfl, hB2.trans (hb4.mono hB2.size)⟩
end Go.Proofs.Ytgmhelclofnpkaa
namespace Go.Proofs.Ytgmhelclofnpkaa
open Go.RowKit Go.Maps
namespace Dp
def stZ (d : Ds) (z : Nat × Int) (sk : Int) : Nat × Nat × Int := (z.1, wm d z.2 sk, z.2)
theorem stK_eq (d : Ds) (f : List P2) (sk : Int) : stK d f sk = stZ d (key d f) sk := rfl
/-- The stories told so far. -/
structure ToldS (d : Ds) (F : Nat × Int → Option Value) (G : Nat × Nat × Int → Option Value) (S : Nat × Int → Int → Prop) : Prop where
  sound : ∀ s v, G s = some v → ∃ z sk, F z = some v ∧ guess d z.2 ∧ inSk d sk ∧ s = stZ d z sk
  all : ∀ z sk, S z sk → (F z).isSome = true → guess d z.2 → inSk d sk → (G (stZ d z sk)).isSome = true
theorem ToldS.none (d : Ds) (F : Nat × Int → Option Value) : ToldS d F (fun _ => none) (fun _ _ => False) := ⟨fun s v h => by (cases h), fun z sk h => h.elim⟩
theorem ToldS.weak {d : Ds} {F : Nat × Int → Option Value} {G : Nat × Nat × Int → Option Value} {S S' : Nat × Int → Int → Prop} (h : ToldS d F G S) (k : ∀ z sk, S' z sk → (F z).isSome = true → guess d z.2 → inSk d sk → S z sk) : ToldS d F G S' :=
  ⟨h.sound, fun z sk h1 h2 h3 h4 => h.all z sk (k z sk h1 h2 h3 h4) h2 h3 h4⟩
theorem ToldS.put {d : Ds} {F : Nat × Int → Option Value} {G : Nat × Nat × Int → Option Value} {S : Nat × Int → Int → Prop} (h : ToldS d F G S) {z : Nat × Int} {sk : Int} {v : Value} (hz : F z = some v) (hg : guess d z.2) (hs : inSk d sk) : ToldS d F (updV G (stZ d z sk) v) (fun z' sk' => S z' sk' ∨ (z' = z ∧ sk' = sk)) :=
  ⟨fun s u e => by
    unfold updV at e
    by_cases hq : s = stZ d z sk
    · rw [if_pos hq] at e
      cases e
      exact ⟨z, sk, hz, hg, hs, hq⟩
    · rw [if_neg hq] at e
      exact h.sound s u e, fun z' sk' h1 h2 h3 h4 => by
    unfold updV
    by_cases hq : stZ d z' sk' = stZ d z sk
    · rw [if_pos hq]; rfl
    · rw [if_neg hq]
      rcases h1 with h1 | ⟨rfl, rfl⟩
      · exact h.all z' sk' h1 h2 h3 h4
      · exact absurd rfl hq⟩
theorem wm_succ (d : Ds) (a sk : Int) {k : Nat} {x : Wk} (hx : d.l[k]? = some x) : maskTo (wp d a sk) (k + 1) = if Wl.rightB d.h x (a, sk) = true then maskTo (wp d a sk) k else maskTo (wp d a sk) k ||| 1 <<< k := by
  have e : wp d a sk k = !Wl.rightB d.h x (a, sk) := by unfold wp; rw [hx]
  show (if wp d a sk k = true then _ else _) = _
  rw [e]
  cases Wl.rightB d.h x (a, sk) <;> simp
end Dp
theorem grown_set (W : World) (b j : Nat) (v : Value) : W.grownBy (W.setCell ⟨b, j, none⟩ v) (some b) :=
  have h : Below b W (W.setCell ⟨b, j, none⟩ v) := (Below.refl b W).setCell (by exact Nat.le_refl _) v
  ⟨h.os, h.tape, h.output, h.size, fun k _ hne => Below.heap_setCell _ _ _ _ (by dsimp only; intro e; exact hne (by rw [e]))⟩
theorem grown_fresh {W W' : World} {b : Nat} {row : Option Nat} (h : W.grownBy W' (some b)) (hb : W.heap.size ≤ b) : W.grownBy W' row :=
  ⟨h.os, h.tape, h.output, h.size, fun k hk _ => h.block k hk (by simp; omega)⟩
/-- All but two blocks are as they were. -/
structure Kp2 (b r : Nat) (W W' : World) : Prop where
  os : W'.os = W.os
  tape : W'.tape = W.tape
  output : W'.output = W.output
  size : W.heap.size ≤ W'.heap.size
  block : ∀ k, k < W.heap.size → k ≠ b → k ≠ r → W'.heap[k]? = W.heap[k]?
theorem Kp2.refl (b r : Nat) (W : World) : Kp2 b r W W := ⟨rfl, rfl, rfl, Nat.le_refl _, fun _ _ _ _ => rfl⟩
theorem Kp2.trans {b r : Nat} {W W' W'' : World} (h : Kp2 b r W W') (k : Kp2 b r W' W'') : Kp2 b r W W'' :=
  ⟨k.os.trans h.os, k.tape.trans h.tape, k.output.trans h.output, Nat.le_trans h.size k.size, fun i h1 h2 h3 => (k.block i (Nat.lt_of_lt_of_le h1 h.size) h2 h3).trans (h.block i h1 h2 h3)⟩
theorem Kp2.of {b r : Nat} {row : Option Nat} {W W' : World} (h : W.grownBy W' row) (e : ∀ k, row = some k → k = b ∨ k = r) : Kp2 b r W W' :=
  ⟨h.os, h.tape, h.output, h.size, fun k h1 h2 h3 => h.block k h1 (fun e' => by rcases e k e'.symm with rfl | rfl <;> contradiction)⟩
theorem Kp2.below {b r B : Nat} {w W W' : World} (h : Kp2 b r W W') (k : Below B w W) (hB : B ≤ W.heap.size) (hb : B ≤ b) (hr : B ≤ r) : Below B w W' :=
  k.trans ⟨h.os, h.tape, h.output, h.size, fun i hi => h.block i (by omega) (by omega) (by omega)⟩
theorem Own.kp2 {b r c : Nat} {W W' : World} {vs : List Value} (h : Own W c vs) (k : Kp2 b r W W') (hb : c ≠ b) (hr : c ≠ r) : Own W' c vs :=
  ⟨Nat.lt_of_lt_of_le h.lt k.size, fun i => (World.cell?_of_block (k.block c h.lt hb hr)).trans (h.c i), fun i => (World.frozen?_of_block (k.block c h.lt hb hr)).trans (h.f i)⟩
theorem Rd.kp2 {sz b r : Nat} {W W' : World} {A : Option Addr} {rows : List (List Value)} (h : Rd sz W A rows) (k : Kp2 b r W W') (hne : ∀ c off, A = some ⟨c, off, none⟩ → c ≠ b ∧ c ≠ r) : Rd sz W' A rows :=
  ⟨fun i hi => let ⟨c, off, e, hb, hc⟩ := h.at_ i hi
    ⟨c, off, e, Nat.lt_of_lt_of_le hb k.size, fun j q hj x v hv => (World.cell?_of_block (k.block c hb (hne c off e).1 (hne c off e).2)).trans (hc j q hj x v hv)⟩⟩
/-- A slice with a row does not lie in a map's block. -/
theorem Rd.noMap {P : Program} {kt : TypeId} {K : Type} {T : KeyT P kt K} {sz b n : Nat} {W : World} {c off : Nat} {rows : List (List Value)} {F : K → Option Value} (h : Rd sz W (some ⟨c, off, none⟩) rows) (hr : ∃ v r, rows[0]? = some (v :: r)) (hM : MapV T W b n F) : c ≠ b := by
  obtain ⟨v, r, hr⟩ := hr
  obtain ⟨c', off', e, _, hc⟩ := h.elem hr
  cases e
  have h0 := hc 0 v rfl
  obtain ⟨D, ⟨es, clock, hb, _⟩, _⟩ := hM
  rintro rfl
  simp [World.cell?, hb] at h0
theorem st_wf {d : Ds} {z : Nat × Int} {sk : Int} (h1 : z.1 < 256) (h2 : 0 ≤ z.2 ∧ z.2 ≤ 800000) (hl : d.l.length ≤ 8) : stT.wf (Dp.stZ d z sk) := by
  have h3 := Dp.wm_lt (d := d) hl z.2 sk
  exact ⟨show (Lit.int .u64 ((z.1 : Nat) : Int)).wf = true from WalkArith.wf_u64 (by omega), show (Lit.int .u64 ((Dp.wm d z.2 sk : Nat) : Int)).wf = true from WalkArith.wf_u64 (by omega), show (Lit.int .i64 z.2).wf = true from WalkArith.wf_i64 (by omega)⟩
end Go.Proofs.Ytgmhelclofnpkaa
