/-
  PROVED: contracts of functions and words on memory, several texts put together: what each says stands at its theorems. Conditions: as told there.
-/
import Derived.Test.YthffgbhphjkdeaaMGf
set_option linter.unusedVariables false
set_option linter.unusedSimpArgs false
namespace Go.Proofs.Ythffgbhphjkdeaa
open Go.RowKit
set_option linter.unusedVariables false
set_option linter.unusedSimpArgs false

/-- A tree that is drawn, right or not. -/
structure Drawn (l : List Node) : Prop where
  pos : 1 ≤ l.length
  len : l.length ≤ 14
  parts : ∀ x ∈ l, x.kids.length ≤ 15 ∧ x.rules.length ≤ 8
theorem Drawn.fit {l : List Node} (h : Drawn l) : ∀ x ∈ l, x.fits 1048576 := fun x hx => by
  have := h.parts x hx
  exact ⟨by omega, by omega⟩
theorem Small.drawn {l : List Node} (h : Small l) (h1 : 1 ≤ l.length) : Drawn l := ⟨h1, h.len, fun x hx => by
  have := h.parts x hx
  omega⟩
theorem drawn_set {l : List Node} (h : Small l) (h1 : 1 ≤ l.length) (k : Nat) (x : Node) (hx : x.kids.length ≤ 15 ∧ x.rules.length ≤ 8) : Drawn (l.set k x) :=
  ⟨by rw [List.length_set]; exact h1, by rw [List.length_set]; exact h.len, fun y hy => by
    rcases List.mem_or_eq_of_mem_set hy with hy | rfl
    · have := h.parts y hy; omega
    · exact hx⟩
structure AnyG where
  g1 : Nat
  n : Int
  g2 : Nat
  a : Option Addr
  c : Nat
  deriving Inhabited
set_option maxRecDepth 100000 in
set_option maxHeartbeats 16000000 in
theorem l10Any_d (B gc : Nat) (w : World) (hc : Cur B 141 w gc) :
    Calls Try.prog 67 #[.pointer (some ⟨gc, 0, none⟩)] w (DrewO TreeQ 141 B gc TreeQ.v TreeQ.os (fun q => Drawn (bare q.ps)) w) := by
  refine calls_draw (as_ := [.pointer (some ⟨gc, 0, none⟩)]) hc Try.func67 rfl rfl (fun a h1 h2 h3 => ((Fr.nil h1 h2).arg (h3 0 _ rfl))) ?_
  repeat (first | refine qan ?_ | refine qaj ?_ | refine qaf ?_ | refine qad ?_ | (refine qao ?_; (refine qac (qai rfl) rfl ?_ ?_ ?_); rfl; rfl) | (refine qaR ?_; refine SXl.alloc ?_ ?_ (fun g => ?_); rfl; rfl))
  revert g; intro g2
  refine qat ?_
  refine SXl.drawOJ rfl rfl rfl (fun w hl => l10Tree_d B gc w hl.inv) (fun q hq => ?_)
  repeat (first | refine qan ?_ | refine qaj ?_ | refine qaf ?_ | refine qad ?_ | (refine qau ?_; (refine qac (qaw 0 rfl rfl rfl) rfl ?_ ?_ ?_); rfl; rfl) | (refine qak ?_; (refine qac (qae rfl) rfl ?_ ?_ ?_); rfl; rfl) | (refine qao ?_; (refine qac (qai rfl) rfl ?_ ?_ ?_); rfl; rfl) | (refine l_len ?_; (refine qac (OpW.len rfl) rfl ?_ ?_ ?_); rfl; rfl) | (refine qaR ?_; refine SXl.alloc ?_ ?_ (fun g => ?_); rfl; rfl) | (refine qay ?_; first | ((first | refine qah 0 ?_ rfl rfl rfl rfl rfl rfl ?_ | refine qah 1 ?_ rfl rfl rfl rfl rfl rfl ?_ | refine qah 2 ?_ rfl rfl rfl rfl rfl rfl ?_); rfl; simp only [List.set_cons_zero, List.set_cons_succ]) | ((first | refine qaa 0 ?_ rfl rfl rfl rfl rfl rfl rfl ?_ | refine qaa 1 ?_ rfl rfl rfl rfl rfl rfl rfl ?_ | refine qaa 2 ?_ rfl rfl rfl rfl rfl rfl rfl ?_); rfl; simp only [List.set_cons_zero, List.set_cons_succ]) | ((first | refine qab 0 ?_ rfl rfl rfl rfl rfl rfl rfl ?_ | refine qab 1 ?_ rfl rfl rfl rfl rfl rfl rfl ?_ | refine qab 2 ?_ rfl rfl rfl rfl rfl rfl rfl ?_); rfl; simp only [over, List.set_cons_zero, List.set_cons_succ])))
  revert g; intro g3
  obtain ⟨ps, qa, qc⟩ := q
  obtain ⟨h1, hs⟩ := hq
  simp only at h1 hs
  have hl14 := hs.len
  rw [bare_len] at hl14
  refine SXl.know (fun w hl => tree_addr (l := ps) (a := qa) (c := qc) (Owns.left hl.owns) (by omega)) (fun ⟨gt, hgt⟩ => ?_)
  subst hgt
  refine qat ?_
  refine qaB (ξ := Int) (v := fun x : Int => .int .i64 x) rfl rfl rfl (fun x => 0 ≤ x ∧ x < (ps.length : Int)) (fun w hl => below_d B gc w hl.inv (ps.length : Int) (by omega) (by omega)) (fun kz hkz => ?_)
  obtain ⟨k, rfl⟩ : ∃ k : Nat, kz = (k : Int) := ⟨kz.toNat, by omega⟩
  have hk : k < ps.length := by omega
  obtain ⟨x, hx⟩ : ∃ x, ps[k]? = some x := ⟨_, List.getElem?_eq_getElem hk⟩
  have hxs := hs.parts x.1 (List.mem_of_getElem? (bare_get hx))
  repeat (first | refine qan ?_ | refine qaj ?_ | refine qaf ?_ | refine qad ?_ | (refine qao ?_; (refine qac (qai rfl) rfl ?_ ?_ ?_); rfl; rfl) | (refine qal ?_; (refine qac (qag rfl) rfl ?_ ?_ ?_); rfl; rfl))
  refine qat ?_
  refine qaB (ξ := Int) (v := fun x : Int => .int .i64 x) rfl rfl rfl (fun x => 0 ≤ x ∧ x < 14) (fun w hl => below_d B gc w hl.inv 14 (by decide) (by decide)) (fun y hy => ?_)
  change SXl _ _ _ _ _ [⟨g3, [.slice (some ⟨gt, 0, none⟩) ps.length qc], 37⟩, ⟨g2, [.slice none 0 0], 37⟩] (treeO ps (some ⟨gt, 0, none⟩) qc ++ []) [] _ _ _
  rw [List.append_nil]
  by_cases y0 : y = 0
  · repeat (first | refine qan ?_ | refine qaj ?_ | refine qaf ?_ | refine qad ?_ | refine SX.block ?_ | refine qaq rfl ?_ | (refine qal ?_; (refine qac (qag rfl) rfl ?_ ?_ ?_); rfl; rfl) | (refine l_eql ?_; (refine qac (qaQ rfl rfl (by omega)) rfl ?_ ?_ ?_); rfl; rfl))
    refine SX.drawnG (ζ := Style) 5 (fun _ _ => [⟨g3, [.slice (some ⟨gt, 0, none⟩) ps.length qc], 37⟩, ⟨g2, [.slice none 0 0], 37⟩]) (fun _ _ => treeO ps (some ⟨gt, 0, none⟩) qc) (fun _ _ => []) [(4, fun s v => v = .agg s.cells.toArray)] default (by kernel_rfl) (by kernel_rfl) (by kernel_rfl) ⟨rfl, rfl, rfl⟩ ?_
    repeat (first | (refine SXg.v0 (fun dn x p ha hK => (qaw 0 rfl rfl rfl)) rfl (fun _ => rfl) rfl (fun _ _ => ⟨rfl, rfl, rfl⟩) rfl ?_) | (refine SXg.v0 (fun dn x p ha hK => (qae rfl)) rfl (fun _ => rfl) rfl (fun _ _ => ⟨rfl, rfl, rfl⟩) rfl ?_) | (refine SXg.v0 (fun dn x p ha hK => (qai rfl)) rfl (fun _ => rfl) rfl (fun _ _ => ⟨rfl, rfl, rfl⟩) rfl ?_))
    refine SXg.l rfl (fun _ => rfl) rfl (fun dn x p ha hk => ?_) ?_
    · refine qaB (ξ := Style) (v := fun s => .agg s.cells.toArray) rfl rfl rfl (fun s => AllOk s.cells) (fun w hl => l06Any_d B gc w hl.inv) (fun s hs => ?_)
      exact qaj (SQ.g s _ rfl (fun w hl => hl) ⟨fun _ => rfl, trivial⟩)
    refine SXg.tail (fun xq s hkq => ?_)
    have x4 : xq 4 = .agg s.cells.toArray := hkq.1 rfl
    simp only [x4]
    repeat (first | (refine qaM ?_; (refine qac ((qaJ (i := k) hk rfl rfl)) rfl ?_ ?_ ?_); rfl; rfl) | (refine qak ?_; (refine qac (qae rfl) rfl ?_ ?_ ?_); rfl; rfl))
    refine qay ?_
    refine SXl.treeRow0 (c := qc) (m := 60) ({ x.1 with style := s }, x.2) hx rfl rfl rfl rfl rfl (by decide) (by decide) (by kernel_rfl) rfl rfl ?_
    repeat (first | refine qan ?_ | refine qaj ?_ | refine qaf ?_ | refine qad ?_ | (refine qau ?_; (refine qac (qam 0 rfl rfl rfl) rfl ?_ ?_ ?_); rfl; rfl) | (refine qay ?_; first | ((first | refine qah 0 ?_ rfl rfl rfl rfl rfl rfl ?_ | refine qah 1 ?_ rfl rfl rfl rfl rfl rfl ?_ | refine qah 2 ?_ rfl rfl rfl rfl rfl rfl ?_); rfl; simp only [List.set_cons_zero, List.set_cons_succ]) | ((first | refine qaa 0 ?_ rfl rfl rfl rfl rfl rfl rfl ?_ | refine qaa 1 ?_ rfl rfl rfl rfl rfl rfl rfl ?_ | refine qaa 2 ?_ rfl rfl rfl rfl rfl rfl rfl ?_); rfl; simp only [List.set_cons_zero, List.set_cons_succ]) | ((first | refine qab 0 ?_ rfl rfl rfl rfl rfl rfl rfl ?_ | refine qab 1 ?_ rfl rfl rfl rfl rfl rfl rfl ?_ | refine qab 2 ?_ rfl rfl rfl rfl rfl rfl rfl ?_); rfl; simp only [over, List.set_cons_zero, List.set_cons_succ])) | refine qaA ?_ | refine qar ?_)
    refine qaK 1 rfl rfl rfl rfl (fun w' hl => ⟨⟨ps.set k ({ x.1 with style := s }, x.2), some ⟨gt, 0, none⟩, qc⟩, by simp [TreeQ.v], ?_, hl.owns, hl.mod, hl.inv⟩)
    show Drawn (bare _)
    rw [bare_set]
    exact drawn_set hs (by rw [bare_len]; exact h1) _ _ ⟨by show x.1.kids.length ≤ 15; omega, hxs.2⟩
  by_cases y1 : y = 1
  · repeat (first | refine qan ?_ | refine qaj ?_ | refine qaf ?_ | refine qad ?_ | refine SX.block ?_ | refine qaq rfl ?_ | refine qas rfl ?_ | (refine qal ?_; (refine qac (qag rfl) rfl ?_ ?_ ?_); rfl; rfl) | (refine l_eql ?_; (first | refine qac (qaQ rfl rfl (by omega)) rfl ?_ ?_ ?_ | refine qac (qaP rfl rfl (by omega)) rfl ?_ ?_ ?_); rfl; rfl))
    refine SX.drawnG (ζ := AnyG) 6 (fun d p => [⟨g3, [.slice (some ⟨gt, 0, none⟩) ps.length qc], 37⟩, ⟨g2, [.slice none 0 0], 37⟩] ++ (bif d 4 then [⟨p.g1, ([0, 1, 2, 3, -1, 13] : List Int).map (.int .i64), 3⟩] else [])) (fun _ _ => treeO ps (some ⟨gt, 0, none⟩) qc) (fun _ _ => []) [(4, fun p v => v = .slice (some ⟨p.g1, 0, none⟩) 6 6), (5, fun p v => v = .int .i64 p.n)] default (by kernel_rfl) (by kernel_rfl) (by kernel_rfl) ⟨rfl, rfl, rfl⟩ ?_
    repeat (first | (refine SXg.v0 (fun dn x p ha hK => (qaw 0 rfl rfl rfl)) rfl (fun _ => rfl) rfl (fun _ _ => ⟨rfl, rfl, rfl⟩) rfl ?_) | (refine SXg.v0 (fun dn x p ha hK => (qae rfl)) rfl (fun _ => rfl) rfl (fun _ _ => ⟨rfl, rfl, rfl⟩) rfl ?_) | (refine SXg.v0 (fun dn x p ha hK => (qai rfl)) rfl (fun _ => rfl) rfl (fun _ _ => ⟨rfl, rfl, rfl⟩) rfl ?_))
    refine SXg.l rfl (fun _ => rfl) rfl (fun dn x p ha hk => ?_) ?_
    · have d5 : dn 5 = false := ha.later 5 (by kernel_rfl)
      have u5 : upd dn 4 5 = false := d5
      have d4 : dn 4 = false := ha.not
      have u4 : upd dn 4 4 = true := rfl
      simp only [d5, d4, cond_true, cond_false, List.append_nil, List.nil_append]
      refine SXl.lit (cells := ([0, 1, 2, 3, -1, 13] : List Int).map (.int .i64)) (z := .int .i64 0) rfl rfl rfl (by decide) (by kernel_rfl) rfl (fun g => ?_)
      refine qaj (SQ.g { p with g1 := g } _ rfl (fun w hl => ?_) ⟨fun _ => rfl, hk.2.1, trivial⟩)
      simp only [u5, u4, cond_true, cond_false, List.append_nil, List.nil_append]
      exact hl.blkLast
    refine SXg.l rfl (fun _ => rfl) rfl (fun dn x p ha hk => ?_) ?_
    · have d4 : dn 4 = true := ha.done 4 (by kernel_rfl)
      have u4 : upd dn 5 4 = true := d4
      have d5 : dn 5 = false := ha.not
      have u5 : upd dn 5 5 = true := rfl
      simp only [d4, d5, cond_true, cond_false, List.append_nil, List.nil_append]
      have x4 : x 4 = .slice (some ⟨p.g1, 0, none⟩) 6 6 := hk.1 d4
      simp only [x4]
      refine qaB (ξ := Int) (v := fun x => .int .i64 x) rfl rfl rfl (fun x => x ∈ ([0, 1, 2, 3, -1, 13] : List Int)) (fun w hl => pick_g (l := [0, 1, 2, 3, -1, 13]) hl (by simp) (by decide) (by decide)) (fun z hz => ?_)
      refine qaj (SQ.g { p with n := z } _ rfl (fun w hl => ?_) ⟨hk.1, fun _ => rfl, trivial⟩)
      simp only [u4, u5, cond_true, cond_false, List.append_nil, List.nil_append]
      exact hl
    refine SXg.tail (fun xq p hkq => ?_)
    have x5 : xq 5 = .int .i64 p.n := hkq.2.1 rfl
    simp only [x5]
    repeat (first | (refine qaM ?_; (refine qac ((qaJ (i := k) hk rfl rfl)) rfl ?_ ?_ ?_); rfl; rfl) | (refine qak ?_; (refine qac (qae rfl) rfl ?_ ?_ ?_); rfl; rfl))
    refine qay ?_
    refine SXl.treeCell0 (c := qc) ({ x.1 with up := p.n }, x.2) hx rfl rfl rfl rfl (by decide) rfl rfl rfl ?_
    repeat (first | refine qan ?_ | refine qaj ?_ | refine qaf ?_ | refine qad ?_ | (refine qau ?_; (refine qac (qam 0 rfl rfl rfl) rfl ?_ ?_ ?_); rfl; rfl) | (refine qay ?_; first | ((first | refine qah 0 ?_ rfl rfl rfl rfl rfl rfl ?_ | refine qah 1 ?_ rfl rfl rfl rfl rfl rfl ?_ | refine qah 2 ?_ rfl rfl rfl rfl rfl rfl ?_); rfl; simp only [List.set_cons_zero, List.set_cons_succ]) | ((first | refine qaa 0 ?_ rfl rfl rfl rfl rfl rfl rfl ?_ | refine qaa 1 ?_ rfl rfl rfl rfl rfl rfl rfl ?_ | refine qaa 2 ?_ rfl rfl rfl rfl rfl rfl rfl ?_); rfl; simp only [List.set_cons_zero, List.set_cons_succ]) | ((first | refine qab 0 ?_ rfl rfl rfl rfl rfl rfl rfl ?_ | refine qab 1 ?_ rfl rfl rfl rfl rfl rfl rfl ?_ | refine qab 2 ?_ rfl rfl rfl rfl rfl rfl rfl ?_); rfl; simp only [over, List.set_cons_zero, List.set_cons_succ])) | refine qaA ?_ | refine qar ?_)
    refine qaK 1 rfl rfl rfl rfl (fun w' hl => ⟨⟨ps.set k ({ x.1 with up := p.n }, x.2), some ⟨gt, 0, none⟩, qc⟩, by simp [TreeQ.v], ?_, hl.owns, hl.mod, hl.inv⟩)
    show Drawn (bare _)
    rw [bare_set]
    exact drawn_set hs (by rw [bare_len]; exact h1) _ _ ⟨by show x.1.kids.length ≤ 15; omega, hxs.2⟩
  by_cases y2 : y = 2
  · repeat (first | refine qan ?_ | refine qaj ?_ | refine qaf ?_ | refine qad ?_ | refine SX.block ?_ | refine qaq rfl ?_ | refine qas rfl ?_ | (refine qal ?_; (refine qac (qag rfl) rfl ?_ ?_ ?_); rfl; rfl) | (refine l_eql ?_; (first | refine qac (qaQ rfl rfl (by omega)) rfl ?_ ?_ ?_ | refine qac (qaP rfl rfl (by omega)) rfl ?_ ?_ ?_); rfl; rfl))
    refine SX.drawnG (ζ := AnyG) 14 (fun d p => [⟨g3, [.slice (some ⟨gt, 0, none⟩) ps.length qc], 37⟩, ⟨g2, [.slice none 0 0], 37⟩] ++ (bif d 10 then [⟨p.g1, ([0, 1, 2, -1, 13] : List Int).map (.int .i64), 3⟩] else []) ++ (bif d 12 then [⟨p.g2, [.int .i64 p.n], 3⟩] else [])) (fun d p => bif d 13 then (treeO ps (some ⟨gt, 0, none⟩) qc).set (2 * k + 1) (kidsO ({ x.1 with kids := x.1.kids ++ [p.n] }, { x.2 with ka := p.a, kc := p.c })) else treeO ps (some ⟨gt, 0, none⟩) qc) (fun _ _ => []) [(10, fun p v => v = .slice (some ⟨p.g1, 0, none⟩) 5 5), (11, fun p v => v = .int .i64 p.n), (12, fun p v => v = .slice (some ⟨p.g2, 0, none⟩) 1 1), (13, fun p v => v = .slice p.a (x.1.kids.length + 1) p.c)] default (by kernel_rfl) (by kernel_rfl) (by kernel_rfl) ⟨rfl, rfl, rfl⟩ ?_
    repeat (first | (refine SXg.v0 (fun dn x p ha hK => ((qaJ (i := k) hk rfl rfl))) rfl (fun _ => rfl) rfl (fun _ _ => ⟨rfl, rfl, rfl⟩) rfl ?_) | (refine SXg.v0 (fun dn x p ha hK => (qaw 0 rfl rfl rfl)) rfl (fun _ => rfl) rfl (fun _ _ => ⟨rfl, rfl, rfl⟩) rfl ?_) | (refine SXg.v0 (fun dn x p ha hK => (qae rfl)) rfl (fun _ => rfl) rfl (fun _ _ => ⟨rfl, rfl, rfl⟩) rfl ?_) | (refine SXg.v0 (fun dn x p ha hK => (qai rfl)) rfl (fun _ => rfl) rfl (fun _ _ => ⟨rfl, rfl, rfl⟩) rfl ?_))
    refine SXg.v0 (v := .slice x.2.ka x.1.kids.length x.2.kc) (fun dn x' p ha hk => ?_) rfl (fun _ => rfl) rfl (fun _ _ => ⟨rfl, rfl, rfl⟩) rfl ?_
    · have d13 : dn 13 = false := ha.later 13 (by kernel_rfl)
      simp only [d13, cond_false]
      exact OpW.loadLoc rfl (fun w hl => by have := nodes_cell hl.owns hx (nodeRow_1 _ _ _ _ _ _ _ _ _); exact this)
    repeat ((refine SXg.v0 (fun dn x p ha hK => (qai rfl)) rfl (fun _ => rfl) rfl (fun _ _ => ⟨rfl, rfl, rfl⟩) rfl ?_))
    refine SXg.l rfl (fun _ => rfl) rfl (fun dn x' p ha hk => ?_) ?_
    · have d11 : dn 11 = false := ha.later 11 (by kernel_rfl)
      have u11 : upd dn 10 11 = false := d11
      have d12 : dn 12 = false := ha.later 12 (by kernel_rfl)
      have u12 : upd dn 10 12 = false := d12
      have d13 : dn 13 = false := ha.later 13 (by kernel_rfl)
      have u13 : upd dn 10 13 = false := d13
      have d10 : dn 10 = false := ha.not
      have u10 : upd dn 10 10 = true := rfl
      simp only [d11, d12, d13, d10, cond_true, cond_false, List.append_nil, List.nil_append]
      refine SXl.lit (cells := ([0, 1, 2, -1, 13] : List Int).map (.int .i64)) (z := .int .i64 0) rfl rfl rfl (by decide) (by kernel_rfl) rfl (fun g => ?_)
      refine qaj (SQ.g { p with g1 := g } _ rfl (fun w hl => ?_) ⟨fun _ => rfl, hk.2.1, hk.2.2.1, hk.2.2.2.1, trivial⟩)
      simp only [u11, u12, u13, u10, cond_true, cond_false, List.append_nil, List.nil_append]
      exact hl.blkLast
    refine SXg.l rfl (fun _ => rfl) rfl (fun dn x' p ha hk => ?_) ?_
    · have d10 : dn 10 = true := ha.done 10 (by kernel_rfl)
      have u10 : upd dn 11 10 = true := d10
      have d12 : dn 12 = false := ha.later 12 (by kernel_rfl)
      have u12 : upd dn 11 12 = false := d12
      have d13 : dn 13 = false := ha.later 13 (by kernel_rfl)
      have u13 : upd dn 11 13 = false := d13
      have d11 : dn 11 = false := ha.not
      have u11 : upd dn 11 11 = true := rfl
      simp only [d10, d12, d13, d11, cond_true, cond_false, List.append_nil, List.nil_append]
      have x10 : x' 10 = .slice (some ⟨p.g1, 0, none⟩) 5 5 := hk.1 d10
      simp only [x10]
      refine qaB (ξ := Int) (v := fun x => .int .i64 x) rfl rfl rfl (fun x => x ∈ ([0, 1, 2, -1, 13] : List Int)) (fun w hl => pick_g (l := [0, 1, 2, -1, 13]) hl (by simp) (by decide) (by decide)) (fun z hz => ?_)
      refine qaj (SQ.g { p with n := z } _ rfl (fun w hl => ?_) ⟨hk.1, fun _ => rfl, hk.2.2.1, hk.2.2.2.1, trivial⟩)
      simp only [u10, u12, u13, u11, cond_true, cond_false, List.append_nil, List.nil_append]
      exact hl
    refine SXg.l rfl (fun _ => rfl) rfl (fun dn x' p ha hk => ?_) ?_
    · have d10 : dn 10 = true := ha.done 10 (by kernel_rfl)
      have u10 : upd dn 12 10 = true := d10
      have d11 : dn 11 = true := ha.done 11 (by kernel_rfl)
      have u11 : upd dn 12 11 = true := d11
      have d13 : dn 13 = false := ha.later 13 (by kernel_rfl)
      have u13 : upd dn 12 13 = false := d13
      have d12 : dn 12 = false := ha.not
      have u12 : upd dn 12 12 = true := rfl
      simp only [d10, d11, d13, d12, cond_true, cond_false, List.append_nil, List.nil_append]
      have x11 : x' 11 = .int .i64 p.n := hk.2.1 d11
      simp only [x11]
      refine SXl.lit1 rfl rfl rfl rfl rfl (fun g => ?_)
      refine qaj (SQ.g { p with g2 := g } _ rfl (fun w hl => ?_) ⟨hk.1, hk.2.1, fun _ => rfl, hk.2.2.2.1, trivial⟩)
      simp only [u10, u11, u13, u12, cond_true, cond_false, List.append_nil, List.nil_append]
      exact hl.blkLast
    refine SXg.l rfl (fun _ => rfl) rfl (fun dn x' p ha hk => ?_) ?_
    · have d10 : dn 10 = true := ha.done 10 (by kernel_rfl)
      have u10 : upd dn 13 10 = true := d10
      have d11 : dn 11 = true := ha.done 11 (by kernel_rfl)
      have u11 : upd dn 13 11 = true := d11
      have d12 : dn 12 = true := ha.done 12 (by kernel_rfl)
      have u12 : upd dn 13 12 = true := d12
      have d13 : dn 13 = false := ha.not
      have u13 : upd dn 13 13 = true := rfl
      simp only [d10, d11, d12, d13, cond_true, cond_false, List.append_nil, List.nil_append]
      have x12 : x' 12 = .slice (some ⟨p.g2, 0, none⟩) 1 1 := hk.2.2.1 d12
      simp only [x12]
      refine SXl.append (2 * k + 1) 3 rfl rfl rfl (by rw [treeO, List.getElem?_cons_succ]; exact partsO_kid hx) rfl rfl rfl rfl (by omega) (by omega) (fun a' c' => ?_)
      refine qaj (SQ.g { p with a := a', c := c' } _ rfl (fun w hl => ?_) ⟨hk.1, hk.2.1, hk.2.2.1, fun _ => rfl, trivial⟩)
      simp only [u10, u11, u12, u13, cond_true, cond_false, List.append_nil, List.nil_append]
      have e : (⟨.slice a' (x.1.kids.length + 1) c', 3, 1, x.1.kids.length + 1, (x.1.kids.map icell).flatten ++ [.int .i64 p.n]⟩ : Own) = kidsO ({ x.1 with kids := x.1.kids ++ [p.n] }, { x.2 with ka := a', kc := c' }) := by
        unfold kidsO
        rw [List.length_append, List.map_append, List.flatten_append]
        rfl
      rw [← e]
      exact hl
    refine SXg.tail (fun xq p hkq => ?_)
    have x13 : xq 13 = .slice p.a (x.1.kids.length + 1) p.c := hkq.2.2.2.1 rfl
    simp only [x13]
    repeat (first | (refine qaM ?_; (refine qac ((qaJ (i := k) hk rfl rfl)) rfl ?_ ?_ ?_); rfl; rfl) | (refine qak ?_; (refine qac (qae rfl) rfl ?_ ?_ ?_); rfl; rfl))
    refine qay ?_
    refine SXl.storeOwn (O' := treeO (ps.set k ({ x.1 with kids := x.1.kids ++ [p.n] }, { x.2 with ka := p.a, kc := p.c })) (some ⟨gt, 0, none⟩) qc) 0 rfl rfl rfl rfl (by rw [Nat.zero_add]; exact row_low hx (by decide)) rfl ?_ ?_
    · have e2 := partsO_setKid (y := (({ x.1 with kids := x.1.kids ++ [p.n] } : Node), ({ x.2 with ka := p.a, kc := p.c } : NodeP))) hx rfl
      unfold treeO
      rw [nodes_set (j := 1) (v := .slice p.a (x.1.kids.length + 1) p.c) hx (by decide) (by unfold rowP; rw [List.length_append]; rfl), e2, show 0 + k * 64 + 1 = k * 64 + 1 by omega]
      rfl
    repeat (first | refine qan ?_ | refine qaj ?_ | refine qaf ?_ | refine qad ?_ | (refine qau ?_; (refine qac (qam 0 rfl rfl rfl) rfl ?_ ?_ ?_); rfl; rfl) | (refine qay ?_; first | ((first | refine qah 0 ?_ rfl rfl rfl rfl rfl rfl ?_ | refine qah 1 ?_ rfl rfl rfl rfl rfl rfl ?_ | refine qah 2 ?_ rfl rfl rfl rfl rfl rfl ?_); rfl; simp only [List.set_cons_zero, List.set_cons_succ]) | ((first | refine qaa 0 ?_ rfl rfl rfl rfl rfl rfl rfl ?_ | refine qaa 1 ?_ rfl rfl rfl rfl rfl rfl rfl ?_ | refine qaa 2 ?_ rfl rfl rfl rfl rfl rfl rfl ?_); rfl; simp only [List.set_cons_zero, List.set_cons_succ]) | ((first | refine qab 0 ?_ rfl rfl rfl rfl rfl rfl rfl ?_ | refine qab 1 ?_ rfl rfl rfl rfl rfl rfl rfl ?_ | refine qab 2 ?_ rfl rfl rfl rfl rfl rfl rfl ?_); rfl; simp only [over, List.set_cons_zero, List.set_cons_succ])) | refine qaA ?_ | refine qar ?_)
    refine qaK 1 rfl rfl rfl rfl (fun w' hl => ⟨⟨ps.set k ({ x.1 with kids := x.1.kids ++ [p.n] }, { x.2 with ka := p.a, kc := p.c }), some ⟨gt, 0, none⟩, qc⟩, by simp [TreeQ.v], ?_, hl.owns, hl.mod, hl.inv⟩)
    show Drawn (bare _)
    rw [bare_set]
    exact drawn_set hs (by rw [bare_len]; exact h1) _ _ ⟨by show (x.1.kids ++ [p.n]).length ≤ 15; rw [List.length_append]; simp; omega, hxs.2⟩
  by_cases y3 : y = 3
  · repeat (first | refine qan ?_ | refine qaj ?_ | refine qaf ?_ | refine qad ?_ | refine SX.block ?_ | refine qaq rfl ?_ | refine qas rfl ?_ | (refine qal ?_; (refine qac (qag rfl) rfl ?_ ?_ ?_); rfl; rfl) | (refine l_eql ?_; (first | refine qac (qaQ rfl rfl (by omega)) rfl ?_ ?_ ?_ | refine qac (qaP rfl rfl (by omega)) rfl ?_ ?_ ?_); rfl; rfl))
    refine SX.drawnG (ζ := Unit) 10 (fun _ _ => [⟨g3, [.slice (some ⟨gt, 0, none⟩) ps.length qc], 37⟩, ⟨g2, [.slice none 0 0], 37⟩]) (fun _ _ => treeO ps (some ⟨gt, 0, none⟩) qc) (fun _ _ => []) [] () (by kernel_rfl) (by kernel_rfl) (by kernel_rfl) ⟨rfl, rfl, rfl⟩ ?_
    repeat (first | (refine SXg.v0 (fun dn x p ha hK => ((qaJ (i := k) hk rfl rfl))) rfl (fun _ => rfl) rfl (fun _ _ => ⟨rfl, rfl, rfl⟩) rfl ?_) | (refine SXg.v0 (fun dn x p ha hK => (qaw 0 rfl rfl rfl)) rfl (fun _ => rfl) rfl (fun _ _ => ⟨rfl, rfl, rfl⟩) rfl ?_) | (refine SXg.v0 (fun dn x p ha hK => (qae rfl)) rfl (fun _ => rfl) rfl (fun _ _ => ⟨rfl, rfl, rfl⟩) rfl ?_) | (refine SXg.v0 (fun dn x p ha hK => (qai rfl)) rfl (fun _ => rfl) rfl (fun _ _ => ⟨rfl, rfl, rfl⟩) rfl ?_))
    refine SXg.v0 (v := .bool x.1.measured) (fun dn x' p ha hk => ?_) rfl (fun _ => rfl) rfl (fun _ _ => ⟨rfl, rfl, rfl⟩) rfl ?_
    · exact OpW.loadLoc rfl (fun w hl => by have := nodes_cell hl.owns hx (nodeRow_62 _ _ _ _ _ _ _ _ _); exact this)
    repeat ((refine SXg.v0 (fun dn x p ha hK => (OpW.not rfl)) rfl (fun _ => rfl) rfl (fun _ _ => ⟨rfl, rfl, rfl⟩) rfl ?_))
    refine SXg.tail (fun xq p hkq => ?_)
    repeat (first | (refine qaM ?_; (refine qac ((qaJ (i := k) hk rfl rfl)) rfl ?_ ?_ ?_); rfl; rfl) | (refine qak ?_; (refine qac (qae rfl) rfl ?_ ?_ ?_); rfl; rfl))
    refine qay ?_
    refine SXl.treeCell0 (c := qc) ({ x.1 with measured := !x.1.measured }, x.2) hx rfl rfl rfl rfl (by decide) rfl rfl rfl ?_
    repeat (first | refine qan ?_ | refine qaj ?_ | refine qaf ?_ | refine qad ?_ | (refine qau ?_; (refine qac (qam 0 rfl rfl rfl) rfl ?_ ?_ ?_); rfl; rfl) | (refine qay ?_; first | ((first | refine qah 0 ?_ rfl rfl rfl rfl rfl rfl ?_ | refine qah 1 ?_ rfl rfl rfl rfl rfl rfl ?_ | refine qah 2 ?_ rfl rfl rfl rfl rfl rfl ?_); rfl; simp only [List.set_cons_zero, List.set_cons_succ]) | ((first | refine qaa 0 ?_ rfl rfl rfl rfl rfl rfl rfl ?_ | refine qaa 1 ?_ rfl rfl rfl rfl rfl rfl rfl ?_ | refine qaa 2 ?_ rfl rfl rfl rfl rfl rfl rfl ?_); rfl; simp only [List.set_cons_zero, List.set_cons_succ]) | ((first | refine qab 0 ?_ rfl rfl rfl rfl rfl rfl rfl ?_ | refine qab 1 ?_ rfl rfl rfl rfl rfl rfl rfl ?_ | refine qab 2 ?_ rfl rfl rfl rfl rfl rfl rfl ?_); rfl; simp only [over, List.set_cons_zero, List.set_cons_succ])) | refine qaA ?_ | refine qar ?_)
    refine qaK 1 rfl rfl rfl rfl (fun w' hl => ⟨⟨ps.set k ({ x.1 with measured := !x.1.measured }, x.2), some ⟨gt, 0, none⟩, qc⟩, by simp [TreeQ.v], ?_, hl.owns, hl.mod, hl.inv⟩)
    show Drawn (bare _)
    rw [bare_set]
    exact drawn_set hs (by rw [bare_len]; exact h1) _ _ ⟨by show x.1.kids.length ≤ 15; omega, hxs.2⟩
  by_cases y4 : y = 4
  · repeat (first | refine qan ?_ | refine qaj ?_ | refine qaf ?_ | refine qad ?_ | refine SX.block ?_ | refine qaq rfl ?_ | refine qas rfl ?_ | (refine qal ?_; (refine qac (qag rfl) rfl ?_ ?_ ?_); rfl; rfl) | (refine l_eql ?_; (first | refine qac (qaQ rfl rfl (by omega)) rfl ?_ ?_ ?_ | refine qac (qaP rfl rfl (by omega)) rfl ?_ ?_ ?_); rfl; rfl))
    refine SX.drawnG (ζ := RuleQ) 5 (fun _ _ => [⟨g3, [.slice (some ⟨gt, 0, none⟩) ps.length qc], 37⟩, ⟨g2, [.slice none 0 0], 37⟩]) (fun d p => (bif d 4 then [p.o] else []) ++ treeO ps (some ⟨gt, 0, none⟩) qc) (fun _ _ => []) [(4, fun p v => v = p.v ∧ p.l.length ≤ 7)] ⟨[], none, 0⟩ (by kernel_rfl) (by kernel_rfl) (by kernel_rfl) ⟨rfl, rfl, rfl⟩ ?_
    repeat (first | (refine SXg.v0 (fun dn x p ha hK => (qaw 0 rfl rfl rfl)) rfl (fun _ => rfl) rfl (fun _ _ => ⟨rfl, rfl, rfl⟩) rfl ?_) | (refine SXg.v0 (fun dn x p ha hK => (qae rfl)) rfl (fun _ => rfl) rfl (fun _ _ => ⟨rfl, rfl, rfl⟩) rfl ?_) | (refine SXg.v0 (fun dn x p ha hK => (qai rfl)) rfl (fun _ => rfl) rfl (fun _ _ => ⟨rfl, rfl, rfl⟩) rfl ?_))
    refine SXg.l rfl (fun _ => rfl) rfl (fun dn x' p ha hk => ?_) ?_
    · have d4 : dn 4 = false := ha.not
      have u4 : upd dn 4 4 = true := rfl
      simp only [d4, cond_true, cond_false, List.append_nil, List.nil_append]
      refine SXl.drawOJ rfl rfl rfl (fun w hl => l09Any_o B gc w hl.inv) (fun r hr => ?_)
      refine qaj (SQ.g r _ rfl (fun w hl => ?_) ⟨fun _ => ⟨rfl, hr⟩, trivial⟩)
      simp only [u4, cond_true, cond_false, List.append_nil, List.nil_append]
      exact hl
    refine SXg.tail (fun xq p hkq => ?_)
    obtain ⟨x4, hr4⟩ : xq 4 = p.v ∧ p.l.length ≤ 7 := hkq.1 rfl
    simp only [x4]
    repeat (first | (refine qaM ?_; (refine qac ((qaJ (i := k) hk rfl rfl)) rfl ?_ ?_ ?_); rfl; rfl) | (refine qak ?_; (refine qac (qae rfl) rfl ?_ ?_ ?_); rfl; rfl))
    refine qay ?_
    refine SXl.treeRules0 (c := qc) (v := .slice p.a p.l.length p.c) ({ x.1 with rules := p.l }, { x.2 with ra := p.a, rc := p.c }) hx rfl rfl rfl rfl rfl rfl rfl ?_
    repeat (first | refine qan ?_ | refine qaj ?_ | refine qaf ?_ | refine qad ?_ | (refine qau ?_; (refine qac (qam 0 rfl rfl rfl) rfl ?_ ?_ ?_); rfl; rfl) | (refine qay ?_; first | ((first | refine qah 0 ?_ rfl rfl rfl rfl rfl rfl ?_ | refine qah 1 ?_ rfl rfl rfl rfl rfl rfl ?_ | refine qah 2 ?_ rfl rfl rfl rfl rfl rfl ?_); rfl; simp only [List.set_cons_zero, List.set_cons_succ]) | ((first | refine qaa 0 ?_ rfl rfl rfl rfl rfl rfl rfl ?_ | refine qaa 1 ?_ rfl rfl rfl rfl rfl rfl rfl ?_ | refine qaa 2 ?_ rfl rfl rfl rfl rfl rfl rfl ?_); rfl; simp only [List.set_cons_zero, List.set_cons_succ]) | ((first | refine qab 0 ?_ rfl rfl rfl rfl rfl rfl rfl ?_ | refine qab 1 ?_ rfl rfl rfl rfl rfl rfl rfl ?_ | refine qab 2 ?_ rfl rfl rfl rfl rfl rfl rfl ?_); rfl; simp only [over, List.set_cons_zero, List.set_cons_succ])) | refine qaA ?_ | refine qar ?_)
    refine qaK 1 rfl rfl rfl rfl (fun w' hl => ⟨⟨ps.set k ({ x.1 with rules := p.l }, { x.2 with ra := p.a, rc := p.c }), some ⟨gt, 0, none⟩, qc⟩, by simp [TreeQ.v], ?_, hl.owns, hl.mod, hl.inv⟩)
    show Drawn (bare _)
    rw [bare_set]
    exact drawn_set hs (by rw [bare_len]; exact h1) _ _ ⟨by show x.1.kids.length ≤ 15; omega, by show p.l.length ≤ 8; omega⟩
  by_cases y5 : y = 5
  rotate_left
  · repeat (first | refine qan ?_ | refine qaj ?_ | refine qaf ?_ | refine qad ?_ | refine SX.block ?_ | refine qaC ?_ | refine qas rfl ?_ | (refine qau ?_; (refine qac (qam 0 rfl rfl rfl) rfl ?_ ?_ ?_); rfl; rfl) | (refine qal ?_; (refine qac (qag rfl) rfl ?_ ?_ ?_); rfl; rfl) | (refine l_eql ?_; (refine qac (qaP rfl rfl (by omega)) rfl ?_ ?_ ?_); rfl; rfl) | (refine qay ?_; first | ((first | refine qah 0 ?_ rfl rfl rfl rfl rfl rfl ?_ | refine qah 1 ?_ rfl rfl rfl rfl rfl rfl ?_ | refine qah 2 ?_ rfl rfl rfl rfl rfl rfl ?_); rfl; simp only [List.set_cons_zero, List.set_cons_succ]) | ((first | refine qaa 0 ?_ rfl rfl rfl rfl rfl rfl rfl ?_ | refine qaa 1 ?_ rfl rfl rfl rfl rfl rfl rfl ?_ | refine qaa 2 ?_ rfl rfl rfl rfl rfl rfl rfl ?_); rfl; simp only [List.set_cons_zero, List.set_cons_succ]) | ((first | refine qab 0 ?_ rfl rfl rfl rfl rfl rfl rfl ?_ | refine qab 1 ?_ rfl rfl rfl rfl rfl rfl rfl ?_ | refine qab 2 ?_ rfl rfl rfl rfl rfl rfl rfl ?_); rfl; simp only [over, List.set_cons_zero, List.set_cons_succ])) | refine qaA ?_ | refine qar ?_)
    refine qaK 1 rfl rfl rfl rfl (fun w' hl => ⟨⟨ps, some ⟨gt, 0, none⟩, qc⟩, rfl, hs.drawn (by rw [bare_len]; exact h1), hl.owns, hl.mod, hl.inv⟩)
  repeat (first | refine qan ?_ | refine qaj ?_ | refine qaf ?_ | refine qad ?_ | refine SX.block ?_ | refine qaq rfl ?_ | refine qas rfl ?_ | (refine qal ?_; (refine qac (qag rfl) rfl ?_ ?_ ?_); rfl; rfl) | (refine l_eql ?_; (first | refine qac (qaQ rfl rfl (by omega)) rfl ?_ ?_ ?_ | refine qac (qaP rfl rfl (by omega)) rfl ?_ ?_ ?_); rfl; rfl))
  refine SX.loop3 (fun (q : TreeQ) (_ _ : Unit) => Drawn (bare q.ps) ∧ 1 ≤ q.ps.length ∧ q.ps.length ≤ 14) (fun q _ _ => 14 - q.ps.length) (fun q _ _ => [⟨g3, [.slice q.a q.ps.length q.c], 37⟩, ⟨g2, [.slice none 0 0], 37⟩]) (fun q _ _ => q.os) (fun _ _ _ => []) (fun _ _ _ => [(0, .pointer (some ⟨gc, 0, none⟩)), (2, .pointer (some ⟨g2, 0, none⟩)), (3, .pointer (some ⟨g3, 0, none⟩))]) ⟨ps, some ⟨gt, 0, none⟩, qc⟩ () () ⟨hs.drawn (by rw [bare_len]; exact h1), h1, hl14⟩ ?_ (fun w hl => hl) ?_
  · (repeat (first | exact subF_nil _ | (refine subF_cons rfl ?_) | (refine subF_consv rfl (by rfl) ?_)))
  clear hx hxs hk hkz hs h1 hl14
  rintro q _ _ ⟨hd, h1, h14⟩
  repeat (refine qan ?_)
  refine SX.drawnG (ζ := Int) 7 (fun _ _ => [⟨g3, [.slice q.a q.ps.length q.c], 37⟩, ⟨g2, [.slice none 0 0], 37⟩]) (fun _ _ => q.os) (fun _ _ => []) [(4, fun n v => v = .int .i64 n ∧ 0 ≤ n ∧ n < 2)] 0 (by kernel_rfl) (by kernel_rfl) (by kernel_rfl) ⟨rfl, rfl, rfl⟩ ?_
  repeat (first | (refine SXg.v0 (fun dn x p ha hK => (qaw 0 rfl rfl rfl)) rfl (fun _ => rfl) rfl (fun _ _ => ⟨rfl, rfl, rfl⟩) rfl ?_) | (refine SXg.v0 (fun dn x p ha hK => (qae rfl)) rfl (fun _ => rfl) rfl (fun _ _ => ⟨rfl, rfl, rfl⟩) rfl ?_) | (refine SXg.v0 (fun dn x p ha hK => (qai rfl)) rfl (fun _ => rfl) rfl (fun _ _ => ⟨rfl, rfl, rfl⟩) rfl ?_) | (refine SXg.v0 (fun dn x p ha hK => (OpW.len rfl)) rfl (fun _ => rfl) rfl (fun _ _ => ⟨rfl, rfl, rfl⟩) rfl ?_))
  refine SXg.l rfl (fun _ => rfl) rfl (fun dn x p ha hk => ?_) ?_
  · refine qaB (ξ := Int) (v := fun x => .int .i64 x) rfl rfl rfl (fun x => 0 ≤ x ∧ x < 2) (fun w hl => below_d B gc w hl.inv 2 (by decide) (by decide)) (fun n hn => ?_)
    exact qaj (SQ.g n _ rfl (fun w hl => hl) ⟨fun _ => ⟨rfl, hn⟩, trivial⟩)
  refine SXg.v [4] (fun x => .int .i64 (12 + intOf (x 4))) (by kernel_rfl) (fun x y h => by rw [h 4 (by simp)]) (fun dn x p ha hk => ?_) rfl (fun _ => rfl) rfl (fun _ _ => ⟨rfl, rfl, rfl⟩) rfl ?_
  · obtain ⟨x4, h4⟩ : x 4 = .int .i64 p ∧ 0 ≤ p ∧ p < 2 := hk.1 (ha.done 4 (by kernel_rfl))
    simp only [x4, intOf]
    exact OpW.addi rfl rfl (by omega) (by omega)
  refine SXg.v [4] (fun x => .bool (decide ((q.ps.length : Int) < 12 + intOf (x 4)))) (by kernel_rfl) (fun x y h => by rw [h 4 (by simp)]) (fun dn x p ha hk => OpW.lss rfl rfl) rfl (fun _ => rfl) rfl (fun _ _ => ⟨rfl, rfl, rfl⟩) rfl ?_
  refine SXg.nilW (fun xq n hkq => ?_)
  obtain ⟨x4, h4⟩ : xq 4 = .int .i64 n ∧ 0 ≤ n ∧ n < 2 := hkq.1 rfl
  simp only [x4, intOf]
  by_cases hlt : (q.ps.length : Int) < 12 + n
  rotate_left
  · rw [decide_eq_false hlt]
    repeat (first | refine qan ?_ | refine qaj ?_ | refine qaf ?_ | refine qad ?_ | refine qas rfl ?_ | (refine qau ?_; (refine qac (qam 0 rfl rfl rfl) rfl ?_ ?_ ?_); rfl; rfl) | (refine qay ?_; first | ((first | refine qah 0 ?_ rfl rfl rfl rfl rfl rfl ?_ | refine qah 1 ?_ rfl rfl rfl rfl rfl rfl ?_ | refine qah 2 ?_ rfl rfl rfl rfl rfl rfl ?_); rfl; simp only [List.set_cons_zero, List.set_cons_succ]) | ((first | refine qaa 0 ?_ rfl rfl rfl rfl rfl rfl rfl ?_ | refine qaa 1 ?_ rfl rfl rfl rfl rfl rfl rfl ?_ | refine qaa 2 ?_ rfl rfl rfl rfl rfl rfl rfl ?_); rfl; simp only [List.set_cons_zero, List.set_cons_succ]) | ((first | refine qab 0 ?_ rfl rfl rfl rfl rfl rfl rfl ?_ | refine qab 1 ?_ rfl rfl rfl rfl rfl rfl rfl ?_ | refine qab 2 ?_ rfl rfl rfl rfl rfl rfl rfl ?_); rfl; simp only [over, List.set_cons_zero, List.set_cons_succ])) | refine qaA ?_ | refine SX.exit ?_ | refine qaF ?_ | refine qar ?_ | refine qaD ?_)
    refine qaK 1 rfl rfl rfl rfl (fun w' hl => ⟨q, rfl, hd, hl.owns, hl.mod, hl.inv⟩)
  rw [decide_eq_true hlt]
  repeat (first | refine qad ?_ | refine SX.block ?_ | refine qaC ?_ | refine qaq rfl ?_)
  refine SX.drawnG (ζ := Nat) 5 (fun d p => [⟨g3, [.slice q.a q.ps.length q.c], 37⟩, ⟨g2, [.slice none 0 0], 37⟩] ++ (bif d 4 then [⟨p, rowP (⟨0, [], newStyle, false, []⟩, ⟨none, 0, none, 0⟩), 86⟩] else [])) (fun _ _ => q.os) (fun _ _ => []) [(4, fun p v => v = .slice (some ⟨p, 0, none⟩) 1 1)] 0 (by kernel_rfl) (by kernel_rfl) (by kernel_rfl) ⟨rfl, rfl, rfl⟩ ?_
  repeat (first | (refine SXg.v0 (fun dn x p ha hK => (qap rfl (fun w hl => sstyleNew_any _))) rfl (fun _ => rfl) rfl (fun _ _ => ⟨rfl, rfl, rfl⟩) rfl ?_) | (refine SXg.v0 (fun dn x p ha hK => ((OpW.build (vals := [(2, .agg newStyle.cells.toArray)]) (cells := rowP (⟨0, [], newStyle, false, []⟩, ⟨none, 0, none, 0⟩)) rfl (by kernel_rfl)))) rfl (fun _ => rfl) rfl (fun _ _ => ⟨rfl, rfl, rfl⟩) rfl ?_) | (refine SXg.v0 (fun dn x p ha hK => (qaw 0 rfl rfl rfl)) rfl (fun _ => rfl) rfl (fun _ _ => ⟨rfl, rfl, rfl⟩) rfl ?_) | (refine SXg.v0 (fun dn x p ha hK => (qae rfl)) rfl (fun _ => rfl) rfl (fun _ _ => ⟨rfl, rfl, rfl⟩) rfl ?_))
  refine SXg.l rfl (fun _ => rfl) rfl (fun dn x' p ha hk => ?_) ?_
  · have d4 : dn 4 = false := ha.not
    have u4 : upd dn 4 4 = true := rfl
    simp only [d4, cond_true, cond_false, List.append_nil, List.nil_append]
    refine SXl.litRow1 (sz := 64) (r := rowP (⟨0, [], newStyle, false, []⟩, ⟨none, 0, none, 0⟩)) rfl rfl rfl rfl rfl (by decide) (by decide) (fun g => ?_)
    refine qaj (SQ.g g _ rfl (fun w hl => ?_) ⟨fun _ => rfl, trivial⟩)
    simp only [u4, cond_true, cond_false, List.append_nil, List.nil_append]
    exact hl.blkLast
  refine SXg.tail (fun yq p hkp => ?_)
  have y4 : yq 4 = .slice (some ⟨p, 0, none⟩) 1 1 := hkp.1 rfl
  simp only [y4]
  change SXl _ _ _ _ _ [⟨g3, [.slice q.a q.ps.length q.c], 37⟩, ⟨g2, [.slice none 0 0], 37⟩, ⟨p, rowP (⟨0, [], newStyle, false, []⟩, ⟨none, 0, none, 0⟩), 86⟩] (nodesO q.ps q.a q.c :: partsO q.ps) _ _ _ _
  refine l_append ?_
  refine SXl.append 0 2 rfl rfl rfl rfl rfl rfl rfl (rowP_ones _) (by omega) (by omega) (fun a3 c3 => ?_)
  repeat (first | refine qaj ?_ | (refine qak ?_; (refine qac (qae rfl) rfl ?_ ?_ ?_); rfl; rfl) | (refine qay ?_; first | ((first | refine qah 0 ?_ rfl rfl rfl rfl rfl rfl ?_ | refine qah 1 ?_ rfl rfl rfl rfl rfl rfl ?_ | refine qah 2 ?_ rfl rfl rfl rfl rfl rfl ?_); rfl; simp only [List.set_cons_zero, List.set_cons_succ]) | ((first | refine qaa 0 ?_ rfl rfl rfl rfl rfl rfl rfl ?_ | refine qaa 1 ?_ rfl rfl rfl rfl rfl rfl rfl ?_ | refine qaa 2 ?_ rfl rfl rfl rfl rfl rfl rfl ?_); rfl; simp only [List.set_cons_zero, List.set_cons_succ]) | ((first | refine qab 0 ?_ rfl rfl rfl rfl rfl rfl rfl ?_ | refine qab 1 ?_ rfl rfl rfl rfl rfl rfl rfl ?_ | refine qab 2 ?_ rfl rfl rfl rfl rfl rfl rfl ?_); rfl; simp only [over, List.set_cons_zero, List.set_cons_succ])) | refine qar ?_)
  refine SQ.round3 (⟨q.ps ++ [(⟨0, [], newStyle, false, []⟩, ⟨none, 0, none, 0⟩)], a3, c3⟩ : TreeQ) () () ⟨?_, by simp, by simp; omega⟩ (by simp; omega) ?_ (fun w hl => ?_)
  · show Drawn (bare (q.ps ++ [_]))
    rw [bare, List.map_append]
    refine ⟨by simp, by simp; omega, fun z hz => ?_⟩
    rcases List.mem_append.1 hz with hz | hz
    · exact hd.parts z hz
    · obtain rfl := List.mem_singleton.1 hz
      exact ⟨Nat.zero_le _, Nat.zero_le _⟩
  · (repeat (first | exact subF_nil _ | (refine subF_cons rfl ?_) | (refine subF_consv rfl (by rfl) ?_)))
  · have h2 := (((hl.blkTake 2).ownNil 3 1).ownNil 152 3).treePush (x := (⟨0, [], newStyle, false, []⟩, ⟨none, 0, none, 0⟩))
    show Loc _ _ (⟨_, [.slice a3 (q.ps ++ [_]).length c3], _⟩ :: _) _ _ _
    rw [List.length_append]
    exact h2
end Go.Proofs.Ythffgbhphjkdeaa
namespace Go.Proofs.Ythffgbhphjkdeaa
open Go.RowKit

/-- A new cursor over bytes that came in. -/
theorem l01New_loc {W : World} {L : List Blk} {O : List Own} {E : List Res} {w : World} {a : Option Addr} {len cap : Nat} (hlen : len ≤ 1048576) (hy : Bytes W.heap.size W a len) (hl : Loc W (Rg.none W) L O E w) : Calls Try.prog 66 #[.slice a len cap] w (NewCur W.heap.size 141 w) :=
  l01New_any W.heap.size w a len cap hl.mod.size hlen (hy.same fun k hk => hl.mod.block k hk (fun f => f))
end Go.Proofs.Ythffgbhphjkdeaa
namespace Go.Proofs.Ythffgbhphjkdeaa
open Go.RowKit

theorem tooBig_any (a : Option Addr) (len cap : Nat) (h : len ≤ 9223372036854775807) (w : World) : Calls Try.prog 17 #[.slice a len cap] w fun e w' => e = .returned (.bool (decide (1048576 < len))) ∧ w = w' := by
  by_cases hl : 1048576 < len
  · go_enter Try.func17, Try.ntmps17
    go_wp2
    go_ret
    exact ⟨ret_bool (by simp; omega), rfl⟩
  · go_enter Try.func17, Try.ntmps17
    go_wp2
    go_ret
    exact ⟨ret_bool (by simp; omega), rfl⟩

end Go.Proofs.Ythffgbhphjkdeaa
namespace Go.Proofs.Ythffgbhphjkdeaa
open Go.RowKit
set_option linter.unusedVariables false
set_option linter.unusedSimpArgs false

theorem bigT (a : Option Addr) {len : Nat} (cap : Nat) (hl : len ≤ maxLen) (h : 1048576 < len) (w : World) : Calls Try.prog 17 #[.slice a len cap] w fun e w' => e = .returned (.bool true) ∧ Mod (fun _ => False) w w' :=
  (tooBig_any a len cap (by unfold maxLen at hl; omega) w).mono fun e w' ⟨h1, h2⟩ => ⟨by rw [h1, decide_eq_true h], h2 ▸ Mod.refl _ _⟩
theorem bigF (a : Option Addr) {len : Nat} (cap : Nat) (hl : len ≤ maxLen) (h : ¬ 1048576 < len) (w : World) : Calls Try.prog 17 #[.slice a len cap] w fun e w' => e = .returned (.bool false) ∧ Mod (fun _ => False) w w' :=
  (tooBig_any a len cap (by unfold maxLen at hl; omega) w).mono fun e w' ⟨h1, h2⟩ => ⟨by rw [h1, decide_eq_false h], h2 ▸ Mod.refl _ _⟩
/-- A fact of no memory. -/
def factRes (K : Prop) : Res where
  foot := fun _ => False
  says := fun _ => K
  stable := fun _ _ _ h _ _ => h
theorem SXl.fact {P : Program} {n : Nat} {W : World} {R : Rg W} {L : List Blk} {O : List Own} {E : List Res} {f : List (Nat × Value)} {Q : Exit → Go.Act → World → Prop} {ops : Array Oper} {rest : List Oper} {K : Prop} (h : K → SXl P n W R ops L O E f rest Q) : SXl P n W R ops L O (factRes K :: E) f rest Q := ⟨fun a w hf hl => (h (hl.res _ (.head _)).1).run a w hf (hl.dropE)⟩

/-- The bytes of an argument, later. -/
theorem bytes_loc {W : World} {R : Rg W} {L : List Blk} {O : List Own} {E : List Res} {w : World} {a : Option Addr} {len : Nat} (hy : Bytes W.heap.size W a len) (hR : ∀ k, k < W.heap.size → ¬ R.p k) (hl : Loc W R L O E w) : Bytes w.heap.size w a len := by
  have := hy.same (w' := w) fun k hk => hl.mod.block k hk (hR k hk)
  rcases this with h | ⟨b, o, h1, h2, h3⟩
  · exact .inl h
  · exact .inr ⟨b, o, h1, Nat.lt_of_lt_of_le h2 hl.mod.size, h3⟩
end Go.Proofs.Ythffgbhphjkdeaa
namespace Go.Proofs.Ythffgbhphjkdeaa
open Go.RowKit
set_option linter.unusedVariables false
set_option linter.unusedSimpArgs false

set_option maxRecDepth 100000 in
set_option maxHeartbeats 8000000 in
theorem l10At_d (B gc : Nat) (w : World) (hc : Cur B 141 w gc) (a : Option Addr) (m c : Nat) (h0 : 0 < m) (h1 : m ≤ 1000) :
    Calls Try.prog 68 #[.pointer (some ⟨gc, 0, none⟩), .agg #[.slice a m c]] w (DrewV 141 B gc w (fun x : Int => .int .i64 x) (fun x => -1 ≤ x ∧ x ≤ 1000)) := by
  refine calls_draw (as_ := [.pointer (some ⟨gc, 0, none⟩), .agg #[.slice a m c]]) hc Try.func68 rfl rfl (fun a h1 h2 h3 => ((Fr.nil h1 h2).arg (h3 1 _ rfl)).arg (h3 0 _ rfl)) ?_
  repeat (first | refine qan ?_ | refine qaj ?_ | refine qaf ?_ | refine qad ?_ | (refine qau ?_; (refine qac (qaw 0 rfl rfl rfl) rfl ?_ ?_ ?_); rfl; rfl) | (refine qak ?_; (refine qac (qae rfl) rfl ?_ ?_ ?_); rfl; rfl) | (refine qao ?_; (refine qac (qai rfl) rfl ?_ ?_ ?_); rfl; rfl) | (refine qal ?_; (refine qac (qag rfl) rfl ?_ ?_ ?_); rfl; rfl) | (refine l_len ?_; (refine qac (OpW.len rfl) rfl ?_ ?_ ?_); rfl; rfl) | (refine l_box ?_; refine qaG ?_ ?_ rfl rfl (fun g => ?_); rfl; rfl))
  refine qat ?_
  refine qaB (ξ := Int) (v := fun x : Int => .int .i64 x) rfl rfl rfl (fun x => 0 ≤ x ∧ x < (m : Int)) (fun w hl => below_d B gc w hl.inv (m : Int) (by omega) (by omega)) (fun y hy => ?_)
  repeat ((refine l_add ?_; (refine qac (OpW.addi rfl rfl (by omega) (by omega)) rfl ?_ ?_ ?_); rfl; rfl))
  refine qaN ?_
  refine SXl.lit (cells := ([1, 1, 2, 3, y + 1, 0, -1, 13] : List Int).map (.int .i64)) (z := .int .i64 0) ?_ ?_ rfl (by decide) (by kernel_rfl) rfl (fun gl => ?_)
  rfl; rfl
  skip
  refine qat ?_
  refine qaB (ξ := Int) (v := fun x => .int .i64 x) rfl rfl rfl (fun x => x ∈ ([1, 1, 2, 3, y + 1, 0, -1, 13] : List Int)) (fun w hl => pick_g (l := [1, 1, 2, 3, y + 1, 0, -1, 13]) hl (.head _) (by simp) (by simp)) (fun z hz => ?_)
  repeat (first | refine qaj ?_ | refine qad ?_ | (refine qal ?_; (refine qac (qag rfl) rfl ?_ ?_ ?_); rfl; rfl) | refine qaA ?_)
  refine qaz rfl rfl (fun w' hl => ⟨z, rfl, by simp at hz; omega, hl.mod, hl.inv⟩)
/-- A tree and a number, drawn. -/
def DrewTN (w : World) (e : Ending) (w' : World) : Prop := NewO (TreeQ × Int) (fun q => .tuple #[q.1.v, .int .i64 q.2]) (fun q => q.1.os) (fun q => Drawn (bare q.1.ps) ∧ -1 ≤ q.2 ∧ q.2 ≤ 1000) w e w'
set_option maxRecDepth 100000 in
set_option maxHeartbeats 8000000 in
theorem drawDepthOf_o (a : Option Addr) (len cap : Nat) (w : World) (hlen : len ≤ 1048576) (hy : Bytes w.heap.size w a len) :
    Calls Try.prog 127 #[.slice a len cap] w (DrewTN w) := by
  refine calls_sx Try.func127 rfl rfl (fun a h1 h2 h3 => ((Fr.nil h1 h2).arg (h3 0 _ rfl))) ?_
  repeat (first | refine qan ?_ | refine qaj ?_ | refine qaf ?_ | refine qad ?_ | (refine qao ?_; (refine qac (qai rfl) rfl ?_ ?_ ?_); rfl; rfl) | (refine qal ?_; (refine qac (qag rfl) rfl ?_ ?_ ?_); rfl; rfl) | (refine qaR ?_; refine SXl.alloc ?_ ?_ (fun g => ?_); rfl; rfl))
  revert g; intro g2
  refine qat ?_
  refine SXl.newCur rfl rfl rfl (fun w hl => l01New_loc hlen hy hl) (fun gc => ?_)
  repeat (first | refine qan ?_ | refine qaj ?_ | refine qaf ?_ | refine qad ?_ | (refine qao ?_; (refine qac (qai rfl) rfl ?_ ?_ ?_); rfl; rfl) | (refine qal ?_; (refine qac (qag rfl) rfl ?_ ?_ ?_); rfl; rfl))
  refine qat ?_
  refine SXl.drawO 0 rfl rfl rfl rfl (fun w hl hc => l10Any_d _ _ w hc) (fun q hq => ?_)
  rw [List.append_nil]
  have hq1 := hq.pos
  have hq2 := hq.len
  rw [bare_len] at hq1 hq2
  repeat (first | refine qan ?_ | refine qaj ?_ | refine qad ?_ | (refine qaR ?_; refine SXl.alloc ?_ ?_ (fun g => ?_); rfl; rfl) | (refine qay ?_; first | ((first | refine qaa 0 ?_ rfl rfl rfl rfl rfl rfl rfl ?_ | refine qaa 1 ?_ rfl rfl rfl rfl rfl rfl rfl ?_ | refine qaa 2 ?_ rfl rfl rfl rfl rfl rfl rfl ?_); rfl; simp only [List.set_cons_zero, List.set_cons_succ]) | ((first | refine qab 0 ?_ rfl rfl rfl rfl rfl rfl rfl ?_ | refine qab 1 ?_ rfl rfl rfl rfl rfl rfl rfl ?_ | refine qab 2 ?_ rfl rfl rfl rfl rfl rfl rfl ?_); rfl; simp only [over, List.set_cons_zero, List.set_cons_succ])))
  revert g; intro g3
  refine SX.drawnG (ζ := Int) 6 (fun d p => [⟨g3, [.slice q.a q.ps.length q.c], 37⟩, ⟨g2, [bif d 4 then .slice q.a q.ps.length q.c else .slice none 0 0], 37⟩]) (fun _ _ => q.os) (fun _ _ => [curRes 141 w gc]) [(3, fun p v => v = .int .i64 p ∧ -1 ≤ p ∧ p ≤ 1000)] 0 (by kernel_rfl) (by kernel_rfl) (by kernel_rfl) ⟨rfl, rfl, rfl⟩ ?_
  repeat (first | (refine SXg.v0 (fun dn x p ha hK => (qam 0 rfl rfl rfl)) rfl (fun _ => rfl) rfl (fun _ _ => ⟨rfl, rfl, rfl⟩) rfl ?_) | (refine SXg.v0 (fun dn x p ha hK => (qai rfl)) rfl (fun _ => rfl) rfl (fun _ _ => ⟨rfl, rfl, rfl⟩) rfl ?_))
  refine SXg.l rfl (fun _ => rfl) rfl (fun dn x p ha hk => ?_) ?_
  · have d4 : dn 4 = false := ha.later 4 (by kernel_rfl)
    have u4 : upd dn 3 4 = false := d4
    have d3 : dn 3 = false := ha.not
    have u3 : upd dn 3 3 = true := rfl
    simp only [d4, d3, cond_true, cond_false, List.append_nil, List.nil_append]
    refine SXl.drawC (ξ := Int) (v := fun x : Int => .int .i64 x) 0 rfl rfl rfl rfl (fun x => -1 ≤ x ∧ x ≤ 1000) (fun w hl hc => l10At_d _ _ w hc q.a q.ps.length q.c (by omega) (by omega)) (fun n hn => ?_)
    refine qaj (SQ.g n _ rfl (fun w hl => ?_) ⟨fun _ => ⟨rfl, hn⟩, trivial⟩)
    simp only [u4, u3, cond_true, cond_false, List.append_nil, List.nil_append]
    exact hl
  refine SXg.s rfl (fun _ => rfl) (fun dn x p ha hk => ?_) rfl ?_
  · have d3 : dn 3 = true := ha.done 3 (by kernel_rfl)
    have u3 : upd dn 4 3 = true := d3
    have d4 : dn 4 = false := ha.not
    have u4 : upd dn 4 4 = true := rfl
    simp only [d3, d4, cond_true, cond_false, List.append_nil, List.nil_append]
    refine qaa (r := [.slice q.a q.ps.length q.c]) 1 rfl rfl rfl rfl rfl rfl rfl rfl ?_
    refine qaj (SQ.gs p (fun w hl => ?_) ⟨fun h => hk.1 h, trivial⟩)
    simp only [u3, u4, cond_true, cond_false, List.append_nil, List.nil_append]
    exact hl
  refine SXg.v [3] (fun x => x 3) (by kernel_rfl) (fun x y h => h 3 (by simp)) (fun dn x p ha hk => qag rfl) rfl (fun _ => rfl) rfl (fun _ _ => ⟨rfl, rfl, rfl⟩) rfl ?_
  refine SXg.nilW (fun xq n hkq => ?_)
  obtain ⟨x3, hn⟩ : xq 3 = .int .i64 n ∧ -1 ≤ n ∧ n ≤ 1000 := hkq.1 rfl
  simp only [x3]
  repeat (first | refine qad ?_ | refine qaA ?_)
  refine SQ.bodyCell2 1 rfl rfl rfl rfl rfl (fun w' hl => ⟨(q, n), rfl, ⟨hq, hn⟩, hl.owns, hl.mod⟩)
set_option maxRecDepth 100000 in
set_option maxHeartbeats 8000000 in
theorem l12Case_o (a : Option Addr) (len cap : Nat) (w : World) (hlen : len ≤ 1048576) (hy : Bytes w.heap.size w a len) :
    Calls Try.prog 93 #[.slice a len cap] w (DrewTN w) := by
  refine calls_sx Try.func93 rfl rfl (fun a h1 h2 h3 => ((Fr.nil h1 h2).arg (h3 0 _ rfl))) ?_
  repeat (first | refine qan ?_ | refine qaj ?_ | refine qaf ?_ | refine qad ?_ | (refine qao ?_; (refine qac (qai rfl) rfl ?_ ?_ ?_); rfl; rfl) | (refine qal ?_; (refine qac (qag rfl) rfl ?_ ?_ ?_); rfl; rfl) | (refine qaR ?_; refine SXl.alloc ?_ ?_ (fun g => ?_); rfl; rfl))
  refine qat ?_
  refine SXl.callO rfl rfl rfl (fun w' hl => drawDepthOf_o a len cap w' hlen (bytes_loc hy (fun _ _ f => f) hl)) (fun q hq => ?_)
  repeat (first | refine qaj ?_ | refine qad ?_ | (refine qal ?_; (refine qac (qag rfl) rfl ?_ ?_ ?_); rfl; rfl) | (refine l_extract ?_; (refine qac (OpW.extract rfl rfl) rfl ?_ ?_ ?_); rfl; rfl) | (refine qay ?_; first | ((first | refine qaa 0 ?_ rfl rfl rfl rfl rfl rfl rfl ?_ | refine qaa 1 ?_ rfl rfl rfl rfl rfl rfl rfl ?_ | refine qaa 2 ?_ rfl rfl rfl rfl rfl rfl rfl ?_); rfl; simp only [List.set_cons_zero, List.set_cons_succ]) | ((first | refine qab 0 ?_ rfl rfl rfl rfl rfl rfl rfl ?_ | refine qab 1 ?_ rfl rfl rfl rfl rfl rfl rfl ?_ | refine qab 2 ?_ rfl rfl rfl rfl rfl rfl rfl ?_); rfl; simp only [over, List.set_cons_zero, List.set_cons_succ])) | refine qaA ?_)
  refine SQ.bodyCell2 0 rfl rfl rfl rfl rfl (fun w' hl => ⟨q, rfl, hq, hl.owns.left, hl.mod⟩)
set_option maxRecDepth 100000 in
set_option maxHeartbeats 8000000 in
theorem drawFlowKids_o (a : Option Addr) (len cap : Nat) (w : World) (hlen : len ≤ 1048576) (hy : Bytes w.heap.size w a len) :
    Calls Try.prog 44 #[.slice a len cap] w (DrewTN w) := by
  refine calls_sx Try.func44 rfl rfl (fun a h1 h2 h3 => ((Fr.nil h1 h2).arg (h3 0 _ rfl))) ?_
  repeat (first | refine qan ?_ | refine qaj ?_ | refine qaf ?_ | refine qad ?_ | (refine qao ?_; (refine qac (qai rfl) rfl ?_ ?_ ?_); rfl; rfl) | (refine qal ?_; (refine qac (qag rfl) rfl ?_ ?_ ?_); rfl; rfl) | (refine qaR ?_; refine SXl.alloc ?_ ?_ (fun g => ?_); rfl; rfl))
  refine qat ?_
  refine SXl.callO rfl rfl rfl (fun w' hl => l12Case_o a len cap w' hlen (bytes_loc hy (fun _ _ f => f) hl)) (fun q hq => ?_)
  repeat (first | refine qaj ?_ | refine qad ?_ | (refine qal ?_; (refine qac (qag rfl) rfl ?_ ?_ ?_); rfl; rfl) | (refine l_extract ?_; (refine qac (OpW.extract rfl rfl) rfl ?_ ?_ ?_); rfl; rfl) | (refine qay ?_; first | ((first | refine qaa 0 ?_ rfl rfl rfl rfl rfl rfl rfl ?_ | refine qaa 1 ?_ rfl rfl rfl rfl rfl rfl rfl ?_ | refine qaa 2 ?_ rfl rfl rfl rfl rfl rfl rfl ?_); rfl; simp only [List.set_cons_zero, List.set_cons_succ]) | ((first | refine qab 0 ?_ rfl rfl rfl rfl rfl rfl rfl ?_ | refine qab 1 ?_ rfl rfl rfl rfl rfl rfl rfl ?_ | refine qab 2 ?_ rfl rfl rfl rfl rfl rfl rfl ?_); rfl; simp only [over, List.set_cons_zero, List.set_cons_succ])) | refine qaA ?_)
  refine SQ.bodyCell2 0 rfl rfl rfl rfl rfl (fun w' hl => ⟨q, rfl, hq, hl.owns.left, hl.mod⟩)
end Go.Proofs.Ythffgbhphjkdeaa
namespace Go.Proofs.Ythffgbhphjkdeaa
open Go.RowKit

set_option maxRecDepth 100000 in
theorem lsameInts_any (x y : List Int) (a b : Option Addr) (c c' : Nat) (R S : Nat → Prop) (w : World) (hx : x.length ≤ 1048576) (hy : y.length ≤ 1048576) (h : IntSlice R w a x) (h' : IntSlice S w b y) :
    Calls Try.prog 41 #[.slice a x.length c, .slice b y.length c'] w fun e w' => e = .returned (.bool (decide (x = y))) ∧ Mod (fun _ => False) w w' := by
  refine calls_sx Try.func41 rfl rfl (fun a h1 h2 h3 => ((Fr.nil h1 h2).arg (h3 1 _ rfl)).arg (h3 0 _ rfl)) ?_
  repeat (first | refine qan ?_ | refine qaj ?_ | refine qaf ?_ | refine qad ?_ | (refine qao ?_; (refine qac (qai rfl) rfl ?_ ?_ ?_); rfl; rfl) | (refine qal ?_; (refine qac (qag rfl) rfl ?_ ?_ ?_); rfl; rfl) | (refine l_len ?_; (refine qac (OpW.len rfl) rfl ?_ ?_ ?_); rfl; rfl) | (refine l_neq ?_; (refine qac (OpW.neq rfl rfl) rfl ?_ ?_ ?_); rfl; rfl))
  refine SX.cond rfl (fun hc => ?_) (fun hc => ?_)
  · (try simp only [Bool.not_eq_true', Bool.not_eq_false', decide_eq_true_eq, decide_eq_false_iff_not, Bool.and_eq_true, Bool.or_eq_true, Bool.or_eq_false_iff, Bool.and_eq_false_iff, Int.ofNat_inj, Int.ofNat_lt, Int.ofNat_le] at hc)
    repeat (first | refine qan ?_ | refine qaj ?_ | refine qaf ?_ | refine qad ?_ | (refine qal ?_; (refine qac (qag rfl) rfl ?_ ?_ ?_); rfl; rfl) | refine qaA ?_ | refine qax ?_)
    refine qaz rfl rfl (fun w' hl => ⟨ret_bool (by symm; simp; rintro rfl; exact hc rfl), hl.mod⟩)
  · (try simp only [Bool.not_eq_true', Bool.not_eq_false', decide_eq_true_eq, decide_eq_false_iff_not, Bool.and_eq_true, Bool.or_eq_true, Bool.or_eq_false_iff, Bool.and_eq_false_iff, Int.ofNat_inj, Int.ofNat_lt, Int.ofNat_le] at hc)
    repeat (first | refine qan ?_ | refine qaj ?_ | refine qaf ?_ | refine qad ?_ | refine SX.block ?_ | refine qaC ?_ | (refine qal ?_; (refine qac (qag rfl) rfl ?_ ?_ ?_); rfl; rfl))
    refine SX.loopi (fun k : Nat => k ≤ x.length ∧ SameTo x y k) (fun k => x.length - k) (fun _ => []) (fun _ => []) (fun _ => []) (fun k => [(0, .slice a x.length c), (1, .slice b y.length c'), (5, .int .i64 k)]) 0 ⟨Nat.zero_le _, rfl⟩ ?_ (fun _ hl => hl) ?_
    · (repeat (first | exact subF_nil _ | (refine subF_cons rfl ?_) | (refine subF_consv rfl (by rfl) ?_)))
    · rintro k ⟨hk, hs⟩
      by_cases hlt : k < x.length
      · obtain ⟨b1, o1, u, rfl, _, _, hxk, hc1⟩ := IntSlice.get h hlt
        obtain ⟨b2, o2, v, rfl, _, _, hyk, hc2⟩ := IntSlice.get h' (hc ▸ hlt)
        repeat (first | refine qan ?_ | refine qaj ?_ | refine qaf ?_ | refine qad ?_ | refine SX.block ?_ | refine qaC ?_ | refine qaq rfl ?_ | (refine qao ?_; (refine qac (qai rfl) rfl ?_ ?_ ?_); rfl; rfl) | (refine l_len ?_; (refine qac (OpW.len rfl) rfl ?_ ?_ ?_); rfl; rfl) | (refine l_lss ?_; (refine qac (OpW.lssT rfl rfl (by omega)) rfl ?_ ?_ ?_); rfl; rfl) | refine SX.drawn (by kernel_rfl) (by kernel_rfl) ?_ | refine SXr.nil ?_ | (refine r_load ?_; (refine SXr.v (OpW.loadOld rfl (by assumption) (fun h => h)) rfl ?_ ?_ ?_); rfl; rfl) | (refine r_move ?_; (refine SXr.v (qai rfl) rfl ?_ ?_ ?_); rfl; rfl) | (refine r_neq ?_; (refine SXr.v (OpW.neq rfl rfl) rfl ?_ ?_ ?_); rfl; rfl) | (refine r_indexAddr ?_; (refine SXr.v (qaO (by omega) rfl rfl) rfl ?_ ?_ ?_); rfl; rfl))
        refine SX.cond rfl (fun hq => ?_) (fun hq => ?_)
        · (try simp only [Bool.not_eq_true', Bool.not_eq_false', decide_eq_true_eq, decide_eq_false_iff_not, Bool.and_eq_true, Bool.or_eq_true, Bool.or_eq_false_iff, Bool.and_eq_false_iff, Int.ofNat_inj, Int.ofNat_lt, Int.ofNat_le] at hq)
          repeat (first | refine qan ?_ | refine qaj ?_ | refine qaf ?_ | refine qad ?_ | (refine qal ?_; (refine qac (qag rfl) rfl ?_ ?_ ?_); rfl; rfl) | refine qaA ?_ | refine qax ?_ | refine qaH ?_)
          refine qaz rfl rfl (fun w' hl => ⟨ret_bool (by symm; simp; exact ne_at hxk hyk hq), hl.mod⟩)
        · (try simp only [Bool.not_eq_true', Bool.not_eq_false', decide_eq_true_eq, decide_eq_false_iff_not, Bool.and_eq_true, Bool.or_eq_true, Bool.or_eq_false_iff, Bool.and_eq_false_iff, Int.ofNat_inj, Int.ofNat_lt, Int.ofNat_le] at hq)
          repeat (first | refine qaj ?_ | refine qaf ?_ | refine qad ?_ | refine qaC ?_ | (refine qao ?_; (refine qac (qai rfl) rfl ?_ ?_ ?_); rfl; rfl) | (refine qal ?_; (refine qac (qag rfl) rfl ?_ ?_ ?_); rfl; rfl) | (refine l_add ?_; (refine qac (OpW.succ rfl rfl (by omega)) rfl ?_ ?_ ?_); rfl; rfl) | refine qar ?_)
          refine SQ.roundi (k + 1) ⟨by omega, hs.succ hxk (hq ▸ hyk)⟩ (by omega) ?_ (fun _ hl => hl)
          (repeat (first | exact subF_nil _ | (refine subF_cons rfl ?_) | (refine subF_consv rfl (by rfl) ?_)))
      · repeat (first | refine qan ?_ | refine qaj ?_ | refine qaf ?_ | refine qad ?_ | refine qas rfl ?_ | (refine qao ?_; (refine qac (qai rfl) rfl ?_ ?_ ?_); rfl; rfl) | (refine qal ?_; (refine qac (qag rfl) rfl ?_ ?_ ?_); rfl; rfl) | (refine l_len ?_; (refine qac (OpW.len rfl) rfl ?_ ?_ ?_); rfl; rfl) | (refine l_lss ?_; (refine qac (OpW.lssF rfl rfl (by omega)) rfl ?_ ?_ ?_); rfl; rfl) | refine qaA ?_ | refine SX.exit ?_ | refine qaF ?_ | refine qaD ?_)
        refine qaz rfl rfl (fun w' hl => ⟨ret_bool (by symm; simp; exact hs.all (by omega) (by omega)), hl.mod⟩)

end Go.Proofs.Ythffgbhphjkdeaa
