/-
  PROVED: for every list of bytes the law FnLinesBack returns true. Condition: the library's tables and its syntax error, which the row lists, lie as the library's text lays them (tied).
-/
import Derived.Test.YtkkjjhooamlljaaGreatDoorMBf
set_option linter.unusedVariables false
set_option linter.unusedSimpArgs false
namespace Go.Proofs.YtkkjjhooamlljaaGreatDoor
open Go.RowKit
set_option linter.unusedVariables false
set_option linter.unusedSimpArgs false

set_option maxRecDepth 100000 in
set_option maxHeartbeats 8000000 in
theorem lsameAct_same (x : ActL) (a b : Option Addr) (c d : Nat) (R S : Nat → Prop) (w : World) (hl0 : x.rules.length ≤ 1048576) (h : SliceAt (Flat Rule.cells) 3 R w a x.rules) (h' : SliceAt (Flat Rule.cells) 3 S w b x.rules) :
    Calls Tryz.prog 20 #[.agg (x.row a c).toArray, .agg (x.row b d).toArray] w fun e w' => e = .returned (.bool true) ∧ Mod (fun _ => False) w w' := by
  refine calls_sx Tryz.func20 rfl rfl (fun a h1 h2 h3 => ((Fr.nil h1 h2).arg (h3 1 _ rfl)).arg (h3 0 _ rfl)) ?_
  have hT := fun w' (hm : Mod (fun _ => False) w w') => sameTable_any x.rules x.rules a b c d R S w' hl0 hl0 (h.flatKeep hm) (h'.flatKeep hm)
  simp only [decide_true] at hT
  have hS : sameVs x.v.cells x.v.cells = true := by rw [Val.same_iff]; exact decide_eq_true rfl
  have hb : (x.rtl == x.rtl) = true := beq_self_eq_true _
  repeat (first | refine qap ?_ | refine qak ?_ | refine qaf ?_ | refine qab ?_ | (refine qaA ?_; (refine qaa (qal rfl (fun w hl => hT _ hl.mod)) rfl ?_ ?_ ?_); rfl; rfl) | (refine qaF ?_; (first | refine qaa (qaJ 1 (r := x.v.cells) rfl rfl rfl rfl) rfl ?_ ?_ ?_ | refine qaa (qaJ 0 (r := x.v.cells) rfl rfl rfl rfl) rfl ?_ ?_ ?_ | refine qaa (qat 0 rfl rfl rfl) rfl ?_ ?_ ?_ | refine qaa (qat 1 rfl rfl rfl) rfl ?_ ?_ ?_ | refine qaa (qaJ 0 rfl rfl rfl rfl) rfl ?_ ?_ ?_ | refine qaa (qaJ 1 rfl rfl rfl rfl) rfl ?_ ?_ ?_); rfl; rfl) | (refine qam ?_; (refine qaa (qag rfl) rfl ?_ ?_ ?_); rfl; rfl) | (refine qau ?_; (refine qaa (qaj rfl) rfl ?_ ?_ ?_); rfl; rfl) | (refine qai ?_; (refine qaa (qae rfl) rfl ?_ ?_ ?_); rfl; rfl) | (refine qaK ?_; (first | refine qaa (qaI rfl rfl (by omega)) rfl ?_ ?_ ?_ | refine qaa (OpW.eqlb rfl rfl) rfl ?_ ?_ ?_ | refine qaa (OpW.eqlS rfl rfl rfl rfl) rfl ?_ ?_ ?_ | refine qaa (qaB rfl rfl (by first | assumption | with_reducible rfl | decide)) rfl ?_ ?_ ?_); rfl; rfl) | (refine qaR ?_; (refine qaa (qax rfl rfl rfl) rfl ?_ ?_ ?_); rfl; rfl) | (refine l_box ?_; refine qaV ?_ ?_ rfl rfl (fun g => ?_); rfl; rfl) | (rw [hS]) | (rw [hb]) | refine qav ?_)
  refine qaC rfl rfl (fun w' hl => ⟨rfl, hl.mod⟩)

theorem sameTable_same (l : List Rule) (a b : Option Addr) (c d : Nat) (R S : Nat → Prop) (w : World) (hl : l.length ≤ 1048576) (h : SliceAt (Flat Rule.cells) 3 R w a l) (h' : SliceAt (Flat Rule.cells) 3 S w b l) :
    Calls Tryz.prog 22 #[.agg #[.slice a l.length c], .agg #[.slice b l.length d]] w fun e w' => e = .returned (.bool true) ∧ Mod (fun _ => False) w w' := by
  have := sameTable_any l l a b c d R S w hl hl h h'
  rw [decide_eq_true rfl] at this
  exact this
theorem readAct_good {x : ActL} (h : goodA x = true) : readAct (([32, 32] ++ actLine x) ++ [32]) = (x, true) := readAct_round (goodA_of h) (actLine_len (goodA_of h))
theorem readAct_none {x : ActL} (h : goodA x = false) : readAct (([32, 32] ++ actLine x) ++ [32]) = (zeroA, false) := by
  rw [actLine_good, h, if_neg (by decide)]
  exact readAct_blank
theorem actLine_empty {x : ActL} (h : goodA x = false) : actLine x = [] := by rw [actLine_good, h, if_neg (by decide)]
theorem actLine_full {x : ActL} (h : goodA x = true) : actLine x ≠ [] := by
  rw [actLine_good, if_pos h]
  exact join_ne (parts_words (goodA_of h)) (parts_ne x)
theorem readRules_empty : readRules [] = ([], false) := by decide
def addOnly : ActL := ⟨1, 0, 0, 0, [], ⟨0, 0⟩, [], 0, 0, false⟩
theorem addOnly_line : actLine addOnly = [97, 100, 100] := by decide

set_option maxRecDepth 100000 in
set_option maxHeartbeats 16000000 in
theorem fnLinesBack_walk (w : World) (a : Option Addr) (len cap : Nat) (rd : Rd Tryz.prog w 34 [.slice a len cap]) (ht : Tab w) (hsyn : Syn w) (hsh : w.ShapedOpen Tryz.prog) :
    Calls Tryz.prog 4 #[.slice a len cap] w fun e w' => e = .returned (.bool true) ∧ Mod (fun _ => False) w w' := by
  have hz := num0 hsh
  obtain ⟨hm, hy⟩ := bytes_of_rd rd
  clear hsh rd
  refine calls_sx Tryz.func4 rfl rfl (fun a h1 h2 h3 => ((Fr.nil h1 h2).arg (h3 0 _ rfl))) ?_
  by_cases hb : 1048576 < len
  · repeat (first | refine qap ?_ | refine qak ?_ | refine qaf ?_ | refine qab ?_ | refine qao rfl ?_ | (refine qaA ?_; (refine qaa (qal rfl (fun w hl => bigT a cap hm hb _)) rfl ?_ ?_ ?_); rfl; rfl) | (refine qau ?_; (refine qaa (qaj rfl) rfl ?_ ?_ ?_); rfl; rfl) | (refine qai ?_; (refine qaa (qae rfl) rfl ?_ ?_ ?_); rfl; rfl) | refine qav ?_ | refine qan ?_)
    refine qaC rfl rfl (fun w' hl => ⟨rfl, hl.mod⟩)
  have hlen : len ≤ 1048576 := by omega
  repeat (first | refine qap ?_ | refine qak ?_ | refine qaf ?_ | refine qab ?_ | refine qaE ?_ | refine qas rfl ?_ | (refine qaA ?_; (refine qaa (qal rfl (fun w hl => bigF a cap hm hb _)) rfl ?_ ?_ ?_); rfl; rfl) | (refine qau ?_; (refine qaa (qaj rfl) rfl ?_ ?_ ?_); rfl; rfl) | (refine qai ?_; (refine qaa (qae rfl) rfl ?_ ?_ ?_); rfl; rfl))
  refine qaA ?_
  refine SXl.callO rfl rfl rfl (fun w' hl => drawActLine_o a len cap w' hlen (bytes_loc hy (fun _ _ f => f) hl)) (fun q hq => ?_)
  obtain ⟨x, xa, xc⟩ := q
  simp only at hq
  have hA := fun R w h h1 h2 => actLine_any x xa xc R w (by omega) h h1 h2
  have hsA := fun R w h => sactLine_any x xa xc R w (by omega) h
  have hs590 := actLine_590 x
  obtain ⟨y, b, hyb, hgood⟩ : ∃ y b, readAct (([32, 32] ++ actLine x) ++ [32]) = (y, b) ∧ ((b = true ∧ y = x ∧ actLine x ≠ []) ∨ (b = false ∧ y = zeroA ∧ actLine x = [])) := by
    cases hg : goodA x
    · exact ⟨zeroA, false, readAct_none hg, .inr ⟨rfl, rfl, actLine_empty hg⟩⟩
    · exact ⟨x, true, readAct_good hg, .inl ⟨rfl, rfl, actLine_full hg⟩⟩
  have hR0 := fun w h1 h2 h3 => readAct_new (([32, 32] ++ actLine x) ++ [32]) (by simp only [List.length_append, List.length_cons, List.length_nil]; omega) w h1 h2 h3
  rw [hyb] at hR0
  unfold AT at hR0
  simp only at hR0
  generalize actLine x = s at hA hsA hs590 hgood hR0
  repeat (first | refine qap ?_ | refine qak ?_ | refine qaf ?_ | refine qab ?_ | (refine qaA ?_; (refine qaa (qal rfl (fun w hl => hA _ _ (own_rules hl (.head _)) (hz.keep hl.mod) (ht.keep hl.mod))) rfl ?_ ?_ ?_); rfl; rfl) | (refine l_add ?_; (refine qaa ((OpW.cat rfl rfl (by simp only [List.length_append, List.length_cons, List.length_nil]; omega))) rfl ?_ ?_ ?_); rfl; rfl) | (refine qaF ?_; (refine qaa (qaq 0 rfl rfl rfl) rfl ?_ ?_ ?_); rfl; rfl) | (refine qau ?_; (refine qaa (qaj rfl) rfl ?_ ?_ ?_); rfl; rfl) | (refine qai ?_; (refine qaa (qae rfl) rfl ?_ ?_ ?_); rfl; rfl) | (refine qaT ?_; refine SXl.alloc ?_ ?_ (fun g => ?_); rfl; rfl) | (refine qaD ?_; first | ((first | refine qad 0 ?_ rfl rfl rfl rfl rfl rfl rfl ?_ | refine qad 1 ?_ rfl rfl rfl rfl rfl rfl rfl ?_ | refine qad 2 ?_ rfl rfl rfl rfl rfl rfl rfl ?_); rfl; simp only [List.set_cons_zero, List.set_cons_succ]) | ((first | refine qac 0 ?_ rfl rfl rfl rfl rfl rfl rfl ?_ | refine qac 1 ?_ rfl rfl rfl rfl rfl rfl rfl ?_ | refine qac 2 ?_ rfl rfl rfl rfl rfl rfl rfl ?_); rfl; simp only [over, List.set_cons_zero, List.set_cons_succ])))
  refine qaA ?_
  refine SXl.calln1 (v := fun q : SlP => .tuple #[.agg (y.row q.a q.c).toArray, .bool b]) (F1 := ownRes Rule.cells 70 3 y.rules) rfl rfl rfl (fun w hl => hR0 _ (hz.keep hl.mod) (ht.keep hl.mod) (hsyn.keep hl.mod)) (fun r0 => ?_)
  repeat (first | refine qap ?_ | refine qak ?_ | refine qaf ?_ | refine qab ?_ | (refine qau ?_; (refine qaa (qaj rfl) rfl ?_ ?_ ?_); rfl; rfl) | (refine qai ?_; (refine qaa (qae rfl) rfl ?_ ?_ ?_); rfl; rfl) | (refine qaP ?_; (refine qaa (OpW.extract rfl rfl) rfl ?_ ?_ ?_); rfl; rfl) | (refine qaT ?_; refine SXl.alloc ?_ ?_ (fun g => ?_); rfl; rfl) | (refine qaD ?_; first | ((first | refine qad 0 ?_ rfl rfl rfl rfl rfl rfl rfl ?_ | refine qad 1 ?_ rfl rfl rfl rfl rfl rfl rfl ?_ | refine qad 2 ?_ rfl rfl rfl rfl rfl rfl rfl ?_); rfl; simp only [List.set_cons_zero, List.set_cons_succ]) | ((first | refine qac 0 ?_ rfl rfl rfl rfl rfl rfl rfl ?_ | refine qac 1 ?_ rfl rfl rfl rfl rfl rfl rfl ?_ | refine qac 2 ?_ rfl rfl rfl rfl rfl rfl rfl ?_); rfl; simp only [over, List.set_cons_zero, List.set_cons_succ])))
  refine qaA ?_
  refine SXl.callO rfl rfl rfl (fun w' hl => drawRuleText_o a len cap w' hlen (bytes_loc hy (fun _ _ f => f) hl)) (fun q hq2 => ?_)
  obtain ⟨l, la, lc⟩ := q
  simp only at hq2
  have hX := fun R w h h1 => ruleText_any l la lc R w (by omega) h h1
  have hsX := fun R w h => sruleText_any l la lc R w (by omega) h
  have ht600 := ruleText_short (l := l) (by omega)
  obtain ⟨m, d, hmd, hgood2⟩ : ∃ m d, readRules (ruleTextOf l) = (m, d) ∧ ((d = true ∧ m = l ∧ ruleTextOf l ≠ []) ∨ (d = false ∧ m = [] ∧ ruleTextOf l = [])) := by
    by_cases hg : ruleTextOf l = []
    · exact ⟨[], false, by rw [hg]; exact readRules_empty, .inr ⟨rfl, rfl, hg⟩⟩
    · exact ⟨l, true, readRules_back hg, .inl ⟨rfl, rfl, hg⟩⟩
  have hR1 := fun w h0 h1 h2 => readRules_new (ruleTextOf l) (by omega) w h0 h1 h2
  unfold RR at hR1
  rw [hmd] at hR1
  simp only at hR1
  generalize ruleTextOf l = tx at hX hsX ht600 hgood2 hR1
  repeat (first | refine qap ?_ | refine qak ?_ | refine qaf ?_ | refine qab ?_ | (refine qaA ?_; (refine qaa (qal rfl (fun w hl => hX _ _ (own_rules hl (.head _)) (ht.keep hl.mod))) rfl ?_ ?_ ?_); rfl; rfl) | (refine qaF ?_; (refine qaa (qaq 0 rfl rfl rfl) rfl ?_ ?_ ?_); rfl; rfl) | (refine qau ?_; (refine qaa (qaj rfl) rfl ?_ ?_ ?_); rfl; rfl) | (refine qai ?_; (refine qaa (qae rfl) rfl ?_ ?_ ?_); rfl; rfl) | (refine qaT ?_; refine SXl.alloc ?_ ?_ (fun g => ?_); rfl; rfl) | (refine qaD ?_; first | ((first | refine qad 0 ?_ rfl rfl rfl rfl rfl rfl rfl ?_ | refine qad 1 ?_ rfl rfl rfl rfl rfl rfl rfl ?_ | refine qad 2 ?_ rfl rfl rfl rfl rfl rfl rfl ?_); rfl; simp only [List.set_cons_zero, List.set_cons_succ]) | ((first | refine qac 0 ?_ rfl rfl rfl rfl rfl rfl rfl ?_ | refine qac 1 ?_ rfl rfl rfl rfl rfl rfl rfl ?_ | refine qac 2 ?_ rfl rfl rfl rfl rfl rfl rfl ?_); rfl; simp only [over, List.set_cons_zero, List.set_cons_succ])))
  refine qaA ?_
  refine SXl.calln1 (v := fun q : SlP => .tuple #[.agg #[.slice q.a m.length q.c], .bool d]) (F1 := ownRes Rule.cells 70 3 m) rfl rfl rfl (fun w hl => hR1 _ (hz.keep hl.mod) (ht.keep hl.mod) (hsyn.keep hl.mod)) (fun r1 => ?_)
  repeat (first | refine qap ?_ | refine qak ?_ | refine qaf ?_ | refine qab ?_ | (refine qau ?_; (refine qaa (qaj rfl) rfl ?_ ?_ ?_); rfl; rfl) | (refine qai ?_; (refine qaa (qae rfl) rfl ?_ ?_ ?_); rfl; rfl) | (refine qaP ?_; (refine qaa (OpW.extract rfl rfl) rfl ?_ ?_ ?_); rfl; rfl) | (refine qaT ?_; refine SXl.alloc ?_ ?_ (fun g => ?_); rfl; rfl) | (refine qaD ?_; first | ((first | refine qad 0 ?_ rfl rfl rfl rfl rfl rfl rfl ?_ | refine qad 1 ?_ rfl rfl rfl rfl rfl rfl rfl ?_ | refine qad 2 ?_ rfl rfl rfl rfl rfl rfl rfl ?_); rfl; simp only [List.set_cons_zero, List.set_cons_succ]) | ((first | refine qac 0 ?_ rfl rfl rfl rfl rfl rfl rfl ?_ | refine qac 1 ?_ rfl rfl rfl rfl rfl rfl rfl ?_ | refine qac 2 ?_ rfl rfl rfl rfl rfl rfl rfl ?_); rfl; simp only [over, List.set_cons_zero, List.set_cons_succ])))
  refine qaA ?_
  refine SXl.calln1 (v := fun t : List UInt8 => .string ⟨t.toArray⟩) (F1 := fun t => factRes (t.length ≤ 2000)) rfl rfl rfl (fun w' hl => (drawReadAct_d a len cap w' hlen (bytes_loc hy (fun _ _ f => f) hl)).mono fun e w2 ⟨t, h1, h2, h5⟩ => ⟨t, h1, ⟨h2, fun _ f => f.elim⟩, h5⟩) (fun t => SXl.fact fun htl => ?_)
  have hR2 := fun w h1 h2 h3 => readAct_new t (by omega) w h1 h2 h3
  have hR3 := fun w => sreadAct_new t (by omega) w
  have hz6 := readAct_rules t
  unfold AT at hR2 hR3
  generalize (readAct t).1 = z at hR2 hR3 hz6
  generalize (readAct t).2 = bz at hR2 hR3
  repeat (first | refine qap ?_ | refine qak ?_ | refine qaf ?_ | refine qab ?_ | (refine qau ?_; (refine qaa (qaj rfl) rfl ?_ ?_ ?_); rfl; rfl) | (refine qai ?_; (refine qaa (qae rfl) rfl ?_ ?_ ?_); rfl; rfl))
  refine qaA ?_
  refine SXl.calln1 (v := fun q : SlP => .tuple #[.agg (z.row q.a q.c).toArray, .bool bz]) (F1 := ownRes Rule.cells 70 3 z.rules) rfl rfl rfl (fun w hl => hR2 _ (hz.keep hl.mod) (ht.keep hl.mod) (hsyn.keep hl.mod)) (fun r2 => ?_)
  repeat (first | refine qap ?_ | refine qak ?_ | refine qaf ?_ | refine qab ?_ | (refine qau ?_; (refine qaa (qaj rfl) rfl ?_ ?_ ?_); rfl; rfl) | (refine qai ?_; (refine qaa (qae rfl) rfl ?_ ?_ ?_); rfl; rfl) | (refine qaP ?_; (refine qaa (OpW.extract rfl rfl) rfl ?_ ?_ ?_); rfl; rfl) | (refine qaT ?_; refine SXl.alloc ?_ ?_ (fun g => ?_); rfl; rfl) | (refine qaD ?_; first | ((first | refine qad 0 ?_ rfl rfl rfl rfl rfl rfl rfl ?_ | refine qad 1 ?_ rfl rfl rfl rfl rfl rfl rfl ?_ | refine qad 2 ?_ rfl rfl rfl rfl rfl rfl rfl ?_); rfl; simp only [List.set_cons_zero, List.set_cons_succ]) | ((first | refine qac 0 ?_ rfl rfl rfl rfl rfl rfl rfl ?_ | refine qac 1 ?_ rfl rfl rfl rfl rfl rfl rfl ?_ | refine qac 2 ?_ rfl rfl rfl rfl rfl rfl rfl ?_); rfl; simp only [over, List.set_cons_zero, List.set_cons_succ])))
  refine qaA ?_
  refine SXl.calln1 (v := fun q : SlP => .tuple #[.agg (z.row q.a q.c).toArray, .bool bz]) (F1 := ownRes Rule.cells 70 3 z.rules) rfl rfl rfl (fun w hl => hR3 _) (fun r3 => ?_)
  repeat (first | refine qap ?_ | refine qak ?_ | refine qaf ?_ | refine qab ?_ | (refine qau ?_; (refine qaa (qaj rfl) rfl ?_ ?_ ?_); rfl; rfl) | (refine qai ?_; (refine qaa (qae rfl) rfl ?_ ?_ ?_); rfl; rfl) | (refine qaP ?_; (refine qaa (OpW.extract rfl rfl) rfl ?_ ?_ ?_); rfl; rfl) | (refine qaT ?_; refine SXl.alloc ?_ ?_ (fun g => ?_); rfl; rfl) | (refine qaD ?_; first | ((first | refine qad 0 ?_ rfl rfl rfl rfl rfl rfl rfl ?_ | refine qad 1 ?_ rfl rfl rfl rfl rfl rfl rfl ?_ | refine qad 2 ?_ rfl rfl rfl rfl rfl rfl rfl ?_); rfl; simp only [List.set_cons_zero, List.set_cons_succ]) | ((first | refine qac 0 ?_ rfl rfl rfl rfl rfl rfl rfl ?_ | refine qac 1 ?_ rfl rfl rfl rfl rfl rfl rfl ?_ | refine qac 2 ?_ rfl rfl rfl rfl rfl rfl rfl ?_); rfl; simp only [over, List.set_cons_zero, List.set_cons_succ])))
  refine qaA ?_
  refine SXl.calln1 (v := fun t : List UInt8 => .string ⟨t.toArray⟩) (F1 := fun t => factRes (t.length ≤ 2000)) rfl rfl rfl (fun w' hl => (drawReadRules_d a len cap w' hlen (bytes_loc hy (fun _ _ f => f) hl)).mono fun e w2 ⟨t, h1, h2, h5⟩ => ⟨t, h1, ⟨h2, fun _ f => f.elim⟩, h5⟩) (fun u => SXl.fact fun hul => ?_)
  have hR4 := fun w h0 h1 h2 => readRules_new u (by omega) w h0 h1 h2
  have hR5 := fun w => sreadRules_new u (by omega) w
  have hu6 := readRules_len u
  unfold RR at hR4 hR5
  generalize (readRules u).1 = us at hR4 hR5 hu6
  generalize (readRules u).2 = ub at hR4 hR5
  repeat (first | refine qap ?_ | refine qak ?_ | refine qaf ?_ | refine qab ?_ | (refine qau ?_; (refine qaa (qaj rfl) rfl ?_ ?_ ?_); rfl; rfl) | (refine qai ?_; (refine qaa (qae rfl) rfl ?_ ?_ ?_); rfl; rfl))
  refine qaA ?_
  refine SXl.calln1 (v := fun q : SlP => .tuple #[.agg #[.slice q.a us.length q.c], .bool ub]) (F1 := ownRes Rule.cells 70 3 us) rfl rfl rfl (fun w hl => hR4 _ (hz.keep hl.mod) (ht.keep hl.mod) (hsyn.keep hl.mod)) (fun r4 => ?_)
  repeat (first | refine qap ?_ | refine qak ?_ | refine qaf ?_ | refine qab ?_ | (refine qau ?_; (refine qaa (qaj rfl) rfl ?_ ?_ ?_); rfl; rfl) | (refine qai ?_; (refine qaa (qae rfl) rfl ?_ ?_ ?_); rfl; rfl) | (refine qaP ?_; (refine qaa (OpW.extract rfl rfl) rfl ?_ ?_ ?_); rfl; rfl) | (refine qaT ?_; refine SXl.alloc ?_ ?_ (fun g => ?_); rfl; rfl) | (refine qaD ?_; first | ((first | refine qad 0 ?_ rfl rfl rfl rfl rfl rfl rfl ?_ | refine qad 1 ?_ rfl rfl rfl rfl rfl rfl rfl ?_ | refine qad 2 ?_ rfl rfl rfl rfl rfl rfl rfl ?_); rfl; simp only [List.set_cons_zero, List.set_cons_succ]) | ((first | refine qac 0 ?_ rfl rfl rfl rfl rfl rfl rfl ?_ | refine qac 1 ?_ rfl rfl rfl rfl rfl rfl rfl ?_ | refine qac 2 ?_ rfl rfl rfl rfl rfl rfl rfl ?_); rfl; simp only [over, List.set_cons_zero, List.set_cons_succ])))
  refine qaA ?_
  refine SXl.calln1 (v := fun q : SlP => .tuple #[.agg #[.slice q.a us.length q.c], .bool ub]) (F1 := ownRes Rule.cells 70 3 us) rfl rfl rfl (fun w hl => hR5 _) (fun r5 => ?_)
  have hAdd := fun w h1 h2 => actLine_any addOnly none 0 (fun _ => False) w (by decide) SliceAt.nil h1 h2
  rw [addOnly_line] at hAdd
  rcases hgood with ⟨rfl, hyx, hne⟩ | ⟨rfl, rfl, rfl⟩
  · subst hyx
    rcases hgood2 with ⟨rfl, hml, hne2⟩ | ⟨rfl, rfl, rfl⟩
    · subst hml
      repeat (first | refine qap ?_ | refine qak ?_ | refine qaf ?_ | refine qab ?_ | (refine qaF ?_; (first | refine qaa (qaq 7 rfl rfl rfl) rfl ?_ ?_ ?_ | refine qaa (qaq 6 rfl rfl rfl) rfl ?_ ?_ ?_ | refine qaa (qaq 5 rfl rfl rfl) rfl ?_ ?_ ?_ | refine qaa (qaq 4 rfl rfl rfl) rfl ?_ ?_ ?_ | refine qaa (qaq 0 rfl rfl rfl) rfl ?_ ?_ ?_ | refine qaa (qaq 1 rfl rfl rfl) rfl ?_ ?_ ?_ | refine qaa (qaq 2 rfl rfl rfl) rfl ?_ ?_ ?_ | refine qaa (qaq 3 rfl rfl rfl) rfl ?_ ?_ ?_); rfl; rfl) | (refine qaA ?_; (first | refine qaa (qal rfl (fun w hl => hsA _ _ (own_rules hl (.tail _ (.head _))))) rfl ?_ ?_ ?_ | refine qaa (qal (args := [.agg #[.slice r1.a m.length r1.c], .agg #[.slice la m.length lc]]) rfl (fun w hl => sameTable_same m _ _ _ _ _ _ _ (by omega) (own_in hl (.tail _ (.tail _ (.tail _ (.tail _ (.head _))))) (fun _ => rfl) (by decide)) (own_rules hl (.head _)))) rfl ?_ ?_ ?_ | refine qaa (qal (args := [.agg (y.row r0.a r0.c).toArray, .agg (y.row xa xc).toArray]) rfl (fun w hl => lsameAct_same y _ _ _ _ _ _ _ (by omega) (own_in hl (.tail _ (.tail _ (.tail _ (.tail _ (.tail _ (.head _)))))) (fun _ => rfl) (by decide)) (own_rules hl (.tail _ (.head _))))) rfl ?_ ?_ ?_ | refine qaa (qal (args := [.agg (z.row r2.a r2.c).toArray, .agg (z.row r3.a r3.c).toArray]) rfl (fun w hl => lsameAct_same z _ _ _ _ _ _ _ (by omega) (own_in hl (.tail _ (.tail _ (.tail _ (.head _)))) (fun _ => rfl) (by decide)) (own_in hl (.tail _ (.tail _ (.head _))) (fun _ => rfl) (by decide)))) rfl ?_ ?_ ?_ | refine qaa (qal rfl (fun w hl => hsX _ _ (own_rules hl (.head _)))) rfl ?_ ?_ ?_ | refine qaa (qal (args := [.agg #[.slice r4.a us.length r4.c], .agg #[.slice r5.a us.length r5.c]]) rfl (fun w hl => sameTable_same us _ _ _ _ _ _ _ (by omega) (own_in hl (.tail _ (.head _)) (fun _ => rfl) (by decide)) (own_in hl (.head _) (fun _ => rfl) (by decide)))) rfl ?_ ?_ ?_ | refine qaa (qal (args := [.agg (addOnly.row none 0).toArray]) rfl (fun w hl => hAdd _ (hz.keep hl.mod) (ht.keep hl.mod))) rfl ?_ ?_ ?_); rfl; rfl) | (refine qaO ?_; (refine qaa ((qaz (vals := [(0, .int .i64 1)]) (cells := addOnly.row none 0) rfl (by kernel_rfl))) rfl ?_ ?_ ?_); rfl; rfl) | (refine qau ?_; (refine qaa (qaj rfl) rfl ?_ ?_ ?_); rfl; rfl) | (refine qai ?_; (refine qaa (qae rfl) rfl ?_ ?_ ?_); rfl; rfl) | (refine qaK ?_; (first | refine qaa (OpW.eqlb rfl rfl) rfl ?_ ?_ ?_ | refine qaa (qaB rfl rfl (by first | assumption | with_reducible rfl | decide)) rfl ?_ ?_ ?_); rfl; rfl) | (refine l_neq ?_; (refine qaa (OpW.neqStrT rfl rfl (by first | assumption | with_reducible rfl | decide)) rfl ?_ ?_ ?_); rfl; rfl) | (refine l_not ?_; (refine qaa (OpW.not rfl) rfl ?_ ?_ ?_); rfl; rfl) | (refine qaR ?_; (refine qaa (qax rfl rfl rfl) rfl ?_ ?_ ?_); rfl; rfl) | (refine qaP ?_; (refine qaa (OpW.extract rfl rfl) rfl ?_ ?_ ?_); rfl; rfl) | (refine qaT ?_; refine SXl.alloc ?_ ?_ (fun g => ?_); rfl; rfl) | (refine qaD ?_; first | ((first | refine qad 0 ?_ rfl rfl rfl rfl rfl rfl rfl ?_ | refine qad 1 ?_ rfl rfl rfl rfl rfl rfl rfl ?_ | refine qad 2 ?_ rfl rfl rfl rfl rfl rfl rfl ?_); rfl; simp only [List.set_cons_zero, List.set_cons_succ]) | ((first | refine qac 0 ?_ rfl rfl rfl rfl rfl rfl rfl ?_ | refine qac 1 ?_ rfl rfl rfl rfl rfl rfl rfl ?_ | refine qac 2 ?_ rfl rfl rfl rfl rfl rfl rfl ?_); rfl; simp only [over, List.set_cons_zero, List.set_cons_succ])) | (rw [beq_self_eq_true]) | refine qav ?_)
      refine qaC rfl rfl (fun w' hl => ⟨rfl, hl.mod⟩)
    · have h0 := hs590
      repeat (first | refine qap ?_ | refine qak ?_ | refine qaf ?_ | refine qab ?_ | (refine SXl.no rfl rfl rfl ?_) | (refine qaF ?_; (first | refine qaa (qaq 7 rfl rfl rfl) rfl ?_ ?_ ?_ | refine qaa (qaq 6 rfl rfl rfl) rfl ?_ ?_ ?_ | refine qaa (qaq 5 rfl rfl rfl) rfl ?_ ?_ ?_ | refine qaa (qaq 0 rfl rfl rfl) rfl ?_ ?_ ?_ | refine qaa (qaq 1 rfl rfl rfl) rfl ?_ ?_ ?_ | refine qaa (qaq 2 rfl rfl rfl) rfl ?_ ?_ ?_ | refine qaa (qaq 3 rfl rfl rfl) rfl ?_ ?_ ?_); rfl; rfl) | (refine qaA ?_; (first | refine qaa (qal rfl (fun w hl => hsA _ _ (own_rules hl (.tail _ (.head _))))) rfl ?_ ?_ ?_ | refine qaa (qal (args := [.agg (y.row r0.a r0.c).toArray, .agg (y.row xa xc).toArray]) rfl (fun w hl => lsameAct_same y _ _ _ _ _ _ _ (by omega) (own_in hl (.tail _ (.tail _ (.tail _ (.tail _ (.tail _ (.head _)))))) (fun _ => rfl) (by decide)) (own_rules hl (.tail _ (.head _))))) rfl ?_ ?_ ?_ | refine qaa (qal (args := [.agg (z.row r2.a r2.c).toArray, .agg (z.row r3.a r3.c).toArray]) rfl (fun w hl => lsameAct_same z _ _ _ _ _ _ _ (by omega) (own_in hl (.tail _ (.tail _ (.tail _ (.head _)))) (fun _ => rfl) (by decide)) (own_in hl (.tail _ (.tail _ (.head _))) (fun _ => rfl) (by decide)))) rfl ?_ ?_ ?_ | refine qaa (qal rfl (fun w hl => hsX _ _ (own_rules hl (.head _)))) rfl ?_ ?_ ?_ | refine qaa (qal (args := [.agg #[.slice r4.a us.length r4.c], .agg #[.slice r5.a us.length r5.c]]) rfl (fun w hl => sameTable_same us _ _ _ _ _ _ _ (by omega) (own_in hl (.tail _ (.head _)) (fun _ => rfl) (by decide)) (own_in hl (.head _) (fun _ => rfl) (by decide)))) rfl ?_ ?_ ?_ | refine qaa (qal (args := [.agg (addOnly.row none 0).toArray]) rfl (fun w hl => hAdd _ (hz.keep hl.mod) (ht.keep hl.mod))) rfl ?_ ?_ ?_); rfl; rfl) | (refine qaO ?_; (refine qaa ((qaz (vals := [(0, .int .i64 1)]) (cells := addOnly.row none 0) rfl (by kernel_rfl))) rfl ?_ ?_ ?_); rfl; rfl) | (refine qau ?_; (refine qaa (qaj rfl) rfl ?_ ?_ ?_); rfl; rfl) | (refine qai ?_; (refine qaa (qae rfl) rfl ?_ ?_ ?_); rfl; rfl) | (refine qaK ?_; (first | refine qaa (OpW.eqlb rfl rfl) rfl ?_ ?_ ?_ | refine qaa (qaB rfl rfl (by first | assumption | with_reducible rfl | decide)) rfl ?_ ?_ ?_); rfl; rfl) | (refine l_neq ?_; (first | refine qaa (OpW.neqStrT rfl rfl (by first | assumption | with_reducible rfl | decide)) rfl ?_ ?_ ?_ | refine qaa (OpW.neqStrF rfl rfl (by first | assumption | with_reducible rfl | decide)) rfl ?_ ?_ ?_); rfl; rfl) | (refine l_not ?_; (refine qaa (OpW.not rfl) rfl ?_ ?_ ?_); rfl; rfl) | (refine qaR ?_; (refine qaa (qax rfl rfl rfl) rfl ?_ ?_ ?_); rfl; rfl) | (refine qaP ?_; (refine qaa (OpW.extract rfl rfl) rfl ?_ ?_ ?_); rfl; rfl) | (refine qaT ?_; refine SXl.alloc ?_ ?_ (fun g => ?_); rfl; rfl) | (refine qaD ?_; first | ((first | refine qad 0 ?_ rfl rfl rfl rfl rfl rfl rfl ?_ | refine qad 1 ?_ rfl rfl rfl rfl rfl rfl rfl ?_ | refine qad 2 ?_ rfl rfl rfl rfl rfl rfl rfl ?_); rfl; simp only [List.set_cons_zero, List.set_cons_succ]) | ((first | refine qac 0 ?_ rfl rfl rfl rfl rfl rfl rfl ?_ | refine qac 1 ?_ rfl rfl rfl rfl rfl rfl rfl ?_ | refine qac 2 ?_ rfl rfl rfl rfl rfl rfl rfl ?_); rfl; simp only [over, List.set_cons_zero, List.set_cons_succ])) | (rw [beq_self_eq_true]) | refine qav ?_)
      refine qaC rfl rfl (fun w' hl => ⟨rfl, hl.mod⟩)
  · rcases hgood2 with ⟨rfl, hml, hne2⟩ | ⟨rfl, rfl, rfl⟩
    · subst hml
      repeat (first | refine qap ?_ | refine qak ?_ | refine qaf ?_ | refine qab ?_ | (refine SXl.no rfl rfl rfl ?_) | (refine qaF ?_; (first | refine qaa (qaq 7 rfl rfl rfl) rfl ?_ ?_ ?_ | refine qaa (qaq 5 rfl rfl rfl) rfl ?_ ?_ ?_ | refine qaa (qaq 4 rfl rfl rfl) rfl ?_ ?_ ?_ | refine qaa (qaq 0 rfl rfl rfl) rfl ?_ ?_ ?_ | refine qaa (qaq 1 rfl rfl rfl) rfl ?_ ?_ ?_ | refine qaa (qaq 2 rfl rfl rfl) rfl ?_ ?_ ?_ | refine qaa (qaq 3 rfl rfl rfl) rfl ?_ ?_ ?_); rfl; rfl) | (refine qaA ?_; (first | refine qaa (qal rfl (fun w hl => hsA _ _ (own_rules hl (.tail _ (.head _))))) rfl ?_ ?_ ?_ | refine qaa (qal (args := [.agg #[.slice r1.a m.length r1.c], .agg #[.slice la m.length lc]]) rfl (fun w hl => sameTable_same m _ _ _ _ _ _ _ (by omega) (own_in hl (.tail _ (.tail _ (.tail _ (.tail _ (.head _))))) (fun _ => rfl) (by decide)) (own_rules hl (.head _)))) rfl ?_ ?_ ?_ | refine qaa (qal (args := [.agg (z.row r2.a r2.c).toArray, .agg (z.row r3.a r3.c).toArray]) rfl (fun w hl => lsameAct_same z _ _ _ _ _ _ _ (by omega) (own_in hl (.tail _ (.tail _ (.tail _ (.head _)))) (fun _ => rfl) (by decide)) (own_in hl (.tail _ (.tail _ (.head _))) (fun _ => rfl) (by decide)))) rfl ?_ ?_ ?_ | refine qaa (qal rfl (fun w hl => hsX _ _ (own_rules hl (.head _)))) rfl ?_ ?_ ?_ | refine qaa (qal (args := [.agg #[.slice r4.a us.length r4.c], .agg #[.slice r5.a us.length r5.c]]) rfl (fun w hl => sameTable_same us _ _ _ _ _ _ _ (by omega) (own_in hl (.tail _ (.head _)) (fun _ => rfl) (by decide)) (own_in hl (.head _) (fun _ => rfl) (by decide)))) rfl ?_ ?_ ?_ | refine qaa (qal (args := [.agg (addOnly.row none 0).toArray]) rfl (fun w hl => hAdd _ (hz.keep hl.mod) (ht.keep hl.mod))) rfl ?_ ?_ ?_); rfl; rfl) | (refine qaO ?_; (refine qaa ((qaz (vals := [(0, .int .i64 1)]) (cells := addOnly.row none 0) rfl (by kernel_rfl))) rfl ?_ ?_ ?_); rfl; rfl) | (refine qau ?_; (refine qaa (qaj rfl) rfl ?_ ?_ ?_); rfl; rfl) | (refine qai ?_; (refine qaa (qae rfl) rfl ?_ ?_ ?_); rfl; rfl) | (refine qaK ?_; (first | refine qaa (OpW.eqlb rfl rfl) rfl ?_ ?_ ?_ | refine qaa (qaB rfl rfl (by first | assumption | with_reducible rfl | decide)) rfl ?_ ?_ ?_); rfl; rfl) | (refine l_neq ?_; (first | refine qaa (OpW.neqStrT rfl rfl (by first | assumption | with_reducible rfl | decide)) rfl ?_ ?_ ?_ | refine qaa (OpW.neqStrF rfl rfl (by first | assumption | with_reducible rfl | decide)) rfl ?_ ?_ ?_); rfl; rfl) | (refine l_not ?_; (refine qaa (OpW.not rfl) rfl ?_ ?_ ?_); rfl; rfl) | (refine qaR ?_; (refine qaa (qax rfl rfl rfl) rfl ?_ ?_ ?_); rfl; rfl) | (refine qaP ?_; (refine qaa (OpW.extract rfl rfl) rfl ?_ ?_ ?_); rfl; rfl) | (refine qaT ?_; refine SXl.alloc ?_ ?_ (fun g => ?_); rfl; rfl) | (refine qaD ?_; first | ((first | refine qad 0 ?_ rfl rfl rfl rfl rfl rfl rfl ?_ | refine qad 1 ?_ rfl rfl rfl rfl rfl rfl rfl ?_ | refine qad 2 ?_ rfl rfl rfl rfl rfl rfl rfl ?_); rfl; simp only [List.set_cons_zero, List.set_cons_succ]) | ((first | refine qac 0 ?_ rfl rfl rfl rfl rfl rfl rfl ?_ | refine qac 1 ?_ rfl rfl rfl rfl rfl rfl rfl ?_ | refine qac 2 ?_ rfl rfl rfl rfl rfl rfl rfl ?_); rfl; simp only [over, List.set_cons_zero, List.set_cons_succ])) | (rw [beq_self_eq_true]) | refine qav ?_)
      refine qaC rfl rfl (fun w' hl => ⟨rfl, hl.mod⟩)
    · have h0 := hs590
      repeat (first | refine qap ?_ | refine qak ?_ | refine qaf ?_ | refine qab ?_ | (refine SXl.no rfl rfl rfl ?_) | (refine qaF ?_; (first | refine qaa (qaq 7 rfl rfl rfl) rfl ?_ ?_ ?_ | refine qaa (qaq 5 rfl rfl rfl) rfl ?_ ?_ ?_ | refine qaa (qaq 0 rfl rfl rfl) rfl ?_ ?_ ?_ | refine qaa (qaq 1 rfl rfl rfl) rfl ?_ ?_ ?_ | refine qaa (qaq 2 rfl rfl rfl) rfl ?_ ?_ ?_ | refine qaa (qaq 3 rfl rfl rfl) rfl ?_ ?_ ?_); rfl; rfl) | (refine qaA ?_; (first | refine qaa (qal rfl (fun w hl => hsA _ _ (own_rules hl (.tail _ (.head _))))) rfl ?_ ?_ ?_ | refine qaa (qal (args := [.agg (z.row r2.a r2.c).toArray, .agg (z.row r3.a r3.c).toArray]) rfl (fun w hl => lsameAct_same z _ _ _ _ _ _ _ (by omega) (own_in hl (.tail _ (.tail _ (.tail _ (.head _)))) (fun _ => rfl) (by decide)) (own_in hl (.tail _ (.tail _ (.head _))) (fun _ => rfl) (by decide)))) rfl ?_ ?_ ?_ | refine qaa (qal rfl (fun w hl => hsX _ _ (own_rules hl (.head _)))) rfl ?_ ?_ ?_ | refine qaa (qal (args := [.agg #[.slice r4.a us.length r4.c], .agg #[.slice r5.a us.length r5.c]]) rfl (fun w hl => sameTable_same us _ _ _ _ _ _ _ (by omega) (own_in hl (.tail _ (.head _)) (fun _ => rfl) (by decide)) (own_in hl (.head _) (fun _ => rfl) (by decide)))) rfl ?_ ?_ ?_ | refine qaa (qal (args := [.agg (addOnly.row none 0).toArray]) rfl (fun w hl => hAdd _ (hz.keep hl.mod) (ht.keep hl.mod))) rfl ?_ ?_ ?_); rfl; rfl) | (refine qaO ?_; (refine qaa ((qaz (vals := [(0, .int .i64 1)]) (cells := addOnly.row none 0) rfl (by kernel_rfl))) rfl ?_ ?_ ?_); rfl; rfl) | (refine qau ?_; (refine qaa (qaj rfl) rfl ?_ ?_ ?_); rfl; rfl) | (refine qai ?_; (refine qaa (qae rfl) rfl ?_ ?_ ?_); rfl; rfl) | (refine qaK ?_; (first | refine qaa (OpW.eqlb rfl rfl) rfl ?_ ?_ ?_ | refine qaa (qaB rfl rfl (by first | assumption | with_reducible rfl | decide)) rfl ?_ ?_ ?_); rfl; rfl) | (refine l_neq ?_; (refine qaa (OpW.neqStrF rfl rfl (by first | assumption | with_reducible rfl | decide)) rfl ?_ ?_ ?_); rfl; rfl) | (refine l_not ?_; (refine qaa (OpW.not rfl) rfl ?_ ?_ ?_); rfl; rfl) | (refine qaR ?_; (refine qaa (qax rfl rfl rfl) rfl ?_ ?_ ?_); rfl; rfl) | (refine qaP ?_; (refine qaa (OpW.extract rfl rfl) rfl ?_ ?_ ?_); rfl; rfl) | (refine qaT ?_; refine SXl.alloc ?_ ?_ (fun g => ?_); rfl; rfl) | (refine qaD ?_; first | ((first | refine qad 0 ?_ rfl rfl rfl rfl rfl rfl rfl ?_ | refine qad 1 ?_ rfl rfl rfl rfl rfl rfl rfl ?_ | refine qad 2 ?_ rfl rfl rfl rfl rfl rfl rfl ?_); rfl; simp only [List.set_cons_zero, List.set_cons_succ]) | ((first | refine qac 0 ?_ rfl rfl rfl rfl rfl rfl rfl ?_ | refine qac 1 ?_ rfl rfl rfl rfl rfl rfl rfl ?_ | refine qac 2 ?_ rfl rfl rfl rfl rfl rfl rfl ?_); rfl; simp only [over, List.set_cons_zero, List.set_cons_succ])) | (rw [beq_self_eq_true]) | refine qav ?_)
      refine qaC rfl rfl (fun w' hl => ⟨rfl, hl.mod⟩)

/-! ### The row's frame (the kit's PinupProofs, turned) -/
namespace fnLinesBack
open Go.ChangeShapes Go.WideShapes Go.ChangeAt Go.RowKit
set_option linter.unusedVariables false

theorem own : ownKnob Tryz.prog.godebug = none := by kernel_rfl
theorem laidOut : laidOutB Tryz.prog = true := by kernel_rfl
theorem tab {W : World} (h : laidMetH Tryz.prog Rows.fnLinesBackRow.laid W) : Tab W := by
  rw [MakeChecks.laidMetH_plain _ _ _ (by kernel_rfl)] at h
  exact Lib.tabIs_of_head (rest := _) tab_global tab_type Tryz.underlying152 Tryz.underlying141 (by kernel_rfl) (by kernel_rfl) h.tail.tail
theorem syn {W : World} (h : laidMetH Tryz.prog Rows.fnLinesBackRow.laid W) : Syn W := by
  rw [MakeChecks.laidMetH_plain _ _ _ (by kernel_rfl)] at h
  obtain ⟨a, s, hv, _⟩ := laid_sentinel (h.tail.tail.tail.tail.tail) syn_global syn_type Tryz.underlying94 syn_row Tryz.underlying163 Tryz.underlying165 rfl rfl Tryz.underlying9 syn_cells syn_cell
  exact ⟨_, _, hv⟩

set_option maxRecDepth 100000 in
theorem lifted (os : Os) (started : os.Started) (H : Type) (enc : TypeId × Value → H) (F : Stop.Interp) :
    ReturnsInHanded {} Tryz.checked os 4 .any ((OpenSpec.ofChange Rows.fnLinesBackSpec).preRow enc Tryz.prog Tryz.f4 Rows.fnLinesBackRow.domain false Rows.fnLinesBackRow.laid) (((OpenSpec.ofChange Rows.fnLinesBackSpec).at F).post enc Tryz.prog Tryz.f4 false true false false) := by
  refine returnsInHanded_of_row (C := Tryz.checked) (s := OpenSpec.ofChange Rows.fnLinesBackSpec) own started (by kernel_rfl) Tryz.func4
    (ChangeSpec.witness_shaped (enc := enc) (C := Tryz.checked) (os := os) (s := Rows.fnLinesBackSpec) (X := fun w _ => laidMetH Tryz.prog Rows.fnLinesBackRow.laid w) false (World.laidAll Tryz.prog os Rows.fnLinesBackRow.laid) #[.slice none 0 0] 8 (World.laidAll_os _ _ _)
      (World.shaped_of_ZipB (by kernel_rfl) (by kernel_rfl)) (by kernel_rfl) (by kernel_rfl) (by kernel_rfl)
      (by rw [MakeChecks.laidMetH_plain _ _ _ (by kernel_rfl)]; exact laidMet_laidAll _ (by kernel_rfl) (by kernel_rfl))) ?_
  intro W base args ds gs before hval0 hW _ _ _ hL hsh _
  have hval : ∀ (j : Nat) t v, Tryz.f4.params[j]? = some t → args[j]? = some v → Value.okWide Tryz.prog W .any base t v := hval0
  have hW' := hW
  obtain ⟨p, q, hA0, hV, rfl, hfz, hnd⟩ := hW
  have hA : DataW.TrodAll enc Tryz.prog W 0 (fun _ => true) true Tryz.f4.params.toList args.toList ds p := hA0
  rw [Tryz.params4] at hA hval
  obtain ⟨v0, vs0, d0, ds0, p0, q0, hargs, rfl, rfl, h0, r0⟩ := trodAll_cons hA
  obtain ⟨rfl, rfl, rfl⟩ := trodAll_nil r0
  obtain rfl : args = #[v0] := by cases args; simp_all
  obtain ⟨rfl, rfl⟩ := trodVars_none hV
  have k0 := h0
  have lt0 : ∀ x ∈ p0, x.block < W.heap.size := by obtain ⟨m, hm⟩ := k0; exact DataW.trod_lt m _ _ _ hm
  obtain ⟨a0, len0, cap0, rfl⟩ := okWide_slice Tryz.underlying34 (hval 0 34 v0 rfl rfl)
  have rd0 : Rd Tryz.prog W 34 [.slice a0 len0 cap0] := by obtain ⟨m, hm⟩ := k0; exact ⟨H, enc, m, _, hm⟩
  clear hA0 hval0
  refine (fnLinesBack_walk W a0 len0 cap0 rd0 (tab hL) (syn hL) hsh).mono fun e W' ⟨he, hm⟩ => ?_
  have bel := hm.below (Nat.le_refl _) fun _ _ h => h
  subst he
  exact ⟨_, rfl, _, _, _, [], _, [], hW', trodAll_mk1 (shut_bool Tryz.underlying4 _), (trodAll_cons_mk (Below.trod laidOut (by kernel_rfl) (of_decide_eq_true (by kernel_rfl)) k0 bel lt0) trodAll_mk0), rfl, bel.frame _, fun h => by cases h⟩

theorem over : Rows.fnLinesBackRow.holds Tryz.pinned (OpenSpec.ofChange Rows.fnLinesBackSpec) :=
  OpenClaim.holds_of_wide 4 Tryz.f4 rfl rfl rfl rfl rfl rfl rfl ⟨rfl, rfl, rfl, rfl, rfl⟩ rfl rfl rfl rfl rfl (by kernel_rfl) Tryz.func4 (by kernel_rfl)
    (of_decide_eq_true (by kernel_rfl)) (by unfold Func.isWrapper; first | (rw [if_pos (by decide +kernel)]; kernel_rfl) | (rw [if_neg (by decide +kernel)]; exact ⟨rfl, rfl⟩))
    (fun os started H enc _ => by rw [OpenClaim.pre_eq_preRow]; exact lifted os started H enc (fun _ _ _ => 0))
theorem plain (f : FuncId) (fn : Func) (hf : Tryz.pinned.checked.prog.funcNamed "loop.example/g00972/laws.FnLinesBack" = some f) (hfn : Tryz.pinned.checked.prog.funcs[f]? = some fn) :
    true = Tryz.pinned.checked.prog.looks [] ∧ ∀ (j : Nat) t, fn.params[j]? = some t → Tryz.pinned.checked.prog.wantsStandIn t = false := by
  obtain rfl : f = 4 := Option.some.inj ((show Tryz.prog.funcNamed "loop.example/g00972/laws.FnLinesBack" = some 4 by kernel_rfl).symm.trans hf) |>.symm
  obtain rfl : fn = Tryz.f4 := (Option.some.inj (Tryz.func4.symm.trans hfn)).symm
  refine ⟨by kernel_rfl, fun j t ht => ?_⟩
  rw [Tryz.params4] at ht
  have hm : t ∈ [34] := by simpa using Array.mem_of_getElem? ht
  have hall : ([34].all fun u => !Tryz.prog.wantsStandIn u) = true := by kernel_rfl
  exact (show Tryz.prog.wantsStandIn t = false by simpa using List.all_eq_true.1 hall t hm)

theorem proved : Rows.FnLinesBackCardSaid :=
  Claim7.holds_tied_plain_at .later [] [.data, .data, .data, .data, .sentinel, .sentinel, .pinned] true (true, "28d5735352a7697cacea057b6224bc520114b56e1b527af47e9a73e46310c3ea") true over (fun _ h => by cases h) (by kernel_rfl) (fun _ h => by cases h) fnLinesBack_row_tie rfl ⟨rfl, rfl⟩ (by kernel_rfl) rfl plain (by kernel_rfl)
#print axioms proved
end fnLinesBack


end Go.Proofs.YtkkjjhooamlljaaGreatDoor
