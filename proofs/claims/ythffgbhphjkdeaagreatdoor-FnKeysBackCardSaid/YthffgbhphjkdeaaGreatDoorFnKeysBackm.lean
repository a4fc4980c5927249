/-
  PROVED: for every list of bytes the law FnKeysBack returns true. Condition: the library's tables and its syntax error, which the row lists, lie as the library's text lays them (tied).
-/
import Derived.Test.YthffgbhphjkdeaaGreatDoorMDd
set_option linter.unusedVariables false
set_option linter.unusedSimpArgs false
namespace Go.Proofs.YthffgbhphjkdeaaGreatDoor
open Go.RowKit
set_option linter.unusedVariables false
set_option linter.unusedSimpArgs false

theorem readVal_i64 (t : List UInt8) : I64 (readVal t).1.n := by
  have h0 : I64 0 := by constructor <;> decide
  have hv : ∀ v : Val, valOk v = true → I64 v.n := fun v h => by
    simp only [valOk] at h
    split at h
    · rw [of_decide_eq_true h]; exact h0
    · split at h
      · simp [inB] at h; constructor <;> omega
      · split at h
        · simp [inB] at h; constructor <;> omega
        · cases h
  have hp : ∀ k d, I64 (readPt k d).1.n := fun k d => by
    unfold readPt
    split
    · rename_i h; simp only [Bool.and_eq_true] at h; exact hv _ h.2
    · exact h0
  unfold readVal
  split
  · exact h0
  · split
    · exact h0
    · split <;> exact hp _ _
/-- The style after k keys. -/
def backTo (s : Style) (k : Nat) : Style := (keyTexts.take k).foldl (putKey s) newStyle
theorem backTo_succ {s : Style} {k : Nat} {x : List UInt8} (h : keyTexts[k]? = some x) : backTo s (k + 1) = putKey s (backTo s k) x := by
  unfold backTo
  rw [List.take_add_one, h, List.foldl_append]; rfl
theorem key_has {x : List UInt8} (s : Style) (h : x ∈ keyTexts) : (keyOf s x).2 = true := by
  have hall : ∀ x ∈ keyTexts, (idxOf intTexts x).isSome ∨ (idxOf valueTexts x).isSome := by decide +kernel
  unfold keyOf
  rcases hall x h with h | h
  · obtain ⟨i, hi⟩ := Option.isSome_iff_exists.1 h
    rw [hi]
  · obtain ⟨i, hi⟩ := Option.isSome_iff_exists.1 h
    cases idxOf intTexts x with
    | some j => rfl
    | none => rw [hi]
theorem setInt_idem (o : Style) (i : Nat) (n : Int) : setInt (setInt o i n) i n = setInt o i n := by
  match i with
  | 0 | 1 | 2 | 3 | 4 | 5 | 6 | 7 | 8 | 9 | 10 | 11 | 12 | 13 | 14 | 15 | 16 | 17 | 18 | 19 | 20 | 21 => rfl
  | k + 22 => rfl
theorem putInt_idem (o : Style) (i : Nat) (n : Int) : putInt (putInt o i n) i n = putInt o i n := by
  unfold putInt
  split
  · rfl
  · split
    · rfl
    · exact setInt_idem o i n
theorem setVal_idem (o : Style) (i : Nat) (v : Val) : setVal (setVal o i v) i v = setVal o i v := by
  match i with
  | 0 | 1 | 2 | 3 | 4 | 5 | 6 | 7 | 8 | 9 | 10 | 11 | 12 | 13 | 14 | 15 | 16 | 17 | 18 => rfl
  | k + 19 => rfl
theorem putKey_idem (s o : Style) (x : List UInt8) : putKey s (putKey s o x) x = putKey s o x := by
  unfold putKey
  split
  · exact putInt_idem _ _ _
  · split
    · exact setVal_idem _ _ _
    · rfl
theorem backTo_ok {s : Style} (hs : styleOk s = true) : ∀ k, k ≤ 41 → styleOk (backTo s k) = true
  | 0, _ => by show styleOk newStyle = true; decide
  | k + 1, h => by
    obtain ⟨x, hx, _⟩ := key_at (show k < 41 by omega)
    rw [backTo_succ hx]
    exact (putKey_ok (key_has s (List.mem_of_getElem? hx)) hs (backTo_ok hs k (by omega))).2.1
set_option maxRecDepth 100000 in
set_option maxHeartbeats 8000000 in
theorem fnKeysBack_walk (w : World) (a : Option Addr) (len cap : Nat) (rd : Rd Tryz.prog w 22 [.slice a len cap]) (ht : Tab w) (hsyn : Syn w) (hsh : w.ShapedOpen Tryz.prog) :
    Calls Tryz.prog 3 #[.slice a len cap] w fun e w' => e = .returned (.bool true) ∧ Mod (fun _ => False) w w' := by
  have hz := num0 hsh
  obtain ⟨hm, hy⟩ := bytes_of_rd rd
  clear hsh rd
  refine calls_sx Tryz.func3 rfl rfl (fun a h1 h2 h3 => ((Fr.nil h1 h2).arg (h3 0 _ rfl))) ?_
  by_cases hb : 1048576 < len
  · repeat (first | refine SX.seq ?_ | refine SXl.nil ?_ | refine SX.region ?_ | refine SQ.thenNormal ?_ | refine SX.condT rfl ?_ | (refine l_call ?_; (refine SXl.v (OpW.call rfl (fun w hl => bigT a cap hm hb _)) rfl ?_ ?_ ?_); rfl; rfl) | (refine l_move ?_; (refine SXl.v (OpW.move rfl) rfl ?_ ?_ ?_); rfl; rfl) | (refine l_assign ?_; (refine SXl.v (OpW.assign rfl) rfl ?_ ?_ ?_); rfl; rfl) | refine SX.ret ?_ | refine SQ.thenRet ?_)
    refine SQ.body1 rfl rfl (fun w' hl => ⟨rfl, hl.mod⟩)
  have hlen : len ≤ 1048576 := by omega
  repeat (first | refine SX.seq ?_ | refine SXl.nil ?_ | refine SX.region ?_ | refine SQ.thenNormal ?_ | refine SX.skip ?_ | refine SX.condF rfl ?_ | (refine l_call ?_; (refine SXl.v (OpW.call rfl (fun w hl => bigF a cap hm hb _)) rfl ?_ ?_ ?_); rfl; rfl) | (refine l_move ?_; (refine SXl.v (OpW.move rfl) rfl ?_ ?_ ?_); rfl; rfl) | (refine l_assign ?_; (refine SXl.v (OpW.assign rfl) rfl ?_ ?_ ?_); rfl; rfl))
  refine l_call ?_
  refine SXl.calln1 (v := fun x : Style => .agg x.cells.toArray) (F1 := fun x => factRes (AllOk x.cells)) rfl rfl rfl (fun w' hl => (drawStyleLines_d a len cap w' hlen (bytes_loc hy (fun _ _ f => f) hl)).mono fun e w2 ⟨s, h1, h2, h5⟩ => ⟨s, h1, ⟨h2, fun _ f => f.elim⟩, h5⟩) (fun s => SXl.fact fun hs => ?_)
  have hso : ∀ w, Calls Tryz.prog 6 #[.agg s.cells.toArray] w fun e w' => e = .returned (.bool (styleOk s)) ∧ Mod (fun _ => False) w w' := fun w => sstyleOk_any s w
  cases hok : styleOk s
  · rw [hok] at hso
    have hr := fun w h h' => readValue_any [53, 37] (by decide) w h h'
    have he : valText ⟨2, 5⟩ = [53, 37] := by rw [valText_pt (.inr ⟨rfl, rfl⟩), if_pos (by decide), show (5 : Int) = ((5 : Nat) : Int) from rfl, itoa_nat, Lib.decDigits]; rfl
    rw [show readVal [53, 37] = (⟨2, 5⟩, true) from by rw [← he]; exact readVal_back (by decide)] at hr
    have hsv := val_same ⟨2, 5⟩
    repeat (first | refine SX.seq ?_ | refine SXl.nil ?_ | refine SX.region ?_ | refine SQ.thenNormal ?_ | refine SX.condT rfl ?_ | (refine l_call ?_; (first | refine SXl.v (OpW.call rfl (fun w hl => hso _)) rfl ?_ ?_ ?_ | refine SXl.v (OpW.call rfl (fun w hl => hr _ (ht.keep hl.mod) (hsyn.keep hl.mod))) rfl ?_ ?_ ?_); rfl; rfl) | (refine l_load ?_; (refine SXl.v (OpW.loadAll 0 rfl rfl rfl) rfl ?_ ?_ ?_); rfl; rfl) | (refine l_move ?_; (refine SXl.v (OpW.move rfl) rfl ?_ ?_ ?_); rfl; rfl) | (refine l_assign ?_; (refine SXl.v (OpW.assign rfl) rfl ?_ ?_ ?_); rfl; rfl) | (refine l_build ?_; (refine SXl.v (OpW.build rfl rfl) rfl ?_ ?_ ?_); rfl; rfl) | (refine l_eql ?_; (refine SXl.v (OpW.eqlS rfl rfl rfl rfl) rfl ?_ ?_ ?_); rfl; rfl) | (refine l_not ?_; (refine SXl.v (OpW.not rfl) rfl ?_ ?_ ?_); rfl; rfl) | (refine l_pick ?_; (refine SXl.v (OpW.pick rfl rfl rfl) rfl ?_ ?_ ?_); rfl; rfl) | (refine l_extract ?_; (refine SXl.v (OpW.extract rfl rfl) rfl ?_ ?_ ?_); rfl; rfl) | (refine l_alloc ?_; refine SXl.alloc ?_ ?_ (fun g => ?_); rfl; rfl) | (refine l_store ?_; first | (refine SXl.storeAll 0 ?_ rfl rfl rfl rfl rfl rfl rfl ?_; rfl; simp only [List.set_cons_zero, List.set_cons_succ]) | (refine SXl.storeAll 1 ?_ rfl rfl rfl rfl rfl rfl rfl ?_; rfl; simp only [List.set_cons_zero, List.set_cons_succ]) | (refine SXl.storeAll 2 ?_ rfl rfl rfl rfl rfl rfl rfl ?_; rfl; simp only [List.set_cons_zero, List.set_cons_succ]) | (refine SXl.storeRow 0 ?_ rfl rfl rfl rfl rfl rfl rfl ?_; rfl; simp only [over, List.set_cons_zero, List.set_cons_succ]) | (refine SXl.storeRow 1 ?_ rfl rfl rfl rfl rfl rfl rfl ?_; rfl; simp only [over, List.set_cons_zero, List.set_cons_succ]) | (refine SXl.storeRow 2 ?_ rfl rfl rfl rfl rfl rfl rfl ?_; rfl; simp only [over, List.set_cons_zero, List.set_cons_succ])) | refine SX.ret ?_ | refine SQ.thenRet ?_)
    refine SQ.body1 rfl rfl (fun w' hl => ⟨rfl, hl.mod⟩)
  rw [hok] at hso
  repeat (first | refine SX.seq ?_ | refine SXl.nil ?_ | refine SX.region ?_ | refine SQ.thenNormal ?_ | refine SX.skip ?_ | refine SX.condF rfl ?_ | (refine l_call ?_; (refine SXl.v (OpW.call rfl (fun w hl => hso _)) rfl ?_ ?_ ?_); rfl; rfl) | (refine l_load ?_; (refine SXl.v (OpW.loadAll 0 rfl rfl rfl) rfl ?_ ?_ ?_); rfl; rfl) | (refine l_not ?_; (refine SXl.v (OpW.not rfl) rfl ?_ ?_ ?_); rfl; rfl) | (refine l_alloc ?_; refine SXl.alloc ?_ ?_ (fun g => ?_); rfl; rfl) | (refine l_store ?_; first | (refine SXl.storeAll 0 ?_ rfl rfl rfl rfl rfl rfl rfl ?_; rfl; simp only [List.set_cons_zero, List.set_cons_succ]) | (refine SXl.storeAll 1 ?_ rfl rfl rfl rfl rfl rfl rfl ?_; rfl; simp only [List.set_cons_zero, List.set_cons_succ]) | (refine SXl.storeAll 2 ?_ rfl rfl rfl rfl rfl rfl rfl ?_; rfl; simp only [List.set_cons_zero, List.set_cons_succ]) | (refine SXl.storeRow 0 ?_ rfl rfl rfl rfl rfl rfl rfl ?_; rfl; simp only [over, List.set_cons_zero, List.set_cons_succ]) | (refine SXl.storeRow 1 ?_ rfl rfl rfl rfl rfl rfl rfl ?_; rfl; simp only [over, List.set_cons_zero, List.set_cons_succ]) | (refine SXl.storeRow 2 ?_ rfl rfl rfl rfl rfl rfl rfl ?_; rfl; simp only [over, List.set_cons_zero, List.set_cons_succ])))
  refine l_call ?_
  refine SXl.calln1 rfl rfl rfl (fun w hl => keyNames_new _ (hz.keep hl.mod)) (fun p => ?_)
  repeat (first | refine SX.seq ?_ | refine SXl.nil ?_ | refine SX.region ?_ | refine SQ.thenNormal ?_ | refine SX.block ?_ | (refine l_call ?_; (refine SXl.v (OpW.call rfl (fun w hl => styleNew_any _)) rfl ?_ ?_ ?_); rfl; rfl) | (refine l_assign ?_; (refine SXl.v (OpW.assign rfl) rfl ?_ ?_ ?_); rfl; rfl) | (refine l_alloc ?_; refine SXl.alloc ?_ ?_ (fun g => ?_); rfl; rfl) | (refine l_store ?_; first | (refine SXl.storeAll 0 ?_ rfl rfl rfl rfl rfl rfl rfl ?_; rfl; simp only [List.set_cons_zero, List.set_cons_succ]) | (refine SXl.storeAll 1 ?_ rfl rfl rfl rfl rfl rfl rfl ?_; rfl; simp only [List.set_cons_zero, List.set_cons_succ]) | (refine SXl.storeAll 2 ?_ rfl rfl rfl rfl rfl rfl rfl ?_; rfl; simp only [List.set_cons_zero, List.set_cons_succ]) | (refine SXl.storeRow 0 ?_ rfl rfl rfl rfl rfl rfl rfl ?_; rfl; simp only [over, List.set_cons_zero, List.set_cons_succ]) | (refine SXl.storeRow 1 ?_ rfl rfl rfl rfl rfl rfl rfl ?_; rfl; simp only [over, List.set_cons_zero, List.set_cons_succ]) | (refine SXl.storeRow 2 ?_ rfl rfl rfl rfl rfl rfl rfl ?_; rfl; simp only [over, List.set_cons_zero, List.set_cons_succ])))
  rename_i g3
  revert g; intro g7
  refine SX.loopi (fun k : Nat => k ≤ 41) (fun k => 41 - k) (fun k => [⟨g7, (backTo s k).cells, 31⟩, ⟨g3, s.cells, 31⟩]) (fun _ => []) (fun _ => [keysRes p]) (fun k => [(0, .slice a len cap), (2, .bool false), (3, .pointer (some ⟨g3, 0, none⟩)), (6, .slice (some ⟨p.1, 0, none⟩) 41 p.2), (7, .pointer (some ⟨g7, 0, none⟩)), (8, .int .i64 k)]) 0 (Nat.zero_le _) ?_ (fun _ hl => hl) ?_
  · (repeat (first | exact subF_nil _ | (refine subF_cons rfl ?_) | (refine subF_consv rfl (by rfl) ?_)))
  intro k hk
  by_cases hlt : k < 41
  · obtain ⟨x, hx, hxl⟩ := key_at hlt
    have hcell : ∀ w, (keysRes p).says w → w.cell? ⟨p.1, 0 + k, none⟩ = some (.string ⟨x.toArray⟩) := fun w h => by rw [Nat.zero_add]; exact h.h k x hx
    have hxm := List.mem_of_getElem? hx
    obtain ⟨hset, hok2, hval⟩ := putKey_ok (key_has s hxm) hok (backTo_ok hok k hk)
    obtain ⟨hset2, _, _⟩ := putKey_ok (key_has s hxm) hok hok2
    rw [← backTo_succ hx] at hset hset2
    have hidem : putKey s (backTo s (k + 1)) x = backTo s (k + 1) := by rw [backTo_succ hx]; exact putKey_idem s _ x
    rw [hidem] at hset2
    have hi64 := keyOf_i64 (i64_of_all hs) x
    obtain ⟨v, hv⟩ : ∃ v, keyOf s x = (v, true) := ⟨_, Prod.ext rfl (key_has s hxm)⟩
    rw [hv] at hset hset2 hval hi64
    have hK := fun w h => keyOf_any s x w h
    simp only [hv] at hK
    have hR := fun w h h' => readValue_any (valText v) (by have := valText_short v hi64; omega) w h h'
    rw [readVal_back hval] at hR
    have hS := fun w h => setKey_any (backTo s k) x v w h
    have hS2 := fun w h => setKey_any (backTo s (k + 1)) x v w h
    simp only [hset] at hS
    simp only [hset2] at hS2
    have hvs := val_same v
    repeat (first | refine SX.seq ?_ | refine SXl.nil ?_ | refine SX.region ?_ | refine SQ.thenNormal ?_ | refine SX.block ?_ | refine SX.skip ?_ | refine SX.condT rfl ?_ | (refine l_move ?_; (refine SXl.v (OpW.move rfl) rfl ?_ ?_ ?_); rfl; rfl) | (refine l_len ?_; (refine SXl.v (OpW.len rfl) rfl ?_ ?_ ?_); rfl; rfl) | (refine l_lss ?_; (refine SXl.v (OpW.lssT rfl rfl (by omega)) rfl ?_ ?_ ?_); rfl; rfl))
    refine SX.drawnQ 25 [.int .i64 0, .int .i64 0] v.cells (by kernel_rfl) (by kernel_rfl) (fun B hf => ?_)
    repeat (first | (refine SXq.alloc hf (fun _ => rfl) rfl ?_) | (refine SXq.v (fun _ => (OpW.loadRes (F := keysRes p) List.mem_cons_self rfl hcell)) rfl (fun _ => rfl) rfl ?_) | (refine SXq.v (fun _ => (OpW.loadAll 1 rfl rfl rfl)) rfl (fun _ => rfl) rfl ?_) | (refine SXq.v (fun _ => (OpW.call rfl (fun w hl => hK _ (hz.keep hl.mod)))) rfl (fun _ => rfl) rfl ?_) | (refine SXq.v (fun _ => (OpW.move rfl)) rfl (fun _ => rfl) rfl ?_) | (refine SXq.v (fun _ => (OpW.extract rfl rfl)) rfl (fun _ => rfl) rfl ?_) | (refine SXq.v (fun _ => (OpW.indexAddr1 (by omega) rfl rfl)) rfl (fun _ => rfl) rfl ?_))
    refine SXq.store 9 hf (by kernel_rfl) List.mem_cons_self (fun _ => rfl) (fun _ => rfl) (fun _ => rfl) rfl rfl rfl ?_
    repeat ((refine SXq.v (fun _ => (OpW.assign rfl)) rfl (fun _ => rfl) rfl ?_))
    refine SXq.nil 9 10 hf (.tail _ (.head _)) (.head _) (fun xq => ?_)
    generalize gOf (xq 9) = g9
    repeat (first | refine SX.seq ?_ | refine SXl.nil ?_ | refine SX.region ?_ | refine SQ.thenNormal ?_ | refine SX.skip ?_ | refine SX.condF rfl ?_ | (refine l_call ?_; (first | refine SXl.v (OpW.call rfl (fun w hl => valueText_any v hi64 _ (ht.keep hl.mod))) rfl ?_ ?_ ?_ | refine SXl.v (OpW.call rfl (fun w hl => hR _ (ht.keep hl.mod) (hsyn.keep hl.mod))) rfl ?_ ?_ ?_); rfl; rfl) | (refine l_load ?_; (first | refine SXl.v (OpW.loadAll 0 rfl rfl rfl) rfl ?_ ?_ ?_ | refine SXl.v (OpW.loadAll 1 rfl rfl rfl) rfl ?_ ?_ ?_); rfl; rfl) | (refine l_move ?_; (refine SXl.v (OpW.move rfl) rfl ?_ ?_ ?_); rfl; rfl) | (refine l_assign ?_; (refine SXl.v (OpW.assign rfl) rfl ?_ ?_ ?_); rfl; rfl) | (refine l_neq ?_; (refine SXl.v (OpW.neqS rfl rfl rfl rfl) rfl ?_ ?_ ?_); rfl; rfl) | (refine l_not ?_; (refine SXl.v (OpW.not rfl) rfl ?_ ?_ ?_); rfl; rfl) | (refine l_pick ?_; (refine SXl.v (OpW.pick rfl rfl rfl) rfl ?_ ?_ ?_); rfl; rfl) | (refine l_extract ?_; (refine SXl.v (OpW.extract rfl rfl) rfl ?_ ?_ ?_); rfl; rfl) | (refine l_alloc ?_; refine SXl.alloc ?_ ?_ (fun g => ?_); rfl; rfl) | (refine l_store ?_; first | (refine SXl.storeAll 0 ?_ rfl rfl rfl rfl rfl rfl rfl ?_; rfl; simp only [List.set_cons_zero, List.set_cons_succ]) | (refine SXl.storeAll 1 ?_ rfl rfl rfl rfl rfl rfl rfl ?_; rfl; simp only [List.set_cons_zero, List.set_cons_succ]) | (refine SXl.storeAll 2 ?_ rfl rfl rfl rfl rfl rfl rfl ?_; rfl; simp only [List.set_cons_zero, List.set_cons_succ]) | (refine SXl.storeRow 0 ?_ rfl rfl rfl rfl rfl rfl rfl ?_; rfl; simp only [over, List.set_cons_zero, List.set_cons_succ]) | (refine SXl.storeRow 1 ?_ rfl rfl rfl rfl rfl rfl rfl ?_; rfl; simp only [over, List.set_cons_zero, List.set_cons_succ]) | (refine SXl.storeRow 2 ?_ rfl rfl rfl rfl rfl rfl rfl ?_; rfl; simp only [over, List.set_cons_zero, List.set_cons_succ])) | (rw [hvs]))
    refine SX.drawnY 2 (backTo s (k + 1)).cells rfl rfl (by kernel_rfl) (by kernel_rfl) (fun hf => ?_)
    refine SXy.load (fun _ => rfl) rfl (fun _ => rfl) rfl rfl ?_
    repeat (first | (refine SXy.v (fun _ => (OpW.loadRes (F := keysRes p) List.mem_cons_self rfl hcell)) rfl (fun _ => rfl) rfl ?_) | (refine SXy.v (fun _ => (OpW.loadAll 0 rfl rfl rfl)) rfl (fun _ => rfl) rfl ?_) | (refine SXy.v (fun _ => (OpW.move rfl)) rfl (fun _ => rfl) rfl ?_) | (refine SXy.v (fun _ => (OpW.indexAddr1 (by omega) rfl rfl)) rfl (fun _ => rfl) rfl ?_))
    refine SXy.call (v := .tuple #[.agg (backTo s (k + 1)).cells.toArray, .bool true]) 0 rfl (fun _ => rfl) rfl (fun _ => rfl) (fun y w hl hu => ?_) ?_
    · rcases hu _ List.mem_cons_self rfl with h0 | h0
      · rw [h0]; exact hS _ (hz.keep hl.mod)
      · rw [h0]; exact hS2 _ (hz.keep hl.mod)
    repeat (first | (refine SXy.storeRow hf (fun _ => rfl) (fun _ => rfl) (fun _ => rfl) rfl rfl rfl rfl ?_) | (refine SXy.v (fun _ => (OpW.move rfl)) rfl (fun _ => rfl) rfl ?_) | (refine SXy.v (fun _ => (OpW.assign rfl)) rfl (fun _ => rfl) rfl ?_) | (refine SXy.v (fun _ => (OpW.extract rfl rfl)) rfl (fun _ => rfl) rfl ?_))
    refine SXy.nil 10 hf (.head _) (fun _ => ?_)
    repeat (first | refine SX.seq ?_ | refine SXl.nil ?_ | refine SX.region ?_ | refine SQ.thenNormal ?_ | refine SX.skip ?_ | refine SX.condF rfl ?_ | (refine l_move ?_; (refine SXl.v (OpW.move rfl) rfl ?_ ?_ ?_); rfl; rfl) | (refine l_assign ?_; (refine SXl.v (OpW.assign rfl) rfl ?_ ?_ ?_); rfl; rfl) | (refine l_add ?_; (refine SXl.v (OpW.succ rfl rfl (by omega)) rfl ?_ ?_ ?_); rfl; rfl) | (refine l_not ?_; (refine SXl.v (OpW.not rfl) rfl ?_ ?_ ?_); rfl; rfl) | refine SQ.blockNormal ?_)
    refine SQ.roundi (k + 1) (by omega) (by omega) ?_ (fun w hl => (hl.erase (i := 1)).erase (i := 1))
    (repeat (first | exact subF_nil _ | (refine subF_cons rfl ?_) | (refine subF_consv rfl (by rfl) ?_)))
  · have hk' : k = 41 := by omega
    subst hk'
    have hall : backTo s 41 = s := putAll s
    rw [hall]
    repeat (first | refine SX.seq ?_ | refine SXl.nil ?_ | refine SX.region ?_ | refine SQ.thenNormal ?_ | refine SX.condF rfl ?_ | (refine l_move ?_; (refine SXl.v (OpW.move rfl) rfl ?_ ?_ ?_); rfl; rfl) | (refine l_len ?_; (refine SXl.v (OpW.len rfl) rfl ?_ ?_ ?_); rfl; rfl) | (refine l_lss ?_; (refine SXl.v (OpW.lssF rfl rfl (by omega)) rfl ?_ ?_ ?_); rfl; rfl) | refine SX.exit ?_ | refine SQ.thenExit ?_ | refine SQ.blockExit ?_)
    refine l_call ?_
    refine SXl.calln1 (v := fun t : List UInt8 => .string ⟨t.toArray⟩) (F1 := fun t => factRes (t.length ≤ 24)) rfl rfl rfl (fun w' hl => (drawReadValue_d a len cap w' hlen (bytes_loc hy (fun _ _ f => f) hl)).mono fun e w2 ⟨t, h1, h2, h5⟩ => ⟨t, h1, ⟨h2, fun _ f => f.elim⟩, h5⟩) (fun t => SXl.fact fun htl => ?_)
    have hi64 := readVal_i64 t
    have hR := fun w h h' => readValue_any t (by omega) w h h'
    have hR2 := fun w => sreadValue_any t (by omega) w
    have hT : (readVal t).2 = true → valText (readVal t).1 = t := valText_back
    obtain ⟨v, b, hvb⟩ : ∃ v b, readVal t = (v, b) := ⟨_, _, rfl⟩
    rw [hvb] at hR2 hT hi64
    simp only [hvb] at hR
    simp only at hi64 hT
    have hvs := val_same v
    have hss := style_same s
    cases b
    · repeat (first | refine SX.seq ?_ | refine SXl.nil ?_ | refine SX.region ?_ | refine SQ.thenNormal ?_ | (refine SXl.no rfl rfl rfl ?_) | (refine l_call ?_; (first | refine SXl.v (OpW.call rfl (fun w hl => hR _ (ht.keep hl.mod) (hsyn.keep hl.mod))) rfl ?_ ?_ ?_ | refine SXl.v (OpW.call rfl (fun w hl => hR2 _)) rfl ?_ ?_ ?_); rfl; rfl) | (refine l_load ?_; (first | refine SXl.v (OpW.loadAll 0 rfl rfl rfl) rfl ?_ ?_ ?_ | refine SXl.v (OpW.loadAll 1 rfl rfl rfl) rfl ?_ ?_ ?_ | refine SXl.v (OpW.loadAll 2 rfl rfl rfl) rfl ?_ ?_ ?_ | refine SXl.v (OpW.loadAll 3 rfl rfl rfl) rfl ?_ ?_ ?_); rfl; rfl) | (refine l_move ?_; (refine SXl.v (OpW.move rfl) rfl ?_ ?_ ?_); rfl; rfl) | (refine l_assign ?_; (refine SXl.v (OpW.assign rfl) rfl ?_ ?_ ?_); rfl; rfl) | (refine l_eql ?_; (first | refine SXl.v (OpW.eqlb rfl rfl) rfl ?_ ?_ ?_ | refine SXl.v (OpW.eqlS rfl rfl rfl rfl) rfl ?_ ?_ ?_); rfl; rfl) | (refine l_not ?_; (refine SXl.v (OpW.not rfl) rfl ?_ ?_ ?_); rfl; rfl) | (refine l_pick ?_; (refine SXl.v (OpW.pick rfl rfl rfl) rfl ?_ ?_ ?_); rfl; rfl) | (refine l_extract ?_; (refine SXl.v (OpW.extract rfl rfl) rfl ?_ ?_ ?_); rfl; rfl) | (refine l_alloc ?_; refine SXl.alloc ?_ ?_ (fun g => ?_); rfl; rfl) | (refine l_store ?_; first | (refine SXl.storeAll 0 ?_ rfl rfl rfl rfl rfl rfl rfl ?_; rfl; simp only [List.set_cons_zero, List.set_cons_succ]) | (refine SXl.storeAll 1 ?_ rfl rfl rfl rfl rfl rfl rfl ?_; rfl; simp only [List.set_cons_zero, List.set_cons_succ]) | (refine SXl.storeAll 2 ?_ rfl rfl rfl rfl rfl rfl rfl ?_; rfl; simp only [List.set_cons_zero, List.set_cons_succ]) | (refine SXl.storeRow 0 ?_ rfl rfl rfl rfl rfl rfl rfl ?_; rfl; simp only [over, List.set_cons_zero, List.set_cons_succ]) | (refine SXl.storeRow 1 ?_ rfl rfl rfl rfl rfl rfl rfl ?_; rfl; simp only [over, List.set_cons_zero, List.set_cons_succ]) | (refine SXl.storeRow 2 ?_ rfl rfl rfl rfl rfl rfl rfl ?_; rfl; simp only [over, List.set_cons_zero, List.set_cons_succ])) | (rw [hvs]) | (rw [hss]) | (rw [beq_self_eq_true]) | refine SX.ret ?_)
      refine SQ.body1 rfl rfl (fun w' hl => ⟨rfl, hl.mod⟩)
    · have hT2 := hT rfl
      repeat (first | refine SX.seq ?_ | refine SXl.nil ?_ | refine SX.region ?_ | refine SQ.thenNormal ?_ | (refine l_call ?_; (first | refine SXl.v (OpW.call rfl (fun w hl => hR _ (ht.keep hl.mod) (hsyn.keep hl.mod))) rfl ?_ ?_ ?_ | refine SXl.v (OpW.call rfl (fun w hl => hR2 _)) rfl ?_ ?_ ?_ | refine SXl.v (OpW.call rfl (fun w hl => valueText_any v hi64 _ (ht.keep hl.mod))) rfl ?_ ?_ ?_); rfl; rfl) | (refine l_eql ?_; (first | refine SXl.v ((OpW.eqlStrT rfl rfl hT2)) rfl ?_ ?_ ?_ | refine SXl.v (OpW.eqlb rfl rfl) rfl ?_ ?_ ?_ | refine SXl.v (OpW.eqlS rfl rfl rfl rfl) rfl ?_ ?_ ?_); rfl; rfl) | (refine l_load ?_; (first | refine SXl.v (OpW.loadAll 0 rfl rfl rfl) rfl ?_ ?_ ?_ | refine SXl.v (OpW.loadAll 1 rfl rfl rfl) rfl ?_ ?_ ?_ | refine SXl.v (OpW.loadAll 2 rfl rfl rfl) rfl ?_ ?_ ?_ | refine SXl.v (OpW.loadAll 3 rfl rfl rfl) rfl ?_ ?_ ?_); rfl; rfl) | (refine l_move ?_; (refine SXl.v (OpW.move rfl) rfl ?_ ?_ ?_); rfl; rfl) | (refine l_assign ?_; (refine SXl.v (OpW.assign rfl) rfl ?_ ?_ ?_); rfl; rfl) | (refine l_not ?_; (refine SXl.v (OpW.not rfl) rfl ?_ ?_ ?_); rfl; rfl) | (refine l_pick ?_; (refine SXl.v (OpW.pick rfl rfl rfl) rfl ?_ ?_ ?_); rfl; rfl) | (refine l_extract ?_; (refine SXl.v (OpW.extract rfl rfl) rfl ?_ ?_ ?_); rfl; rfl) | (refine l_alloc ?_; refine SXl.alloc ?_ ?_ (fun g => ?_); rfl; rfl) | (refine l_store ?_; first | (refine SXl.storeAll 0 ?_ rfl rfl rfl rfl rfl rfl rfl ?_; rfl; simp only [List.set_cons_zero, List.set_cons_succ]) | (refine SXl.storeAll 1 ?_ rfl rfl rfl rfl rfl rfl rfl ?_; rfl; simp only [List.set_cons_zero, List.set_cons_succ]) | (refine SXl.storeAll 2 ?_ rfl rfl rfl rfl rfl rfl rfl ?_; rfl; simp only [List.set_cons_zero, List.set_cons_succ]) | (refine SXl.storeRow 0 ?_ rfl rfl rfl rfl rfl rfl rfl ?_; rfl; simp only [over, List.set_cons_zero, List.set_cons_succ]) | (refine SXl.storeRow 1 ?_ rfl rfl rfl rfl rfl rfl rfl ?_; rfl; simp only [over, List.set_cons_zero, List.set_cons_succ]) | (refine SXl.storeRow 2 ?_ rfl rfl rfl rfl rfl rfl rfl ?_; rfl; simp only [over, List.set_cons_zero, List.set_cons_succ])) | (rw [hvs]) | (rw [hss]) | (rw [beq_self_eq_true]) | refine SX.ret ?_)
      refine SQ.body1 rfl rfl (fun w' hl => ⟨rfl, hl.mod⟩)

/-! ### The row's frame (the kit's PinupProofs, turned) -/
namespace fnKeysBack
open Go.ChangeShapes Go.WideShapes Go.ChangeAt Go.RowKit
set_option linter.unusedVariables false

theorem own : ownKnob Tryz.prog.godebug = none := by kernel_rfl
theorem laidOut : laidOutB Tryz.prog = true := by kernel_rfl
theorem tab {W : World} (h : laidMetH Tryz.prog Rows.fnKeysBackRow.laid W) : Tab W := by
  rw [MakeChecks.laidMetH_plain _ _ _ (by kernel_rfl)] at h
  exact Lib.tabIs_of_head (rest := _) tab_global tab_type Tryz.underlying121 Tryz.underlying97 (by kernel_rfl) (by kernel_rfl) h.tail.tail
theorem syn {W : World} (h : laidMetH Tryz.prog Rows.fnKeysBackRow.laid W) : Syn W := by
  rw [MakeChecks.laidMetH_plain _ _ _ (by kernel_rfl)] at h
  obtain ⟨a, s, hv, _⟩ := laid_sentinel (h.tail.tail.tail.tail.tail) syn_global syn_type Tryz.underlying77 syn_row Tryz.underlying116 Tryz.underlying118 rfl rfl Tryz.underlying9 syn_cells syn_cell
  exact ⟨_, _, hv⟩

set_option maxRecDepth 100000 in
theorem lifted (os : Os) (started : os.Started) (H : Type) (enc : TypeId × Value → H) (F : Stop.Interp) :
    ReturnsInHanded {} Tryz.checked os 3 .any ((OpenSpec.ofChange Rows.fnKeysBackSpec).preRow enc Tryz.prog Tryz.f3 Rows.fnKeysBackRow.domain false Rows.fnKeysBackRow.laid) (((OpenSpec.ofChange Rows.fnKeysBackSpec).at F).post enc Tryz.prog Tryz.f3 false true false false) := by
  refine returnsInHanded_of_row (C := Tryz.checked) (s := OpenSpec.ofChange Rows.fnKeysBackSpec) own started (by kernel_rfl) Tryz.func3
    (ChangeSpec.witness_shaped (enc := enc) (C := Tryz.checked) (os := os) (s := Rows.fnKeysBackSpec) (X := fun w _ => laidMetH Tryz.prog Rows.fnKeysBackRow.laid w) false (World.laidAll Tryz.prog os Rows.fnKeysBackRow.laid) #[.slice none 0 0] 8 (World.laidAll_os _ _ _)
      (World.shaped_of_ZipB (by kernel_rfl) (by kernel_rfl)) (by kernel_rfl) (by kernel_rfl) (by kernel_rfl)
      (by rw [MakeChecks.laidMetH_plain _ _ _ (by kernel_rfl)]; exact laidMet_laidAll _ (by kernel_rfl) (by kernel_rfl))) ?_
  intro W base args ds gs before hval0 hW _ _ _ hL hsh _
  have hval : ∀ (j : Nat) t v, Tryz.f3.params[j]? = some t → args[j]? = some v → Value.okWide Tryz.prog W .any base t v := hval0
  have hW' := hW
  obtain ⟨p, q, hA0, hV, rfl, hfz, hnd⟩ := hW
  have hA : DataW.TrodAll enc Tryz.prog W 0 (fun _ => true) true Tryz.f3.params.toList args.toList ds p := hA0
  rw [Tryz.params3] at hA hval
  obtain ⟨v0, vs0, d0, ds0, p0, q0, hargs, rfl, rfl, h0, r0⟩ := trodAll_cons hA
  obtain ⟨rfl, rfl, rfl⟩ := trodAll_nil r0
  obtain rfl : args = #[v0] := by cases args; simp_all
  obtain ⟨rfl, rfl⟩ := trodVars_none hV
  have k0 := h0
  have lt0 : ∀ x ∈ p0, x.block < W.heap.size := by obtain ⟨m, hm⟩ := k0; exact DataW.trod_lt m _ _ _ hm
  obtain ⟨a0, len0, cap0, rfl⟩ := okWide_slice Tryz.underlying22 (hval 0 22 v0 rfl rfl)
  have rd0 : Rd Tryz.prog W 22 [.slice a0 len0 cap0] := by obtain ⟨m, hm⟩ := k0; exact ⟨H, enc, m, _, hm⟩
  clear hA0 hval0
  refine (fnKeysBack_walk W a0 len0 cap0 rd0 (tab hL) (syn hL) hsh).mono fun e W' ⟨he, hm⟩ => ?_
  have bel := hm.below (Nat.le_refl _) fun _ _ h => h
  subst he
  exact ⟨_, rfl, _, _, _, [], _, [], hW', trodAll_mk1 (shut_bool Tryz.underlying4 _), (trodAll_cons_mk (Below.trod laidOut (by kernel_rfl) (of_decide_eq_true (by kernel_rfl)) k0 bel lt0) trodAll_mk0), rfl, bel.frame _, fun h => by cases h⟩

theorem over : Rows.fnKeysBackRow.holds Tryz.pinned (OpenSpec.ofChange Rows.fnKeysBackSpec) :=
  OpenClaim.holds_of_wide 3 Tryz.f3 rfl rfl rfl rfl rfl rfl rfl ⟨rfl, rfl, rfl, rfl, rfl⟩ rfl rfl rfl rfl rfl (by kernel_rfl) Tryz.func3 (by kernel_rfl)
    (of_decide_eq_true (by kernel_rfl)) (by unfold Func.isWrapper; first | (rw [if_pos (by decide +kernel)]; kernel_rfl) | (rw [if_neg (by decide +kernel)]; exact ⟨rfl, rfl⟩))
    (fun os started H enc _ => by rw [OpenClaim.pre_eq_preRow]; exact lifted os started H enc (fun _ _ _ => 0))
theorem plain (f : FuncId) (fn : Func) (hf : Tryz.pinned.checked.prog.funcNamed "loop.example/g00972/laws.FnKeysBack" = some f) (hfn : Tryz.pinned.checked.prog.funcs[f]? = some fn) :
    true = Tryz.pinned.checked.prog.looks [] ∧ ∀ (j : Nat) t, fn.params[j]? = some t → Tryz.pinned.checked.prog.wantsStandIn t = false := by
  obtain rfl : f = 3 := Option.some.inj ((show Tryz.prog.funcNamed "loop.example/g00972/laws.FnKeysBack" = some 3 by kernel_rfl).symm.trans hf) |>.symm
  obtain rfl : fn = Tryz.f3 := (Option.some.inj (Tryz.func3.symm.trans hfn)).symm
  refine ⟨by kernel_rfl, fun j t ht => ?_⟩
  rw [Tryz.params3] at ht
  have hm : t ∈ [22] := by simpa using Array.mem_of_getElem? ht
  have hall : ([22].all fun u => !Tryz.prog.wantsStandIn u) = true := by kernel_rfl
  exact (show Tryz.prog.wantsStandIn t = false by simpa using List.all_eq_true.1 hall t hm)

theorem proved : Rows.FnKeysBackCardSaid :=
  Claim7.holds_tied_plain_at .later [] [.data, .data, .data, .data, .sentinel, .sentinel, .pinned] true (true, "8eac551d0c4f638b2cc4a181d392cf29a8086d94bda84c217085d87343ba0cb2") true over (fun _ h => by cases h) (by kernel_rfl) (fun _ h => by cases h) fnKeysBack_row_tie rfl ⟨rfl, rfl⟩ (by kernel_rfl) rfl plain (by kernel_rfl)
#print axioms proved
end fnKeysBack


end Go.Proofs.YthffgbhphjkdeaaGreatDoor
