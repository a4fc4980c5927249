/-
  PROVED: AskedNodes: the program's and the reference's give the numbers of the nodes, each once, in order. No condition but a bound on the length.
-/
import Derived.Test.YtefgjjmnjanleaaAskedS
import Derived.Test.YtefgjjmnjanleaaAskedMath
import Derived.Test.YtefgjjmnjanleaaIntS
import Derived.Test.YtefgjjmnjanleaaAppend
import Derived.Test.YtefgjjmnjanleaaShelf
import Derived.Sort.OwnSortedInts
namespace Go.Proofs.Ytefgjjmnjanleaa
open Go.RowKit

def nodesOf (l : List Asked) : List Int := insAll (l.map (·.node))
theorem nodesOf_length (l : List Asked) : (nodesOf l).length ≤ l.length := by
  have h1 := uniq_length (l.map (·.node))
  have h2 := sort_uniq (l.map (·.node))
  unfold nodesOf
  rw [← h2, List.length_mergeSort]
  rwa [List.length_map] at h1
theorem node_at {l : List Asked} {k : Nat} {x : Asked} (h : Hid (l[k]? = some x)) : (l.map (·.node))[k]? = some x.node := by rw [List.getElem?_map, h.out]; rfl
theorem sorts_at {a : Option Addr} {n c : Nat} {w w0 : World} {d : List Int} (h : w.ownsRow w0.heap.size 3 1 (.slice a n c) n (d.map icell).flatten) (hn : n = d.length) (hd : n ≤ 1048576) (hm : Mod (fun _ => False) w0 w) :
    Calls Try.prog 114 #[.slice a n c] w fun e w' => e = .returned (.tuple #[]) ∧ w'.ownsRow w0.heap.size 3 1 (.slice a n c) n ((d.mergeSort fun x y => decide (x ≤ y)).map icell).flatten ∧ Mod (fun _ => False) w0 w' := by
  have hfl : ∀ l : List Int, (l.map icell).flatten = l.map (Value.int .i64) := by
    intro l
    induction l with
    | nil => rfl
    | cons x l ih => simp [icell, ih]
  subst hn
  by_cases h0 : d = []
  · subst h0
    refine (Try.sort_Ints_none a c w).mono ?_
    rintro e w' ⟨rfl, rfl⟩
    exact ⟨rfl, by simpa using h, hm⟩
  · have hpos : 0 < d.length := List.length_pos_iff.2 h0
    rcases h.2 with ⟨_, h2⟩ | ⟨g, cap, cur, hv, hg, hb, hnc, hcap, hsz, htake⟩
    · omega
    · injection hv with e1 e2 e3
      subst e1 e3
      rw [hfl, Nat.mul_one] at htake
      have hH := holds_of_blockI (ss := d) hb htake
      refine (Try.sort_Ints g 0 c d w hH (Array.getElem?_eq_some_iff.1 hb).1 (by omega)).mono ?_
      rintro e w' ⟨rfl, n, os, rfl⟩
      refine ⟨rfl, ?_, hm.grownBy (grownBy_sortedI _) fun k hk => ?_⟩
      · rw [hfl]
        exact ownsRow_sortedI (List.length_mergeSort _) hg hb hnc hcap hsz
      · simp only [Option.some.injEq] at hk
        omega

set_option maxRecDepth 100000 in
set_option maxHeartbeats 2000000 in
theorem askedNodes_any (l : List Asked) (a : Option Addr) (c : Nat) (R : Nat → Prop) (w : World) (hl : l.length ≤ 1048576) (h : SliceAt (Flat Asked.cells) 6 R w a l) :
    Calls Try.prog 65 #[.slice a l.length c] w (NewSlice 3 1 w (nodesOf l).length ((nodesOf l).map icell).flatten) := by
  have H := hid h
  clear h
  obtain ⟨i0, hi, hz0, hz1, hz2⟩ := info_parts info_ints
  have Hi := hid hi
  have Hz0 := hid hz0
  have Hz1 := hid hz1
  have Hz2 := hid hz2
  clear hi hz0 hz1 hz2
  go_enter Try.func65, Try.ntmps65
  go_wp2
  go_loopw [3, 8] (fun v i wr => ∃ (k : Nat) (a' : Option Addr) (c' : Nat), k ≤ l.length ∧ i = .int .i64 k ∧ v = .slice a' (uniq ((l.map (·.node)).take k)).length c' ∧ wr.ownsRow w.heap.size 3 1 (.slice a' (uniq ((l.map (·.node)).take k)).length c') (uniq ((l.map (·.node)).take k)).length ((uniq ((l.map (·.node)).take k)).map icell).flatten ∧ Mod (fun _ => False) w wr) (fun _ i _ => l.length - (intOf i).toNat)
  case atStart => exact ⟨0, none, 0, by omega, rfl, rfl, World.ownsRow_nil _ _ _ _, Mod.refl _ w⟩
  case round =>
    obtain ⟨k, a', c', hk, rfl, rfl, hO, hM⟩ := hrel
    have hFl : (uniq ((l.map (·.node)).take k)).length ≤ k := by
      have := uniq_length ((l.map (·.node)).take k)
      rw [List.length_take] at this
      omega
    by_cases hlt : k < l.length
    · obtain ⟨b, o, x, r, rfl, hb, hbw, hx, hr, hrl, hc⟩ := (H.out.flatKeep hM).get hlt
      obtain rfl : r = x.cells := hr
      have c0 := hc 0 _ rfl
      have c1 := hc 1 _ rfl
      have c2 := hc 2 _ rfl
      have c3 := hc 3 _ rfl
      have c4 := hc 4 _ rfl
      have c5 := hc 5 _ rfl
      simp only [Nat.add_zero] at c0
      clear hc hrl
      have He := hid (uniq_succ (node_at hx))
      generalize uniq ((l.map (·.node)).take k) = F at He hFl hO ⊢
      have hS := hid (own_slice (cells := icell) hO (fun _ => rfl) (by decide))
      have hh := fun W hm => hasInt_any F x.node a' c' _ W (by omega) (hS.out.flatKeep hm)
      clear hS
      have hX := heap_alloc_new wr (.cells [Value.int .i64 x.node, .int .i64 x.wide.mode, .int .i64 x.wide.n, .int .i64 x.high.mode, .int .i64 x.high.n, .bool x.rtl].toArray 115)
      by_cases hin : x.node ∈ F
      · rw [show uniqStep F x.node = F from if_pos hin] at He
        have hd : decide (x.node ∈ F) = true := decide_eq_true hin
        rw [hd] at hh
        clear hd hin
        go_wp2_with fail
        refine (hh _ ((Mod.refl _ wr).alloc _)).mono ?_
        rintro e w1 ⟨rfl, hm1⟩
        clear hh hX c0 c1 c2 c3 c4 c5
        have hM1 : Mod (fun _ => False) w w1 := (hM.alloc _).thenNone hm1
        have hO1 := own_mod (own_mod hO ((Mod.refl (fun _ => False) wr).alloc _) (fun _ _ f => f)) hm1 (fun _ _ f => f)
        go_wp2
        go_roundw
        case rel =>
          refine ⟨k + 1, a', c', by omega, by go_num, ?_, ?_, hM1⟩
          · rw [He.out]
          · rw [He.out]; exact hO1
        case measure => simp [intOf]; omega
      · rw [show uniqStep F x.node = F ++ [x.node] from if_neg hin] at He
        have hd : decide (x.node ∈ F) = false := decide_eq_false hin
        rw [hd] at hh
        clear hd hin
        go_wp2_with fail
        refine (hh _ ((Mod.refl _ wr).alloc _)).mono ?_
        rintro e w1 ⟨rfl, hm1⟩
        have hB1 := hm1.blk hX (fun f => f)
        have hr1 : wr.heap.size < w1.heap.size := (Array.getElem?_eq_some_iff.1 hB1).1
        have e0 := blk_cell hB1 (j := 0) rfl
        have hM1 : Mod (fun _ => False) w w1 := (hM.alloc _).thenNone hm1
        have hO1 := own_mod (own_mod hO ((Mod.refl (fun _ => False) wr).alloc _) (fun _ _ f => f)) hm1 (fun _ _ f => f)
        clear hh hX c0 c1 c2 c3 c4 c5 hB1 hm1 hO hM
        have h3 : F.length + 1 ≤ maxLen := by unfold maxLen; omega
        have h4 : (F.length + 1) * 8 ≤ 140737488355328 := by omega
        go_wp2_with (first | (at_builtin; refine wpList_append_own _ rfl _ _ 37 rfl w.heap.size 3 i0 _ 1 8 Try.underlying37 Hi.out Hz0.out Hz1.out Hz2.out rfl (by decide) _ _ _ rfl (hO1.alloc _) ⟨w1.heap.size, 0, none⟩ 1 1 [.int .i64 x.node] rfl rfl (cells_new _ _ _) (ones_of rfl) h3 h4 (own_room hM1 _) ?_))
        intro v' w9 hown1 hgrow _
        obtain ⟨a1, c1', hv⟩ := own_form hown1
        rw [hv] at hown1 ⊢
        have hM9 := hM1.appended hO1 (Nat.le_refl _) hgrow
        clear hv hgrow h3 h4
        go_wp2
        go_roundw
        case rel =>
          refine ⟨k + 1, a1, c1', by omega, by go_num, ?_, ?_, hM9⟩
          · rw [He.out, List.length_append]; rfl
          · rw [He.out, List.length_append, List.map_append, List.flatten_append]
            simpa [icell] using hown1
        case measure => simp [intOf]; omega
    · have hk' : k = l.length := by omega
      subst hk'
      have he := hid (sort_uniq (l.map (·.node)))
      have hN : Hid (nodesOf l = insAll (l.map (·.node))) := rfl
      rw [show (l.map (·.node)).take l.length = l.map (·.node) from by rw [← List.length_map (f := (·.node)), List.take_length]] at hO hFl ⊢
      generalize uniq (l.map (·.node)) = F at he hFl hO ⊢
      have hs := hid (sorts_at hO rfl (by omega) hM)
      clear hO hM H
      go_wp2_with fail
      refine hs.out.mono ?_
      rintro e w9 ⟨rfl, hO9, hM9⟩
      clear hs
      rw [he.out, ← hN.out] at hO9
      have hlen : F.length = (nodesOf l).length := by rw [hN.out, ← he.out, List.length_mergeSort]
      have Hlen := hid hlen
      clear he hN hlen
      go_wp2
      go_ret
      rw [← Hlen.out]
      exact ⟨a', c', rfl, hO9, hM9⟩

theorem insU_end {x : Int} {d : List Int} (h : ∀ y ∈ d, y < x) : insU x d = d ++ [x] := by
  induction d with
  | nil => rfl
  | cons y t ih =>
    unfold insU
    rw [if_pos (h y List.mem_cons_self), ih fun z hz => h z (List.mem_cons_of_mem _ hz)]
    rfl
theorem insU_here {x : Int} {d t : List Int} (h : ∀ y ∈ d, y < x) : insU x (d ++ x :: t) = d ++ x :: t := by
  induction d with
  | nil => simp [insU]
  | cons y s ih =>
    rw [List.cons_append]
    unfold insU
    rw [if_pos (h y List.mem_cons_self), ih fun z hz => h z (List.mem_cons_of_mem _ hz)]
theorem insU_before {x y : Int} {d t : List Int} (h : ∀ y ∈ d, y < x) (hy : x < y) : insU x (d ++ y :: t) = d ++ x :: y :: t := by
  induction d with
  | nil => simp only [List.nil_append]; unfold insU; rw [if_neg (by omega), if_neg (by omega)]
  | cons z s ih =>
    rw [List.cons_append]
    unfold insU
    rw [if_pos (h z List.mem_cons_self), ih fun z hz => h z (List.mem_cons_of_mem _ hz)]
    rfl

set_option maxRecDepth 100000 in
set_option maxHeartbeats 4000000 in
theorem saskedNodes_any (l : List Asked) (a : Option Addr) (c : Nat) (R : Nat → Prop) (w : World) (hl : l.length ≤ 1048576) (h : SliceAt (Flat Asked.cells) 6 R w a l) :
    Calls Try.prog 63 #[.slice a l.length c] w (NewSlice 3 1 w (nodesOf l).length ((nodesOf l).map icell).flatten) := by
  have H := hid h
  clear h
  obtain ⟨i0, hi, hz0, hz1, hz2⟩ := info_parts info_ints
  have Hi := hid hi
  have Hz0 := hid hz0
  have Hz1 := hid hz1
  have Hz2 := hid hz2
  clear hi hz0 hz1 hz2
  go_enter Try.func63, Try.ntmps63
  go_wp2
  go_loopw [3, 4] (fun v i wr => ∃ (k : Nat) (g n c' : Nat) (F : List Int), k ≤ l.length ∧ i = .int .i64 k ∧ Hid (nodesOf (l.take k) = F) ∧ Hid (n = F.length) ∧ v = .slice (some ⟨g, 0, none⟩) n c' ∧ wr.ownsRow w.heap.size 3 1 (.slice (some ⟨g, 0, none⟩) n c') n (F.map icell).flatten ∧ Mod (fun _ => False) w wr) (fun _ i _ => l.length - (intOf i).toNat)
  case atStart => exact ⟨0, _, 0, _, [], by omega, rfl, rfl, rfl, rfl, World.ownsRow_made w #[] 0 (Nat.le_refl _) (by unfold maxLen; omega) rfl, (Mod.refl _ w).alloc _⟩
  case round =>
    obtain ⟨k, g, n, c', F, hk, rfl, hF, hn, rfl, hO, hM⟩ := hrel
    have hFl : n ≤ k := by
      have := nodesOf_length (l.take k)
      rw [hF.out, List.length_take] at this
      have := hn.out
      omega
    have hnc : n ≤ c' := by
      rcases hO.2 with ⟨e, _⟩ | ⟨_, _, _, e, _, _, h, _⟩
      · cases e
      · injection e with _ _ e3; omega
    by_cases hlt : k < l.length
    · obtain ⟨x, hx⟩ : ∃ x, Hid (l[k]? = some x) := ⟨_, List.getElem?_eq_getElem hlt⟩
      have hF1 : Hid (nodesOf (l.take (k + 1)) = insU x.node F) := by
        have := insAll_succ (node_at hx)
        unfold nodesOf at hF ⊢
        rw [List.map_take, this, ← List.map_take, hF.out]
        exact hid rfl
      clear hF
      go_wp2
      go_loopw [5] (fun j ws => ∃ d1 d2 : List Int, F = d1 ++ d2 ∧ j = .int .i64 d1.length ∧ Hid (∀ y ∈ d1, y < x.node) ∧ Mod (fun _ => False) wr ws) (fun j _ => n - (intOf j).toNat)
      case atStart => exact ⟨[], F, rfl, rfl, hid (by simp), Mod.refl _ _⟩
      case round =>
        obtain ⟨d1, d2, rfl, rfl, hd1, hMs⟩ := hrel
        have hS := own_slice (cells := icell) (own_mod hO hMs (fun _ _ f => f)) (fun _ => rfl) (by decide)
        have hMw := hM.thenNone hMs
        obtain ⟨bx, ox, x', r, rfl, _, hbx, hx', hr, _, hc⟩ := (H.out.flatKeep hMw).get hlt
        obtain rfl : r = x'.cells := hr
        obtain rfl : x = x' := Option.some.inj (hx.out.symm.trans hx'.out)
        have c0 := hc 0 _ rfl
        rw [Nat.add_zero] at c0
        have q0 := hold c0
        clear hc c0 hx'
        have hL := hid hS.left
        have hRt0 := hS.right
        rw [Nat.zero_add, Nat.mul_one] at hRt0
        have hRt := hid hRt0
        clear hRt0
        clear hS
        rcases d2 with _ | ⟨y, d3⟩
        · obtain rfl : n = d1.length := by rw [hn.out, List.append_nil]
          have hlt0 : ¬ d1.length < d1.length := by omega
          go_wp2
          refine wp_region_mod (by kernel_rfl) (by kernel_rfl) ?_
          refine RM.const (v := ?_) (fun _ => rfl) (fun xq wq hSq => ?_) ?_; rotate_left; (focus (go_simp; (first | done | with_reducible rfl | ((split; (exfalso; omega)); with_reducible rfl)))); (try simp only [Act.put, List.setIfInBounds_toArray, List.set_cons_zero, List.set_cons_succ])
          refine RM.const (v := ?_) (fun _ => rfl) (fun xq wq hSq => ?_) ?_; rotate_left; (focus (go_simp; (first | done | with_reducible rfl | ((split; (exfalso; omega)); with_reducible rfl)))); (try simp only [Act.put, List.setIfInBounds_toArray, List.set_cons_zero, List.set_cons_succ])
          refine RM.const (v := ?_) (fun _ => rfl) (fun xq wq hSq => ?_) ?_; rotate_left; (focus (go_simp; (first | done | with_reducible rfl | ((split; (exfalso; omega)); with_reducible rfl)))); (try simp only [Act.put, List.setIfInBounds_toArray, List.set_cons_zero, List.set_cons_succ])
          refine RM.const (v := ?_) (fun _ => rfl) (fun xq wq hSq => ?_) ?_; rotate_left; (focus (go_simp; (first | done | with_reducible rfl | ((split; (exfalso; omega)); with_reducible rfl)))); (try simp only [Act.put, List.setIfInBounds_toArray, List.set_cons_zero, List.set_cons_succ])
          refine RM.const (v := ?_) (fun _ => rfl) (fun xq wq hSq => ?_) ?_; rotate_left; (focus (go_simp; (first | done | with_reducible rfl | ((split; (exfalso; omega)); with_reducible rfl)))); (try simp only [Act.put, List.setIfInBounds_toArray, List.set_cons_zero, List.set_cons_succ])
          first | (refine RM.skip (fun _ => rfl) ?_; (try simp only [Act.put, List.setIfInBounds_toArray, List.set_cons_zero, List.set_cons_succ])) | (refine RM.const (v := ?_) (fun _ => rfl) (fun xq wq hSq => ?_) ?_; rotate_left; (focus (go_simp; (first | done | with_reducible rfl | ((split; (exfalso; omega)); with_reducible rfl)))); (try simp only [Act.put, List.setIfInBounds_toArray, List.set_cons_zero, List.set_cons_succ]))
          first | (refine RM.skip (fun _ => rfl) ?_; (try simp only [Act.put, List.setIfInBounds_toArray, List.set_cons_zero, List.set_cons_succ])) | (refine RM.const (v := ?_) (fun _ => rfl) (fun xq wq hSq => ?_) ?_; rotate_left; (focus (go_simp; (first | done | with_reducible rfl | ((split; (exfalso; omega)); with_reducible rfl)))); (try simp only [Act.put, List.setIfInBounds_toArray, List.set_cons_zero, List.set_cons_succ]))
          first | (refine RM.skip (fun _ => rfl) ?_; (try simp only [Act.put, List.setIfInBounds_toArray, List.set_cons_zero, List.set_cons_succ])) | (refine RM.const (v := ?_) (fun _ => rfl) (fun xq wq hSq => ?_) ?_; rotate_left; (focus (go_simp; (first | done | with_reducible rfl | ((split; (exfalso; omega)); with_reducible rfl)))); (try simp only [Act.put, List.setIfInBounds_toArray, List.set_cons_zero, List.set_cons_succ]))
          first | (refine RM.skip (fun _ => rfl) ?_; (try simp only [Act.put, List.setIfInBounds_toArray, List.set_cons_zero, List.set_cons_succ])) | (refine RM.const (v := ?_) (fun _ => rfl) (fun xq wq hSq => ?_) ?_; rotate_left; (focus (go_simp; (first | done | with_reducible rfl | ((split; (exfalso; omega)); with_reducible rfl)))); (try simp only [Act.put, List.setIfInBounds_toArray, List.set_cons_zero, List.set_cons_succ]))
          first | (refine RM.skip (fun _ => rfl) ?_; (try simp only [Act.put, List.setIfInBounds_toArray, List.set_cons_zero, List.set_cons_succ])) | (refine RM.const (v := ?_) (fun _ => rfl) (fun xq wq hSq => ?_) ?_; rotate_left; (focus (go_simp; (first | done | with_reducible rfl | ((split; (exfalso; omega)); with_reducible rfl)))); (try simp only [Act.put, List.setIfInBounds_toArray, List.set_cons_zero, List.set_cons_succ]))
          first | (refine RM.skip (fun _ => rfl) ?_; (try simp only [Act.put, List.setIfInBounds_toArray, List.set_cons_zero, List.set_cons_succ])) | (refine RM.const (v := ?_) (fun _ => rfl) (fun xq wq hSq => ?_) ?_; rotate_left; (focus (go_simp; (first | done | with_reducible rfl | ((split; (exfalso; omega)); with_reducible rfl)))); (try simp only [Act.put, List.setIfInBounds_toArray, List.set_cons_zero, List.set_cons_succ]))
          first | (refine RM.skip (fun _ => rfl) ?_; (try simp only [Act.put, List.setIfInBounds_toArray, List.set_cons_zero, List.set_cons_succ])) | (refine RM.const (v := ?_) (fun _ => rfl) (fun xq wq hSq => ?_) ?_; rotate_left; (focus (go_simp; (first | done | with_reducible rfl | ((split; (exfalso; omega)); with_reducible rfl)))); (try simp only [Act.put, List.setIfInBounds_toArray, List.set_cons_zero, List.set_cons_succ]))
          first | (refine RM.skip (fun _ => rfl) ?_; (try simp only [Act.put, List.setIfInBounds_toArray, List.set_cons_zero, List.set_cons_succ])) | (refine RM.const (v := ?_) (fun _ => rfl) (fun xq wq hSq => ?_) ?_; rotate_left; (focus (go_simp; (first | done | with_reducible rfl | ((split; (exfalso; omega)); with_reducible rfl)))); (try simp only [Act.put, List.setIfInBounds_toArray, List.set_cons_zero, List.set_cons_succ]))
          first | (refine RM.skip (fun _ => rfl) ?_; (try simp only [Act.put, List.setIfInBounds_toArray, List.set_cons_zero, List.set_cons_succ])) | (refine RM.const (v := ?_) (fun _ => rfl) (fun xq wq hSq => ?_) ?_; rotate_left; (focus (go_simp; (first | done | with_reducible rfl | ((split; (exfalso; omega)); with_reducible rfl)))); (try simp only [Act.put, List.setIfInBounds_toArray, List.set_cons_zero, List.set_cons_succ]))
          first | (refine RM.skip (fun _ => rfl) ?_; (try simp only [Act.put, List.setIfInBounds_toArray, List.set_cons_zero, List.set_cons_succ])) | (refine RM.const (v := ?_) (fun _ => rfl) (fun xq wq hSq => ?_) ?_; rotate_left; (focus (go_simp; (first | done | with_reducible rfl | ((split; (exfalso; omega)); with_reducible rfl)))); (try simp only [Act.put, List.setIfInBounds_toArray, List.set_cons_zero, List.set_cons_succ]))
          refine RM.const (v := ?_) (fun _ => rfl) (fun xq wq hSq => ?_) ?_; rotate_left; (focus (go_simp; (first | done | with_reducible rfl | ((split; (exfalso; omega)); with_reducible rfl)))); (try simp only [Act.put, List.setIfInBounds_toArray, List.set_cons_zero, List.set_cons_succ])
          refine RM.done (fun xq wq hSq hUq => ?_)
          replace q0 := fun W (h : Kept _ W) => q0 W (Mod.trans hSq h)
          replace hL := hid (hL.out.flatKeep hSq)
          replace hRt := hid (hRt.out.flatKeep hSq)
          replace hMw := hMw.thenNone hSq
          clear hSq hUq
          go_wp2
          refine wp_region_mod (by kernel_rfl) (by kernel_rfl) ?_
          refine RM.const (v := ?_) (fun _ => rfl) (fun xq wq hSq => ?_) ?_; rotate_left; (focus (go_simp; (first | done | with_reducible rfl | ((split; (exfalso; omega)); with_reducible rfl)))); (try simp only [Act.put, List.setIfInBounds_toArray, List.set_cons_zero, List.set_cons_succ])
          refine RM.const (v := ?_) (fun _ => rfl) (fun xq wq hSq => ?_) ?_; rotate_left; (focus (go_simp; (first | done | with_reducible rfl | ((split; (exfalso; omega)); with_reducible rfl)))); (try simp only [Act.put, List.setIfInBounds_toArray, List.set_cons_zero, List.set_cons_succ])
          refine RM.const (v := ?_) (fun _ => rfl) (fun xq wq hSq => ?_) ?_; rotate_left; (focus (go_simp; (first | done | with_reducible rfl | ((split; (exfalso; omega)); with_reducible rfl)))); (try simp only [Act.put, List.setIfInBounds_toArray, List.set_cons_zero, List.set_cons_succ])
          refine RM.const (v := ?_) (fun _ => rfl) (fun xq wq hSq => ?_) ?_; rotate_left; (focus (go_simp; (first | done | with_reducible rfl | ((split; (exfalso; omega)); with_reducible rfl)))); (try simp only [Act.put, List.setIfInBounds_toArray, List.set_cons_zero, List.set_cons_succ])
          refine RM.const (v := ?_) (fun _ => rfl) (fun xq wq hSq => ?_) ?_; rotate_left; (focus (go_simp; (first | done | with_reducible rfl | ((split; (exfalso; omega)); with_reducible rfl)))); (try simp only [Act.put, List.setIfInBounds_toArray, List.set_cons_zero, List.set_cons_succ])
          first | (refine RM.skip (fun _ => rfl) ?_; (try simp only [Act.put, List.setIfInBounds_toArray, List.set_cons_zero, List.set_cons_succ])) | (refine RM.const (v := ?_) (fun _ => rfl) (fun xq wq hSq => ?_) ?_; rotate_left; (focus (go_simp; (first | done | with_reducible rfl | ((split; (exfalso; omega)); with_reducible rfl)))); (try simp only [Act.put, List.setIfInBounds_toArray, List.set_cons_zero, List.set_cons_succ]))
          first | (refine RM.skip (fun _ => rfl) ?_; (try simp only [Act.put, List.setIfInBounds_toArray, List.set_cons_zero, List.set_cons_succ])) | (refine RM.const (v := ?_) (fun _ => rfl) (fun xq wq hSq => ?_) ?_; rotate_left; (focus (go_simp; (first | done | with_reducible rfl | ((split; (exfalso; omega)); with_reducible rfl)))); (try simp only [Act.put, List.setIfInBounds_toArray, List.set_cons_zero, List.set_cons_succ]))
          first | (refine RM.skip (fun _ => rfl) ?_; (try simp only [Act.put, List.setIfInBounds_toArray, List.set_cons_zero, List.set_cons_succ])) | (refine RM.const (v := ?_) (fun _ => rfl) (fun xq wq hSq => ?_) ?_; rotate_left; (focus (go_simp; (first | done | with_reducible rfl | ((split; (exfalso; omega)); with_reducible rfl)))); (try simp only [Act.put, List.setIfInBounds_toArray, List.set_cons_zero, List.set_cons_succ]))
          first | (refine RM.skip (fun _ => rfl) ?_; (try simp only [Act.put, List.setIfInBounds_toArray, List.set_cons_zero, List.set_cons_succ])) | (refine RM.const (v := ?_) (fun _ => rfl) (fun xq wq hSq => ?_) ?_; rotate_left; (focus (go_simp; (first | done | with_reducible rfl | ((split; (exfalso; omega)); with_reducible rfl)))); (try simp only [Act.put, List.setIfInBounds_toArray, List.set_cons_zero, List.set_cons_succ]))
          first | (refine RM.skip (fun _ => rfl) ?_; (try simp only [Act.put, List.setIfInBounds_toArray, List.set_cons_zero, List.set_cons_succ])) | (refine RM.const (v := ?_) (fun _ => rfl) (fun xq wq hSq => ?_) ?_; rotate_left; (focus (go_simp; (first | done | with_reducible rfl | ((split; (exfalso; omega)); with_reducible rfl)))); (try simp only [Act.put, List.setIfInBounds_toArray, List.set_cons_zero, List.set_cons_succ]))
          first | (refine RM.skip (fun _ => rfl) ?_; (try simp only [Act.put, List.setIfInBounds_toArray, List.set_cons_zero, List.set_cons_succ])) | (refine RM.const (v := ?_) (fun _ => rfl) (fun xq wq hSq => ?_) ?_; rotate_left; (focus (go_simp; (first | done | with_reducible rfl | ((split; (exfalso; omega)); with_reducible rfl)))); (try simp only [Act.put, List.setIfInBounds_toArray, List.set_cons_zero, List.set_cons_succ]))
          first | (refine RM.skip (fun _ => rfl) ?_; (try simp only [Act.put, List.setIfInBounds_toArray, List.set_cons_zero, List.set_cons_succ])) | (refine RM.const (v := ?_) (fun _ => rfl) (fun xq wq hSq => ?_) ?_; rotate_left; (focus (go_simp; (first | done | with_reducible rfl | ((split; (exfalso; omega)); with_reducible rfl)))); (try simp only [Act.put, List.setIfInBounds_toArray, List.set_cons_zero, List.set_cons_succ]))
          first | (refine RM.skip (fun _ => rfl) ?_; (try simp only [Act.put, List.setIfInBounds_toArray, List.set_cons_zero, List.set_cons_succ])) | (refine RM.const (v := ?_) (fun _ => rfl) (fun xq wq hSq => ?_) ?_; rotate_left; (focus (go_simp; (first | done | with_reducible rfl | ((split; (exfalso; omega)); with_reducible rfl)))); (try simp only [Act.put, List.setIfInBounds_toArray, List.set_cons_zero, List.set_cons_succ]))
          first | (refine RM.skip (fun _ => rfl) ?_; (try simp only [Act.put, List.setIfInBounds_toArray, List.set_cons_zero, List.set_cons_succ])) | (refine RM.const (v := ?_) (fun _ => rfl) (fun xq wq hSq => ?_) ?_; rotate_left; (focus (go_simp; (first | done | with_reducible rfl | ((split; (exfalso; omega)); with_reducible rfl)))); (try simp only [Act.put, List.setIfInBounds_toArray, List.set_cons_zero, List.set_cons_succ]))
          first | (refine RM.skip (fun _ => rfl) ?_; (try simp only [Act.put, List.setIfInBounds_toArray, List.set_cons_zero, List.set_cons_succ])) | (refine RM.const (v := ?_) (fun _ => rfl) (fun xq wq hSq => ?_) ?_; rotate_left; (focus (go_simp; (first | done | with_reducible rfl | ((split; (exfalso; omega)); with_reducible rfl)))); (try simp only [Act.put, List.setIfInBounds_toArray, List.set_cons_zero, List.set_cons_succ]))
          refine RM.const (v := ?_) (fun _ => rfl) (fun xq wq hSq => ?_) ?_; rotate_left; (focus (go_simp; (first | done | with_reducible rfl | ((split; (exfalso; omega)); with_reducible rfl)))); (try simp only [Act.put, List.setIfInBounds_toArray, List.set_cons_zero, List.set_cons_succ])
          refine RM.done (fun xq wq hSq hUq => ?_)
          replace q0 := fun W (h : Kept _ W) => q0 W (Mod.trans hSq h)
          replace hL := hid (hL.out.flatKeep hSq)
          replace hRt := hid (hRt.out.flatKeep hSq)
          replace hMw := hMw.thenNone hSq
          clear hSq hUq
          go_wp2
          refine wp_region_mod_tail 11 (by kernel_rfl) (by kernel_rfl) (by kernel_rfl) ?_
          simp only [List.take_succ_cons, List.take_zero, List.drop_succ_cons, List.drop_zero]
          refine RM.lit (n := ?_) (vals := ?_) (e := ?_) (fun _ => rfl) (fun xq wq hSq => ?_) ?_; rotate_left 3; (focus (go_simp; (first | done | with_reducible rfl | (refine ⟨?_, ?_⟩ <;> with_reducible rfl)))); (try simp only [Act.put, List.setIfInBounds_toArray, List.set_cons_zero, List.set_cons_succ])
          refine RM.const (v := ?_) (fun _ => rfl) (fun xq wq hSq => ?_) ?_; rotate_left; (focus (go_simp; (first | done | with_reducible rfl | ((split; (exfalso; omega)); with_reducible rfl)))); (try simp only [Act.put, List.setIfInBounds_toArray, List.set_cons_zero, List.set_cons_succ])
          refine RM.const (v := ?_) (fun _ => rfl) (fun xq wq hSq => ?_) ?_; rotate_left; (focus (go_simp; (first | done | with_reducible rfl | ((split; (exfalso; omega)); with_reducible rfl)))); (try simp only [Act.put, List.setIfInBounds_toArray, List.set_cons_zero, List.set_cons_succ])
          refine RM.const (v := ?_) (fun _ => rfl) (fun xq wq hSq => ?_) ?_; rotate_left; (focus (go_simp; (first | done | with_reducible rfl | ((split; (exfalso; omega)); with_reducible rfl)))); (try simp only [Act.put, List.setIfInBounds_toArray, List.set_cons_zero, List.set_cons_succ])
          refine RM.copyOwn (cells := icell) [0] (Operand.tmp 48) (Operand.tmp 51) ⟨Try.underlying37, Hi.out, Hz0.out, Hz1.out, Hz2.out, by decide⟩ rfl (fun _ => rfl) (fun x u hu => by simp [icell] at hu; subst hu; rfl) rfl (hL.out) (by unfold maxLen; omega) (by omega) (by kernel_rfl) (fun _ => rfl) (fun xq wq hSq hKq => ?_) (fun _ => rfl) ?_; (focus (obtain ⟨g0, hv0, hl1, hl2⟩ := hKq _ List.mem_cons_self (by simp); exact ⟨_, hv0, .inr ⟨_, rfl⟩, own_lit0 hl1 hl2⟩)); (try simp only [Act.put, List.setIfInBounds_toArray, List.set_cons_zero, List.set_cons_succ])
          refine RM.const (v := ?_) (fun _ => rfl) (fun xq wq hSq => ?_) ?_; rotate_left; (focus (go_simp; (first | done | with_reducible rfl | ((split; (exfalso; omega)); with_reducible rfl)))); (try simp only [Act.put, List.setIfInBounds_toArray, List.set_cons_zero, List.set_cons_succ])
          refine RM.const (v := ?_) (fun _ => rfl) (fun xq wq hSq => ?_) ?_; rotate_left; (focus (go_simp; (first | done | with_reducible rfl | ((split; (exfalso; omega)); with_reducible rfl)))); (try simp only [Act.put, List.setIfInBounds_toArray, List.set_cons_zero, List.set_cons_succ])
          refine RM.const (v := ?_) (fun _ => rfl) (fun xq wq hSq => ?_) ?_; rotate_left; (focus (go_simp; (first | done | with_reducible rfl | ((split; (exfalso; omega)); with_reducible rfl)))); (try simp only [Act.put, List.setIfInBounds_toArray, List.set_cons_zero, List.set_cons_succ])
          refine RM.const (v := ?_) (fun _ => rfl) (fun xq wq hSq => ?_) ?_; rotate_left; (focus (go_simp; (first | done | with_reducible rfl | ((split; (exfalso; omega)); with_reducible rfl)))); (try simp only [Act.put, List.setIfInBounds_toArray, List.set_cons_zero, List.set_cons_succ])
          refine RM.const (v := ?_) (fun _ => rfl) (fun xq wq hSq => ?_) ?_; rotate_left; (focus (go_simp; (first | done | with_reducible rfl | ((split; (exfalso; omega)); with_reducible rfl)))); (try simp only [Act.put, List.setIfInBounds_toArray, List.set_cons_zero, List.set_cons_succ])
          refine RM.lit (n := ?_) (vals := ?_) (e := ?_) (fun _ => rfl) (fun xq wq hSq => ?_) ?_; rotate_left 3; (focus (go_simp; (first | done | with_reducible rfl | (refine ⟨?_, ?_⟩ <;> with_reducible rfl)))); (try simp only [Act.put, List.setIfInBounds_toArray, List.set_cons_zero, List.set_cons_succ])
          refine RM.done (fun xq wq hSq hUq => ?_)
          clear q0
          obtain ⟨a6, c6, h6, hO6⟩ := hUq _ (List.mem_cons_of_mem _ List.mem_cons_self)
          obtain ⟨g7, hv7, _, _, hcl⟩ := (hUq _ List.mem_cons_self).cells
          clear hUq
          simp only at h6 hv7
          simp only [h6, hv7, slA, slC]
          have hM6 := hMw.thenNone hSq
          have hroom : w.heap.size ≤ wq.heap.size := hM6.size
          have hR6 := hid (hRt.out.low.flatKeep hSq)
          have hO6' := hid hO6
          have hb6 := own_base hO6 hMw.size
          have h3 : d1.length + 1 ≤ maxLen := by unfold maxLen; omega
          have h4 : (d1.length + 1) * 8 ≤ 140737488355328 := by omega
          clear hSq hO6 hL hRt h6 hv7
          go_wp2_with (first | (at_builtin; refine wpList_append_own _ rfl _ _ 37 rfl w.heap.size 3 i0 _ 1 8 Try.underlying37 Hi.out Hz0.out Hz1.out Hz2.out rfl (by decide) _ _ _ rfl hb6 ⟨g7, 0, none⟩ 1 1 [.int .i64 x.node] rfl rfl hcl (ones_of rfl) h3 h4 hroom ?_))
          intro v' w7 hown7 hgrow7 _
          obtain ⟨a7, c7, hv⟩ := own_form hown7
          rw [hv] at hown7 ⊢
          have hM7 := hM6.appendedAt hb6 (Nat.le_refl _) hgrow7
          have hR7 := hid (hR6.out.flatMod (grown_mod hgrow7) (fun k hk (e : some k = _) => by have := hO6'.out.lt k e.symm; omega))
          have hroom7 : w.heap.size ≤ w7.heap.size := hM7.size
          have hlen7 : d1.length + 1 + (([] : List Int)).length ≤ 1048577 := by simp only [List.length_nil, List.length_cons]; omega
          clear hv hgrow7 h3 h4 hO6' hR6 hb6 hcl
          have one : ∀ x : Int, ∀ u ∈ icell x, u.oneCell' = true := fun x u hu => by simp [icell] at hu; subst hu; rfl
          go_wp2_with (first | (at_builtin; refine wpList_append_slice (cells := icell) (B := w.heap.size) rfl _ _ ⟨Try.underlying37, Hi.out, Hz0.out, Hz1.out, Hz2.out, by decide⟩ rfl (fun _ => rfl) one rfl rfl hown7 hroom7 (l := ([] : List Int)) (by simp) rfl (SliceAt.nil (R := fun _ => True)) (by unfold maxLen; omega) (by omega) ?_))
          all_goals
            intro a8 c8 w8 hown8 hgrow8
            have hM8 := hM7.appendedAt hown7 (Nat.le_refl _) hgrow8
            obtain ⟨g8, rfl⟩ : ∃ g8, a8 = some ⟨g8, 0, none⟩ := by
              rcases own_parts hown8 with h0 | ⟨b8, e8, _⟩
              · omega
              · exact ⟨b8, e8⟩
            go_wp2
            go_roundw
            case rel =>
              refine ⟨k + 1, _, _, _, d1 ++ x.node :: [], by omega, by go_num, ?_, ?_, rfl, ?_, hM8⟩
              · rw [hF1.out]; exact hid (by simpa using insU_end hd1.out)
              · exact hid (by simp; try omega)
              · simpa [icell] using hown8
            case measure => simp [intOf]; omega
        · have hn1 : n = d1.length + (d3.length + 1) := by rw [hn.out, List.length_append, List.length_cons]
          have hc0 : ¬ c' = d1.length := by omega
          have hlt1 : d1.length < n := by omega
          have hjc : d1.length ≤ c' := by omega
          have hjn : d1.length ≤ n := by omega
          have hdec : decide ((d1.length : Int) < (n : Int)) = true := by simp; omega
          have hnn := hid (show n - d1.length = (y :: d3).length by rw [List.length_cons]; omega)
          have hnz := hid hn1
          clear hn1
          obtain ⟨b1, o1, y1, e1, _, _, hy1, cy⟩ := IntSlice.get hRt.out (k := 0) (by simp)
          simp only [Option.some.injEq, Addr.mk.injEq, and_true] at e1
          obtain ⟨rfl, rfl⟩ := e1
          obtain rfl : y = y1 := by simpa using hy1.out
          rw [Nat.add_zero] at cy
          have q1 := hold cy
          clear cy hy1
          by_cases hyx : y < x.node
          · go_wp2
            refine wp_region_mod (by kernel_rfl) (by kernel_rfl) ?_
            refine RM.const (v := ?_) (fun _ => rfl) (fun xq wq hSq => ?_) ?_; rotate_left; (focus (go_simp; (first | done | with_reducible rfl | ((split; (exfalso; omega)); with_reducible rfl)))); (try simp only [Act.put, List.setIfInBounds_toArray, List.set_cons_zero, List.set_cons_succ])
            refine RM.const (v := ?_) (fun _ => rfl) (fun xq wq hSq => ?_) ?_; rotate_left; (focus (go_simp; (first | done | with_reducible rfl | ((split; (exfalso; omega)); with_reducible rfl)))); (try simp only [Act.put, List.setIfInBounds_toArray, List.set_cons_zero, List.set_cons_succ])
            refine RM.const (v := ?_) (fun _ => rfl) (fun xq wq hSq => ?_) ?_; rotate_left; (focus (go_simp; (first | done | with_reducible rfl | ((split; (exfalso; omega)); with_reducible rfl)))); (try simp only [Act.put, List.setIfInBounds_toArray, List.set_cons_zero, List.set_cons_succ])
            refine RM.const (v := ?_) (fun _ => rfl) (fun xq wq hSq => ?_) ?_; rotate_left; (focus (go_simp; (first | done | with_reducible rfl | ((split; (exfalso; omega)); with_reducible rfl)))); (try simp only [Act.put, List.setIfInBounds_toArray, List.set_cons_zero, List.set_cons_succ])
            refine RM.const (v := ?_) (fun _ => rfl) (fun xq wq hSq => ?_) ?_; rotate_left; (focus (go_simp; (first | done | with_reducible rfl | ((split; (exfalso; omega)); with_reducible rfl)))); (try simp only [Act.put, List.setIfInBounds_toArray, List.set_cons_zero, List.set_cons_succ])
            first | (refine RM.skip (fun _ => rfl) ?_; (try simp only [Act.put, List.setIfInBounds_toArray, List.set_cons_zero, List.set_cons_succ])) | (refine RM.const (v := ?_) (fun _ => rfl) (fun xq wq hSq => ?_) ?_; rotate_left; (focus (go_simp; (first | done | with_reducible rfl | ((split; (exfalso; omega)); with_reducible rfl)))); (try simp only [Act.put, List.setIfInBounds_toArray, List.set_cons_zero, List.set_cons_succ]))
            first | (refine RM.skip (fun _ => rfl) ?_; (try simp only [Act.put, List.setIfInBounds_toArray, List.set_cons_zero, List.set_cons_succ])) | (refine RM.const (v := ?_) (fun _ => rfl) (fun xq wq hSq => ?_) ?_; rotate_left; (focus (go_simp; (first | done | with_reducible rfl | ((split; (exfalso; omega)); with_reducible rfl)))); (try simp only [Act.put, List.setIfInBounds_toArray, List.set_cons_zero, List.set_cons_succ]))
            first | (refine RM.skip (fun _ => rfl) ?_; (try simp only [Act.put, List.setIfInBounds_toArray, List.set_cons_zero, List.set_cons_succ])) | (refine RM.const (v := ?_) (fun _ => rfl) (fun xq wq hSq => ?_) ?_; rotate_left; (focus (go_simp; (first | done | with_reducible rfl | ((split; (exfalso; omega)); with_reducible rfl)))); (try simp only [Act.put, List.setIfInBounds_toArray, List.set_cons_zero, List.set_cons_succ]))
            first | (refine RM.skip (fun _ => rfl) ?_; (try simp only [Act.put, List.setIfInBounds_toArray, List.set_cons_zero, List.set_cons_succ])) | (refine RM.const (v := ?_) (fun _ => rfl) (fun xq wq hSq => ?_) ?_; rotate_left; (focus (go_simp; (first | done | with_reducible rfl | ((split; (exfalso; omega)); with_reducible rfl)))); (try simp only [Act.put, List.setIfInBounds_toArray, List.set_cons_zero, List.set_cons_succ]))
            first | (refine RM.skip (fun _ => rfl) ?_; (try simp only [Act.put, List.setIfInBounds_toArray, List.set_cons_zero, List.set_cons_succ])) | (refine RM.const (v := ?_) (fun _ => rfl) (fun xq wq hSq => ?_) ?_; rotate_left; (focus (go_simp; (first | done | with_reducible rfl | ((split; (exfalso; omega)); with_reducible rfl)))); (try simp only [Act.put, List.setIfInBounds_toArray, List.set_cons_zero, List.set_cons_succ]))
            first | (refine RM.skip (fun _ => rfl) ?_; (try simp only [Act.put, List.setIfInBounds_toArray, List.set_cons_zero, List.set_cons_succ])) | (refine RM.const (v := ?_) (fun _ => rfl) (fun xq wq hSq => ?_) ?_; rotate_left; (focus (go_simp; (first | done | with_reducible rfl | ((split; (exfalso; omega)); with_reducible rfl)))); (try simp only [Act.put, List.setIfInBounds_toArray, List.set_cons_zero, List.set_cons_succ]))
            first | (refine RM.skip (fun _ => rfl) ?_; (try simp only [Act.put, List.setIfInBounds_toArray, List.set_cons_zero, List.set_cons_succ])) | (refine RM.const (v := ?_) (fun _ => rfl) (fun xq wq hSq => ?_) ?_; rotate_left; (focus (go_simp; (first | done | with_reducible rfl | ((split; (exfalso; omega)); with_reducible rfl)))); (try simp only [Act.put, List.setIfInBounds_toArray, List.set_cons_zero, List.set_cons_succ]))
            first | (refine RM.skip (fun _ => rfl) ?_; (try simp only [Act.put, List.setIfInBounds_toArray, List.set_cons_zero, List.set_cons_succ])) | (refine RM.const (v := ?_) (fun _ => rfl) (fun xq wq hSq => ?_) ?_; rotate_left; (focus (go_simp; (first | done | with_reducible rfl | ((split; (exfalso; omega)); with_reducible rfl)))); (try simp only [Act.put, List.setIfInBounds_toArray, List.set_cons_zero, List.set_cons_succ]))
            first | (refine RM.skip (fun _ => rfl) ?_; (try simp only [Act.put, List.setIfInBounds_toArray, List.set_cons_zero, List.set_cons_succ])) | (refine RM.const (v := ?_) (fun _ => rfl) (fun xq wq hSq => ?_) ?_; rotate_left; (focus (go_simp; (first | done | with_reducible rfl | ((split; (exfalso; omega)); with_reducible rfl)))); (try simp only [Act.put, List.setIfInBounds_toArray, List.set_cons_zero, List.set_cons_succ]))
            first | (refine RM.skip (fun _ => rfl) ?_; (try simp only [Act.put, List.setIfInBounds_toArray, List.set_cons_zero, List.set_cons_succ])) | (refine RM.const (v := ?_) (fun _ => rfl) (fun xq wq hSq => ?_) ?_; rotate_left; (focus (go_simp; (first | done | with_reducible rfl | ((split; (exfalso; omega)); with_reducible rfl)))); (try simp only [Act.put, List.setIfInBounds_toArray, List.set_cons_zero, List.set_cons_succ]))
            refine RM.const (v := ?_) (fun _ => rfl) (fun xq wq hSq => ?_) ?_; rotate_left; (focus (go_simp; (first | done | with_reducible rfl | ((split; (exfalso; omega)); with_reducible rfl)))); (try simp only [Act.put, List.setIfInBounds_toArray, List.set_cons_zero, List.set_cons_succ])
            refine RM.done (fun xq wq hSq hUq => ?_)
            clear q0 q1
            go_wp2
            go_roundw
            case rel =>
              refine ⟨d1 ++ [y], d3, by simp, ?_, ?_, hMs.thenNone hSq⟩
              · rw [List.length_append]; rfl
              · refine hid fun z hz => ?_
                rcases List.mem_append.1 hz with h | h
                · exact hd1.out z h
                · rw [List.mem_singleton.1 h]; exact hyx
            case measure => simp [intOf]; omega
          · have hMs0 := hid hMs
            by_cases hxy : y = x.node
            · subst hxy
              go_wp2
              refine wp_region_mod (by kernel_rfl) (by kernel_rfl) ?_
              refine RM.const (v := ?_) (fun _ => rfl) (fun xq wq hSq => ?_) ?_; rotate_left; (focus (go_simp; (first | done | with_reducible rfl | ((split; (exfalso; omega)); with_reducible rfl)))); (try simp only [Act.put, List.setIfInBounds_toArray, List.set_cons_zero, List.set_cons_succ])
              refine RM.const (v := ?_) (fun _ => rfl) (fun xq wq hSq => ?_) ?_; rotate_left; (focus (go_simp; (first | done | with_reducible rfl | ((split; (exfalso; omega)); with_reducible rfl)))); (try simp only [Act.put, List.setIfInBounds_toArray, List.set_cons_zero, List.set_cons_succ])
              refine RM.const (v := ?_) (fun _ => rfl) (fun xq wq hSq => ?_) ?_; rotate_left; (focus (go_simp; (first | done | with_reducible rfl | ((split; (exfalso; omega)); with_reducible rfl)))); (try simp only [Act.put, List.setIfInBounds_toArray, List.set_cons_zero, List.set_cons_succ])
              refine RM.const (v := ?_) (fun _ => rfl) (fun xq wq hSq => ?_) ?_; rotate_left; (focus (go_simp; (first | done | with_reducible rfl | ((split; (exfalso; omega)); with_reducible rfl)))); (try simp only [Act.put, List.setIfInBounds_toArray, List.set_cons_zero, List.set_cons_succ])
              refine RM.const (v := ?_) (fun _ => rfl) (fun xq wq hSq => ?_) ?_; rotate_left; (focus (go_simp; (first | done | with_reducible rfl | ((split; (exfalso; omega)); with_reducible rfl)))); (try simp only [Act.put, List.setIfInBounds_toArray, List.set_cons_zero, List.set_cons_succ])
              first | (refine RM.skip (fun _ => rfl) ?_; (try simp only [Act.put, List.setIfInBounds_toArray, List.set_cons_zero, List.set_cons_succ])) | (refine RM.const (v := ?_) (fun _ => rfl) (fun xq wq hSq => ?_) ?_; rotate_left; (focus (go_simp; (first | done | with_reducible rfl | ((split; (exfalso; omega)); with_reducible rfl)))); (try simp only [Act.put, List.setIfInBounds_toArray, List.set_cons_zero, List.set_cons_succ]))
              first | (refine RM.skip (fun _ => rfl) ?_; (try simp only [Act.put, List.setIfInBounds_toArray, List.set_cons_zero, List.set_cons_succ])) | (refine RM.const (v := ?_) (fun _ => rfl) (fun xq wq hSq => ?_) ?_; rotate_left; (focus (go_simp; (first | done | with_reducible rfl | ((split; (exfalso; omega)); with_reducible rfl)))); (try simp only [Act.put, List.setIfInBounds_toArray, List.set_cons_zero, List.set_cons_succ]))
              first | (refine RM.skip (fun _ => rfl) ?_; (try simp only [Act.put, List.setIfInBounds_toArray, List.set_cons_zero, List.set_cons_succ])) | (refine RM.const (v := ?_) (fun _ => rfl) (fun xq wq hSq => ?_) ?_; rotate_left; (focus (go_simp; (first | done | with_reducible rfl | ((split; (exfalso; omega)); with_reducible rfl)))); (try simp only [Act.put, List.setIfInBounds_toArray, List.set_cons_zero, List.set_cons_succ]))
              first | (refine RM.skip (fun _ => rfl) ?_; (try simp only [Act.put, List.setIfInBounds_toArray, List.set_cons_zero, List.set_cons_succ])) | (refine RM.const (v := ?_) (fun _ => rfl) (fun xq wq hSq => ?_) ?_; rotate_left; (focus (go_simp; (first | done | with_reducible rfl | ((split; (exfalso; omega)); with_reducible rfl)))); (try simp only [Act.put, List.setIfInBounds_toArray, List.set_cons_zero, List.set_cons_succ]))
              first | (refine RM.skip (fun _ => rfl) ?_; (try simp only [Act.put, List.setIfInBounds_toArray, List.set_cons_zero, List.set_cons_succ])) | (refine RM.const (v := ?_) (fun _ => rfl) (fun xq wq hSq => ?_) ?_; rotate_left; (focus (go_simp; (first | done | with_reducible rfl | ((split; (exfalso; omega)); with_reducible rfl)))); (try simp only [Act.put, List.setIfInBounds_toArray, List.set_cons_zero, List.set_cons_succ]))
              first | (refine RM.skip (fun _ => rfl) ?_; (try simp only [Act.put, List.setIfInBounds_toArray, List.set_cons_zero, List.set_cons_succ])) | (refine RM.const (v := ?_) (fun _ => rfl) (fun xq wq hSq => ?_) ?_; rotate_left; (focus (go_simp; (first | done | with_reducible rfl | ((split; (exfalso; omega)); with_reducible rfl)))); (try simp only [Act.put, List.setIfInBounds_toArray, List.set_cons_zero, List.set_cons_succ]))
              first | (refine RM.skip (fun _ => rfl) ?_; (try simp only [Act.put, List.setIfInBounds_toArray, List.set_cons_zero, List.set_cons_succ])) | (refine RM.const (v := ?_) (fun _ => rfl) (fun xq wq hSq => ?_) ?_; rotate_left; (focus (go_simp; (first | done | with_reducible rfl | ((split; (exfalso; omega)); with_reducible rfl)))); (try simp only [Act.put, List.setIfInBounds_toArray, List.set_cons_zero, List.set_cons_succ]))
              first | (refine RM.skip (fun _ => rfl) ?_; (try simp only [Act.put, List.setIfInBounds_toArray, List.set_cons_zero, List.set_cons_succ])) | (refine RM.const (v := ?_) (fun _ => rfl) (fun xq wq hSq => ?_) ?_; rotate_left; (focus (go_simp; (first | done | with_reducible rfl | ((split; (exfalso; omega)); with_reducible rfl)))); (try simp only [Act.put, List.setIfInBounds_toArray, List.set_cons_zero, List.set_cons_succ]))
              first | (refine RM.skip (fun _ => rfl) ?_; (try simp only [Act.put, List.setIfInBounds_toArray, List.set_cons_zero, List.set_cons_succ])) | (refine RM.const (v := ?_) (fun _ => rfl) (fun xq wq hSq => ?_) ?_; rotate_left; (focus (go_simp; (first | done | with_reducible rfl | ((split; (exfalso; omega)); with_reducible rfl)))); (try simp only [Act.put, List.setIfInBounds_toArray, List.set_cons_zero, List.set_cons_succ]))
              first | (refine RM.skip (fun _ => rfl) ?_; (try simp only [Act.put, List.setIfInBounds_toArray, List.set_cons_zero, List.set_cons_succ])) | (refine RM.const (v := ?_) (fun _ => rfl) (fun xq wq hSq => ?_) ?_; rotate_left; (focus (go_simp; (first | done | with_reducible rfl | ((split; (exfalso; omega)); with_reducible rfl)))); (try simp only [Act.put, List.setIfInBounds_toArray, List.set_cons_zero, List.set_cons_succ]))
              refine RM.const (v := ?_) (fun _ => rfl) (fun xq wq hSq => ?_) ?_; rotate_left; (focus (go_simp; (first | done | with_reducible rfl | ((split; (exfalso; omega)); with_reducible rfl)))); (try simp only [Act.put, List.setIfInBounds_toArray, List.set_cons_zero, List.set_cons_succ])
              refine RM.done (fun xq wq hSq hUq => ?_)
              replace q0 := fun W (h : Kept _ W) => q0 W (Mod.trans hSq h)
              replace hL := hid (hL.out.flatKeep hSq)
              replace hRt := hid (hRt.out.flatKeep hSq)
              replace hMw := hMw.thenNone hSq
              replace q1 := fun W (h : Kept _ W) => q1 W (Mod.trans hSq h)
              have hMt := hMs0.out.thenNone hSq
              clear hSq hUq
              go_wp2
              refine wp_region_mod (by kernel_rfl) (by kernel_rfl) ?_
              refine RM.const (v := ?_) (fun _ => rfl) (fun xq wq hSq => ?_) ?_; rotate_left; (focus (go_simp; (first | done | with_reducible rfl | ((split; (exfalso; omega)); with_reducible rfl)))); (try simp only [Act.put, List.setIfInBounds_toArray, List.set_cons_zero, List.set_cons_succ])
              refine RM.const (v := ?_) (fun _ => rfl) (fun xq wq hSq => ?_) ?_; rotate_left; (focus (go_simp; (first | done | with_reducible rfl | ((split; (exfalso; omega)); with_reducible rfl)))); (try simp only [Act.put, List.setIfInBounds_toArray, List.set_cons_zero, List.set_cons_succ])
              refine RM.const (v := ?_) (fun _ => rfl) (fun xq wq hSq => ?_) ?_; rotate_left; (focus (go_simp; (first | done | with_reducible rfl | ((split; (exfalso; omega)); with_reducible rfl)))); (try simp only [Act.put, List.setIfInBounds_toArray, List.set_cons_zero, List.set_cons_succ])
              refine RM.const (v := ?_) (fun _ => rfl) (fun xq wq hSq => ?_) ?_; rotate_left; (focus (go_simp; (first | done | with_reducible rfl | ((split; (exfalso; omega)); with_reducible rfl)))); (try simp only [Act.put, List.setIfInBounds_toArray, List.set_cons_zero, List.set_cons_succ])
              refine RM.const (v := ?_) (fun _ => rfl) (fun xq wq hSq => ?_) ?_; rotate_left; (focus (go_simp; (first | done | with_reducible rfl | ((split; (exfalso; omega)); with_reducible rfl)))); (try simp only [Act.put, List.setIfInBounds_toArray, List.set_cons_zero, List.set_cons_succ])
              first | (refine RM.skip (fun _ => rfl) ?_; (try simp only [Act.put, List.setIfInBounds_toArray, List.set_cons_zero, List.set_cons_succ])) | (refine RM.const (v := ?_) (fun _ => rfl) (fun xq wq hSq => ?_) ?_; rotate_left; (focus (go_simp; (first | done | with_reducible rfl | ((split; (exfalso; omega)); with_reducible rfl)))); (try simp only [Act.put, List.setIfInBounds_toArray, List.set_cons_zero, List.set_cons_succ]))
              first | (refine RM.skip (fun _ => rfl) ?_; (try simp only [Act.put, List.setIfInBounds_toArray, List.set_cons_zero, List.set_cons_succ])) | (refine RM.const (v := ?_) (fun _ => rfl) (fun xq wq hSq => ?_) ?_; rotate_left; (focus (go_simp; (first | done | with_reducible rfl | ((split; (exfalso; omega)); with_reducible rfl)))); (try simp only [Act.put, List.setIfInBounds_toArray, List.set_cons_zero, List.set_cons_succ]))
              first | (refine RM.skip (fun _ => rfl) ?_; (try simp only [Act.put, List.setIfInBounds_toArray, List.set_cons_zero, List.set_cons_succ])) | (refine RM.const (v := ?_) (fun _ => rfl) (fun xq wq hSq => ?_) ?_; rotate_left; (focus (go_simp; (first | done | with_reducible rfl | ((split; (exfalso; omega)); with_reducible rfl)))); (try simp only [Act.put, List.setIfInBounds_toArray, List.set_cons_zero, List.set_cons_succ]))
              first | (refine RM.skip (fun _ => rfl) ?_; (try simp only [Act.put, List.setIfInBounds_toArray, List.set_cons_zero, List.set_cons_succ])) | (refine RM.const (v := ?_) (fun _ => rfl) (fun xq wq hSq => ?_) ?_; rotate_left; (focus (go_simp; (first | done | with_reducible rfl | ((split; (exfalso; omega)); with_reducible rfl)))); (try simp only [Act.put, List.setIfInBounds_toArray, List.set_cons_zero, List.set_cons_succ]))
              first | (refine RM.skip (fun _ => rfl) ?_; (try simp only [Act.put, List.setIfInBounds_toArray, List.set_cons_zero, List.set_cons_succ])) | (refine RM.const (v := ?_) (fun _ => rfl) (fun xq wq hSq => ?_) ?_; rotate_left; (focus (go_simp; (first | done | with_reducible rfl | ((split; (exfalso; omega)); with_reducible rfl)))); (try simp only [Act.put, List.setIfInBounds_toArray, List.set_cons_zero, List.set_cons_succ]))
              first | (refine RM.skip (fun _ => rfl) ?_; (try simp only [Act.put, List.setIfInBounds_toArray, List.set_cons_zero, List.set_cons_succ])) | (refine RM.const (v := ?_) (fun _ => rfl) (fun xq wq hSq => ?_) ?_; rotate_left; (focus (go_simp; (first | done | with_reducible rfl | ((split; (exfalso; omega)); with_reducible rfl)))); (try simp only [Act.put, List.setIfInBounds_toArray, List.set_cons_zero, List.set_cons_succ]))
              first | (refine RM.skip (fun _ => rfl) ?_; (try simp only [Act.put, List.setIfInBounds_toArray, List.set_cons_zero, List.set_cons_succ])) | (refine RM.const (v := ?_) (fun _ => rfl) (fun xq wq hSq => ?_) ?_; rotate_left; (focus (go_simp; (first | done | with_reducible rfl | ((split; (exfalso; omega)); with_reducible rfl)))); (try simp only [Act.put, List.setIfInBounds_toArray, List.set_cons_zero, List.set_cons_succ]))
              first | (refine RM.skip (fun _ => rfl) ?_; (try simp only [Act.put, List.setIfInBounds_toArray, List.set_cons_zero, List.set_cons_succ])) | (refine RM.const (v := ?_) (fun _ => rfl) (fun xq wq hSq => ?_) ?_; rotate_left; (focus (go_simp; (first | done | with_reducible rfl | ((split; (exfalso; omega)); with_reducible rfl)))); (try simp only [Act.put, List.setIfInBounds_toArray, List.set_cons_zero, List.set_cons_succ]))
              first | (refine RM.skip (fun _ => rfl) ?_; (try simp only [Act.put, List.setIfInBounds_toArray, List.set_cons_zero, List.set_cons_succ])) | (refine RM.const (v := ?_) (fun _ => rfl) (fun xq wq hSq => ?_) ?_; rotate_left; (focus (go_simp; (first | done | with_reducible rfl | ((split; (exfalso; omega)); with_reducible rfl)))); (try simp only [Act.put, List.setIfInBounds_toArray, List.set_cons_zero, List.set_cons_succ]))
              first | (refine RM.skip (fun _ => rfl) ?_; (try simp only [Act.put, List.setIfInBounds_toArray, List.set_cons_zero, List.set_cons_succ])) | (refine RM.const (v := ?_) (fun _ => rfl) (fun xq wq hSq => ?_) ?_; rotate_left; (focus (go_simp; (first | done | with_reducible rfl | ((split; (exfalso; omega)); with_reducible rfl)))); (try simp only [Act.put, List.setIfInBounds_toArray, List.set_cons_zero, List.set_cons_succ]))
              refine RM.const (v := ?_) (fun _ => rfl) (fun xq wq hSq => ?_) ?_; rotate_left; (focus (go_simp; (first | done | with_reducible rfl | ((split; (exfalso; omega)); with_reducible rfl)))); (try simp only [Act.put, List.setIfInBounds_toArray, List.set_cons_zero, List.set_cons_succ])
              refine RM.done (fun xq wq hSq hUq => ?_)
              clear q0 q1
              go_wp2
              go_roundw
              case rel =>
                refine ⟨k + 1, _, _, _, d1 ++ x.node :: d3, by omega, by go_num, ?_, hn, rfl, own_mod hO (hMt.thenNone hSq) (fun _ _ f => f), hMw.thenNone hSq⟩
                rw [hF1.out]; exact hid (insU_here hd1.out)
              case measure => simp [intOf]; omega
            · have hyx2 : x.node < y := by omega
              have hne : (y == x.node) = false := by simpa using hxy
              go_wp2
              refine wp_region_mod (by kernel_rfl) (by kernel_rfl) ?_
              refine RM.const (v := ?_) (fun _ => rfl) (fun xq wq hSq => ?_) ?_; rotate_left; (focus (go_simp; (first | done | with_reducible rfl | ((split; (exfalso; omega)); with_reducible rfl)))); (try simp only [Act.put, List.setIfInBounds_toArray, List.set_cons_zero, List.set_cons_succ])
              refine RM.const (v := ?_) (fun _ => rfl) (fun xq wq hSq => ?_) ?_; rotate_left; (focus (go_simp; (first | done | with_reducible rfl | ((split; (exfalso; omega)); with_reducible rfl)))); (try simp only [Act.put, List.setIfInBounds_toArray, List.set_cons_zero, List.set_cons_succ])
              refine RM.const (v := ?_) (fun _ => rfl) (fun xq wq hSq => ?_) ?_; rotate_left; (focus (go_simp; (first | done | with_reducible rfl | ((split; (exfalso; omega)); with_reducible rfl)))); (try simp only [Act.put, List.setIfInBounds_toArray, List.set_cons_zero, List.set_cons_succ])
              refine RM.const (v := ?_) (fun _ => rfl) (fun xq wq hSq => ?_) ?_; rotate_left; (focus (go_simp; (first | done | with_reducible rfl | ((split; (exfalso; omega)); with_reducible rfl)))); (try simp only [Act.put, List.setIfInBounds_toArray, List.set_cons_zero, List.set_cons_succ])
              refine RM.const (v := ?_) (fun _ => rfl) (fun xq wq hSq => ?_) ?_; rotate_left; (focus (go_simp; (first | done | with_reducible rfl | ((split; (exfalso; omega)); with_reducible rfl)))); (try simp only [Act.put, List.setIfInBounds_toArray, List.set_cons_zero, List.set_cons_succ])
              first | (refine RM.skip (fun _ => rfl) ?_; (try simp only [Act.put, List.setIfInBounds_toArray, List.set_cons_zero, List.set_cons_succ])) | (refine RM.const (v := ?_) (fun _ => rfl) (fun xq wq hSq => ?_) ?_; rotate_left; (focus (go_simp; (first | done | with_reducible rfl | ((split; (exfalso; omega)); with_reducible rfl)))); (try simp only [Act.put, List.setIfInBounds_toArray, List.set_cons_zero, List.set_cons_succ]))
              first | (refine RM.skip (fun _ => rfl) ?_; (try simp only [Act.put, List.setIfInBounds_toArray, List.set_cons_zero, List.set_cons_succ])) | (refine RM.const (v := ?_) (fun _ => rfl) (fun xq wq hSq => ?_) ?_; rotate_left; (focus (go_simp; (first | done | with_reducible rfl | ((split; (exfalso; omega)); with_reducible rfl)))); (try simp only [Act.put, List.setIfInBounds_toArray, List.set_cons_zero, List.set_cons_succ]))
              first | (refine RM.skip (fun _ => rfl) ?_; (try simp only [Act.put, List.setIfInBounds_toArray, List.set_cons_zero, List.set_cons_succ])) | (refine RM.const (v := ?_) (fun _ => rfl) (fun xq wq hSq => ?_) ?_; rotate_left; (focus (go_simp; (first | done | with_reducible rfl | ((split; (exfalso; omega)); with_reducible rfl)))); (try simp only [Act.put, List.setIfInBounds_toArray, List.set_cons_zero, List.set_cons_succ]))
              first | (refine RM.skip (fun _ => rfl) ?_; (try simp only [Act.put, List.setIfInBounds_toArray, List.set_cons_zero, List.set_cons_succ])) | (refine RM.const (v := ?_) (fun _ => rfl) (fun xq wq hSq => ?_) ?_; rotate_left; (focus (go_simp; (first | done | with_reducible rfl | ((split; (exfalso; omega)); with_reducible rfl)))); (try simp only [Act.put, List.setIfInBounds_toArray, List.set_cons_zero, List.set_cons_succ]))
              first | (refine RM.skip (fun _ => rfl) ?_; (try simp only [Act.put, List.setIfInBounds_toArray, List.set_cons_zero, List.set_cons_succ])) | (refine RM.const (v := ?_) (fun _ => rfl) (fun xq wq hSq => ?_) ?_; rotate_left; (focus (go_simp; (first | done | with_reducible rfl | ((split; (exfalso; omega)); with_reducible rfl)))); (try simp only [Act.put, List.setIfInBounds_toArray, List.set_cons_zero, List.set_cons_succ]))
              first | (refine RM.skip (fun _ => rfl) ?_; (try simp only [Act.put, List.setIfInBounds_toArray, List.set_cons_zero, List.set_cons_succ])) | (refine RM.const (v := ?_) (fun _ => rfl) (fun xq wq hSq => ?_) ?_; rotate_left; (focus (go_simp; (first | done | with_reducible rfl | ((split; (exfalso; omega)); with_reducible rfl)))); (try simp only [Act.put, List.setIfInBounds_toArray, List.set_cons_zero, List.set_cons_succ]))
              first | (refine RM.skip (fun _ => rfl) ?_; (try simp only [Act.put, List.setIfInBounds_toArray, List.set_cons_zero, List.set_cons_succ])) | (refine RM.const (v := ?_) (fun _ => rfl) (fun xq wq hSq => ?_) ?_; rotate_left; (focus (go_simp; (first | done | with_reducible rfl | ((split; (exfalso; omega)); with_reducible rfl)))); (try simp only [Act.put, List.setIfInBounds_toArray, List.set_cons_zero, List.set_cons_succ]))
              first | (refine RM.skip (fun _ => rfl) ?_; (try simp only [Act.put, List.setIfInBounds_toArray, List.set_cons_zero, List.set_cons_succ])) | (refine RM.const (v := ?_) (fun _ => rfl) (fun xq wq hSq => ?_) ?_; rotate_left; (focus (go_simp; (first | done | with_reducible rfl | ((split; (exfalso; omega)); with_reducible rfl)))); (try simp only [Act.put, List.setIfInBounds_toArray, List.set_cons_zero, List.set_cons_succ]))
              first | (refine RM.skip (fun _ => rfl) ?_; (try simp only [Act.put, List.setIfInBounds_toArray, List.set_cons_zero, List.set_cons_succ])) | (refine RM.const (v := ?_) (fun _ => rfl) (fun xq wq hSq => ?_) ?_; rotate_left; (focus (go_simp; (first | done | with_reducible rfl | ((split; (exfalso; omega)); with_reducible rfl)))); (try simp only [Act.put, List.setIfInBounds_toArray, List.set_cons_zero, List.set_cons_succ]))
              first | (refine RM.skip (fun _ => rfl) ?_; (try simp only [Act.put, List.setIfInBounds_toArray, List.set_cons_zero, List.set_cons_succ])) | (refine RM.const (v := ?_) (fun _ => rfl) (fun xq wq hSq => ?_) ?_; rotate_left; (focus (go_simp; (first | done | with_reducible rfl | ((split; (exfalso; omega)); with_reducible rfl)))); (try simp only [Act.put, List.setIfInBounds_toArray, List.set_cons_zero, List.set_cons_succ]))
              refine RM.const (v := ?_) (fun _ => rfl) (fun xq wq hSq => ?_) ?_; rotate_left; (focus (go_simp; (first | done | with_reducible rfl | ((split; (exfalso; omega)); with_reducible rfl)))); (try simp only [Act.put, List.setIfInBounds_toArray, List.set_cons_zero, List.set_cons_succ])
              refine RM.done (fun xq wq hSq hUq => ?_)
              replace q0 := fun W (h : Kept _ W) => q0 W (Mod.trans hSq h)
              replace hL := hid (hL.out.flatKeep hSq)
              replace hRt := hid (hRt.out.flatKeep hSq)
              replace hMw := hMw.thenNone hSq
              replace q1 := fun W (h : Kept _ W) => q1 W (Mod.trans hSq h)
              have hMt := hMs0.out.thenNone hSq
              clear hSq hUq
              go_wp2
              refine wp_region_mod (by kernel_rfl) (by kernel_rfl) ?_
              refine RM.const (v := ?_) (fun _ => rfl) (fun xq wq hSq => ?_) ?_; rotate_left; (focus (go_simp; (first | done | with_reducible rfl | ((split; (exfalso; omega)); with_reducible rfl)))); (try simp only [Act.put, List.setIfInBounds_toArray, List.set_cons_zero, List.set_cons_succ])
              refine RM.const (v := ?_) (fun _ => rfl) (fun xq wq hSq => ?_) ?_; rotate_left; (focus (go_simp; (first | done | with_reducible rfl | ((split; (exfalso; omega)); with_reducible rfl)))); (try simp only [Act.put, List.setIfInBounds_toArray, List.set_cons_zero, List.set_cons_succ])
              refine RM.const (v := ?_) (fun _ => rfl) (fun xq wq hSq => ?_) ?_; rotate_left; (focus (go_simp; (first | done | with_reducible rfl | ((split; (exfalso; omega)); with_reducible rfl)))); (try simp only [Act.put, List.setIfInBounds_toArray, List.set_cons_zero, List.set_cons_succ])
              refine RM.const (v := ?_) (fun _ => rfl) (fun xq wq hSq => ?_) ?_; rotate_left; (focus (go_simp; (first | done | with_reducible rfl | ((split; (exfalso; omega)); with_reducible rfl)))); (try simp only [Act.put, List.setIfInBounds_toArray, List.set_cons_zero, List.set_cons_succ])
              refine RM.const (v := ?_) (fun _ => rfl) (fun xq wq hSq => ?_) ?_; rotate_left; (focus (go_simp; (first | done | with_reducible rfl | ((split; (exfalso; omega)); with_reducible rfl)))); (try simp only [Act.put, List.setIfInBounds_toArray, List.set_cons_zero, List.set_cons_succ])
              first | (refine RM.skip (fun _ => rfl) ?_; (try simp only [Act.put, List.setIfInBounds_toArray, List.set_cons_zero, List.set_cons_succ])) | (refine RM.const (v := ?_) (fun _ => rfl) (fun xq wq hSq => ?_) ?_; rotate_left; (focus (go_simp; (first | done | with_reducible rfl | ((split; (exfalso; omega)); with_reducible rfl)))); (try simp only [Act.put, List.setIfInBounds_toArray, List.set_cons_zero, List.set_cons_succ]))
              first | (refine RM.skip (fun _ => rfl) ?_; (try simp only [Act.put, List.setIfInBounds_toArray, List.set_cons_zero, List.set_cons_succ])) | (refine RM.const (v := ?_) (fun _ => rfl) (fun xq wq hSq => ?_) ?_; rotate_left; (focus (go_simp; (first | done | with_reducible rfl | ((split; (exfalso; omega)); with_reducible rfl)))); (try simp only [Act.put, List.setIfInBounds_toArray, List.set_cons_zero, List.set_cons_succ]))
              first | (refine RM.skip (fun _ => rfl) ?_; (try simp only [Act.put, List.setIfInBounds_toArray, List.set_cons_zero, List.set_cons_succ])) | (refine RM.const (v := ?_) (fun _ => rfl) (fun xq wq hSq => ?_) ?_; rotate_left; (focus (go_simp; (first | done | with_reducible rfl | ((split; (exfalso; omega)); with_reducible rfl)))); (try simp only [Act.put, List.setIfInBounds_toArray, List.set_cons_zero, List.set_cons_succ]))
              first | (refine RM.skip (fun _ => rfl) ?_; (try simp only [Act.put, List.setIfInBounds_toArray, List.set_cons_zero, List.set_cons_succ])) | (refine RM.const (v := ?_) (fun _ => rfl) (fun xq wq hSq => ?_) ?_; rotate_left; (focus (go_simp; (first | done | with_reducible rfl | ((split; (exfalso; omega)); with_reducible rfl)))); (try simp only [Act.put, List.setIfInBounds_toArray, List.set_cons_zero, List.set_cons_succ]))
              first | (refine RM.skip (fun _ => rfl) ?_; (try simp only [Act.put, List.setIfInBounds_toArray, List.set_cons_zero, List.set_cons_succ])) | (refine RM.const (v := ?_) (fun _ => rfl) (fun xq wq hSq => ?_) ?_; rotate_left; (focus (go_simp; (first | done | with_reducible rfl | ((split; (exfalso; omega)); with_reducible rfl)))); (try simp only [Act.put, List.setIfInBounds_toArray, List.set_cons_zero, List.set_cons_succ]))
              first | (refine RM.skip (fun _ => rfl) ?_; (try simp only [Act.put, List.setIfInBounds_toArray, List.set_cons_zero, List.set_cons_succ])) | (refine RM.const (v := ?_) (fun _ => rfl) (fun xq wq hSq => ?_) ?_; rotate_left; (focus (go_simp; (first | done | with_reducible rfl | ((split; (exfalso; omega)); with_reducible rfl)))); (try simp only [Act.put, List.setIfInBounds_toArray, List.set_cons_zero, List.set_cons_succ]))
              first | (refine RM.skip (fun _ => rfl) ?_; (try simp only [Act.put, List.setIfInBounds_toArray, List.set_cons_zero, List.set_cons_succ])) | (refine RM.const (v := ?_) (fun _ => rfl) (fun xq wq hSq => ?_) ?_; rotate_left; (focus (go_simp; (first | done | with_reducible rfl | ((split; (exfalso; omega)); with_reducible rfl)))); (try simp only [Act.put, List.setIfInBounds_toArray, List.set_cons_zero, List.set_cons_succ]))
              first | (refine RM.skip (fun _ => rfl) ?_; (try simp only [Act.put, List.setIfInBounds_toArray, List.set_cons_zero, List.set_cons_succ])) | (refine RM.const (v := ?_) (fun _ => rfl) (fun xq wq hSq => ?_) ?_; rotate_left; (focus (go_simp; (first | done | with_reducible rfl | ((split; (exfalso; omega)); with_reducible rfl)))); (try simp only [Act.put, List.setIfInBounds_toArray, List.set_cons_zero, List.set_cons_succ]))
              first | (refine RM.skip (fun _ => rfl) ?_; (try simp only [Act.put, List.setIfInBounds_toArray, List.set_cons_zero, List.set_cons_succ])) | (refine RM.const (v := ?_) (fun _ => rfl) (fun xq wq hSq => ?_) ?_; rotate_left; (focus (go_simp; (first | done | with_reducible rfl | ((split; (exfalso; omega)); with_reducible rfl)))); (try simp only [Act.put, List.setIfInBounds_toArray, List.set_cons_zero, List.set_cons_succ]))
              first | (refine RM.skip (fun _ => rfl) ?_; (try simp only [Act.put, List.setIfInBounds_toArray, List.set_cons_zero, List.set_cons_succ])) | (refine RM.const (v := ?_) (fun _ => rfl) (fun xq wq hSq => ?_) ?_; rotate_left; (focus (go_simp; (first | done | with_reducible rfl | ((split; (exfalso; omega)); with_reducible rfl)))); (try simp only [Act.put, List.setIfInBounds_toArray, List.set_cons_zero, List.set_cons_succ]))
              refine RM.const (v := ?_) (fun _ => rfl) (fun xq wq hSq => ?_) ?_; rotate_left; (focus (go_simp; (first | done | with_reducible rfl | ((split; (exfalso; omega)); with_reducible rfl)))); (try simp only [Act.put, List.setIfInBounds_toArray, List.set_cons_zero, List.set_cons_succ])
              refine RM.done (fun xq wq hSq hUq => ?_)
              replace q0 := fun W (h : Kept _ W) => q0 W (Mod.trans hSq h)
              replace hL := hid (hL.out.flatKeep hSq)
              replace hRt := hid (hRt.out.flatKeep hSq)
              replace hMw := hMw.thenNone hSq
              clear q1
              clear hSq hUq
              go_wp2
              refine wp_region_mod_tail 11 (by kernel_rfl) (by kernel_rfl) (by kernel_rfl) ?_
              simp only [List.take_succ_cons, List.take_zero, List.drop_succ_cons, List.drop_zero]
              refine RM.lit (n := ?_) (vals := ?_) (e := ?_) (fun _ => rfl) (fun xq wq hSq => ?_) ?_; rotate_left 3; (focus (go_simp; (first | done | with_reducible rfl | (refine ⟨?_, ?_⟩ <;> with_reducible rfl)))); (try simp only [Act.put, List.setIfInBounds_toArray, List.set_cons_zero, List.set_cons_succ])
              refine RM.const (v := ?_) (fun _ => rfl) (fun xq wq hSq => ?_) ?_; rotate_left; (focus (go_simp; (first | done | with_reducible rfl | ((split; (exfalso; omega)); with_reducible rfl)))); (try simp only [Act.put, List.setIfInBounds_toArray, List.set_cons_zero, List.set_cons_succ])
              refine RM.const (v := ?_) (fun _ => rfl) (fun xq wq hSq => ?_) ?_; rotate_left; (focus (go_simp; (first | done | with_reducible rfl | ((split; (exfalso; omega)); with_reducible rfl)))); (try simp only [Act.put, List.setIfInBounds_toArray, List.set_cons_zero, List.set_cons_succ])
              refine RM.const (v := ?_) (fun _ => rfl) (fun xq wq hSq => ?_) ?_; rotate_left; (focus (go_simp; (first | done | with_reducible rfl | ((split; (exfalso; omega)); with_reducible rfl)))); (try simp only [Act.put, List.setIfInBounds_toArray, List.set_cons_zero, List.set_cons_succ])
              refine RM.copyOwn (cells := icell) [0] (Operand.tmp 48) (Operand.tmp 51) ⟨Try.underlying37, Hi.out, Hz0.out, Hz1.out, Hz2.out, by decide⟩ rfl (fun _ => rfl) (fun x u hu => by simp [icell] at hu; subst hu; rfl) rfl (hL.out) (by unfold maxLen; omega) (by omega) (by kernel_rfl) (fun _ => rfl) (fun xq wq hSq hKq => ?_) (fun _ => rfl) ?_; (focus (obtain ⟨g0, hv0, hl1, hl2⟩ := hKq _ List.mem_cons_self (by simp); exact ⟨_, hv0, .inr ⟨_, rfl⟩, own_lit0 hl1 hl2⟩)); (try simp only [Act.put, List.setIfInBounds_toArray, List.set_cons_zero, List.set_cons_succ])
              refine RM.const (v := ?_) (fun _ => rfl) (fun xq wq hSq => ?_) ?_; rotate_left; (focus (go_simp; (first | done | with_reducible rfl | ((split; (exfalso; omega)); with_reducible rfl)))); (try simp only [Act.put, List.setIfInBounds_toArray, List.set_cons_zero, List.set_cons_succ])
              refine RM.const (v := ?_) (fun _ => rfl) (fun xq wq hSq => ?_) ?_; rotate_left; (focus (go_simp; (first | done | with_reducible rfl | ((split; (exfalso; omega)); with_reducible rfl)))); (try simp only [Act.put, List.setIfInBounds_toArray, List.set_cons_zero, List.set_cons_succ])
              refine RM.const (v := ?_) (fun _ => rfl) (fun xq wq hSq => ?_) ?_; rotate_left; (focus (go_simp; (first | done | with_reducible rfl | ((split; (exfalso; omega)); with_reducible rfl)))); (try simp only [Act.put, List.setIfInBounds_toArray, List.set_cons_zero, List.set_cons_succ])
              refine RM.const (v := ?_) (fun _ => rfl) (fun xq wq hSq => ?_) ?_; rotate_left; (focus (go_simp; (first | done | with_reducible rfl | ((split; (exfalso; omega)); with_reducible rfl)))); (try simp only [Act.put, List.setIfInBounds_toArray, List.set_cons_zero, List.set_cons_succ])
              refine RM.const (v := ?_) (fun _ => rfl) (fun xq wq hSq => ?_) ?_; rotate_left; (focus (go_simp; (first | done | with_reducible rfl | ((split; (exfalso; omega)); with_reducible rfl)))); (try simp only [Act.put, List.setIfInBounds_toArray, List.set_cons_zero, List.set_cons_succ])
              refine RM.lit (n := ?_) (vals := ?_) (e := ?_) (fun _ => rfl) (fun xq wq hSq => ?_) ?_; rotate_left 3; (focus (go_simp; (first | done | with_reducible rfl | (refine ⟨?_, ?_⟩ <;> with_reducible rfl)))); (try simp only [Act.put, List.setIfInBounds_toArray, List.set_cons_zero, List.set_cons_succ])
              refine RM.done (fun xq wq hSq hUq => ?_)
              clear q0
              obtain ⟨a6, c6, h6, hO6⟩ := hUq _ (List.mem_cons_of_mem _ List.mem_cons_self)
              obtain ⟨g7, hv7, _, _, hcl⟩ := (hUq _ List.mem_cons_self).cells
              clear hUq
              simp only at h6 hv7
              simp only [h6, hv7, slA, slC]
              have hM6 := hMw.thenNone hSq
              have hroom : w.heap.size ≤ wq.heap.size := hM6.size
              have hR6 := hid (hRt.out.low.flatKeep hSq)
              have hO6' := hid hO6
              have hb6 := own_base hO6 hMw.size
              have h3 : d1.length + 1 ≤ maxLen := by unfold maxLen; omega
              have h4 : (d1.length + 1) * 8 ≤ 140737488355328 := by omega
              clear hSq hO6 hL hRt h6 hv7
              go_wp2_with (first | (at_builtin; refine wpList_append_own _ rfl _ _ 37 rfl w.heap.size 3 i0 _ 1 8 Try.underlying37 Hi.out Hz0.out Hz1.out Hz2.out rfl (by decide) _ _ _ rfl hb6 ⟨g7, 0, none⟩ 1 1 [.int .i64 x.node] rfl rfl hcl (ones_of rfl) h3 h4 hroom ?_))
              intro v' w7 hown7 hgrow7 _
              obtain ⟨a7, c7, hv⟩ := own_form hown7
              rw [hv] at hown7 ⊢
              have hM7 := hM6.appendedAt hb6 (Nat.le_refl _) hgrow7
              have hR7 := hid (hR6.out.flatMod (grown_mod hgrow7) (fun k hk (e : some k = _) => by have := hO6'.out.lt k e.symm; omega))
              have hroom7 : w.heap.size ≤ w7.heap.size := hM7.size
              have hlen7 : d1.length + 1 + ((y :: d3)).length ≤ 1048577 := by simp only [List.length_nil, List.length_cons]; (have := hnz.out; omega)
              clear hv hgrow7 h3 h4 hO6' hR6 hb6 hcl
              have one : ∀ x : Int, ∀ u ∈ icell x, u.oneCell' = true := fun x u hu => by simp [icell] at hu; subst hu; rfl
              go_wp2_with (first | (at_builtin; refine wpList_append_slice (cells := icell) (B := w.heap.size) rfl _ _ ⟨Try.underlying37, Hi.out, Hz0.out, Hz1.out, Hz2.out, by decide⟩ rfl (fun _ => rfl) one rfl rfl hown7 hroom7 (l := (y :: d3)) (hnn.out) rfl hR7.out (by unfold maxLen; omega) (by omega) ?_))
              all_goals
                intro a8 c8 w8 hown8 hgrow8
                have hM8 := hM7.appendedAt hown7 (Nat.le_refl _) hgrow8
                obtain ⟨g8, rfl⟩ : ∃ g8, a8 = some ⟨g8, 0, none⟩ := by
                  rcases own_parts hown8 with h0 | ⟨b8, e8, _⟩
                  · omega
                  · exact ⟨b8, e8⟩
                go_wp2
                go_roundw
                case rel =>
                  refine ⟨k + 1, _, _, _, d1 ++ x.node :: y :: d3, by omega, by go_num, ?_, ?_, rfl, ?_, hM8⟩
                  · rw [hF1.out]; exact hid (insU_before hd1.out hyx2)
                  · exact hid (by simp; try omega)
                  · simpa [icell] using hown8
                case measure => simp [intOf]; omega
    · have hk' : k = l.length := by omega
      subst hk'
      rw [List.take_length] at hF
      have HF := hid hF.out
      clear hF
      go_wp2
      go_ret
      rw [HF.out, ← hn.out]
      exact ⟨_, c', rfl, hO, hM⟩

end Go.Proofs.Ytefgjjmnjanleaa
