/-
  PROVED: contracts of functions and words on memory, several texts put together: what each says stands at its theorems. Conditions: as told there.
-/
import Derived.Test.YtdohglcjjlmhhaaMXc
import Derived.Test.YtdohglcjjlmhhaaChecked
import Derived.ProofKit
set_option linter.unusedVariables false
set_option linter.unusedSimpArgs false
namespace Go.Proofs.Ytdohglcjjlmhhaa
open Go.RowKit
set_option linter.unusedVariables false
set_option linter.unusedSimpArgs false

def flexOk (l : List Item) (gap inner : Int) : Bool := itemsOk l && inB gap 0 1048576 && inB inner 0 1048576
def flexEnd (l : List Item) (gap inner : Int) : Held × Nat := flexRun (growsOf l gap inner) gap inner (freeN (startOf (growsOf l gap inner) l)) (startOf (growsOf l gap inner) l)
/-- The sizes of the items of a line. -/
def flexSizes (l : List Item) (gap inner : Int) : List Int := if flexOk l gap inner = true then heldSizes (flexEnd l gap inner).1 else l.map hyp
def flexCount (l : List Item) (gap inner : Int) : Nat := if flexOk l gap inner = true then (flexEnd l gap inner).2 else 0
theorem flexOk_parts {l : List Item} {gap inner : Int} (h : flexOk l gap inner = true) : (∀ x ∈ l, Right x) ∧ l.length ≤ 12 ∧ (0 ≤ gap ∧ gap ≤ 1048576) ∧ 0 ≤ inner ∧ inner ≤ 1048576 := by
  unfold flexOk itemsOk inB at h
  simp only [Bool.and_eq_true, decide_eq_true_eq, List.all_eq_true] at h
  obtain ⟨⟨⟨h1, h2⟩, h3⟩, h4⟩ := h
  exact ⟨fun x hx => right_of (h1 x hx), h2, h3, h4⟩
theorem start_line {l : List Item} (g : Bool) (hr : ∀ x ∈ l, Right x) (hl : l.length ≤ 12) : Line (startOf g l) := by
  refine ⟨fun p hp => ?_, fun p hp s hs => ?_, ?_⟩
  · obtain ⟨x, hx, rfl⟩ := List.mem_map.1 hp
    exact hr x hx
  · obtain ⟨x, hx, rfl⟩ := List.mem_map.1 hp
    simp only at hs
    split at hs
    · rw [← Option.some.inj hs]; exact (hr x hx).hyp
    · cases hs
  · unfold startOf; rw [List.length_map]; exact hl
theorem pass_line {h : Held} {g : Bool} {gap inner : Int} (hl : Line h) : Line (passOf g gap inner h) := by
  have hf : (passOf g gap inner h).map (·.1) = h.map (·.1) := pass_items h
  refine ⟨fun p hp => ?_, fun p hp s hs => ?_, ?_⟩
  · have : p.1 ∈ h.map (·.1) := hf ▸ List.mem_map.2 ⟨p, hp, rfl⟩
    obtain ⟨q, hq, e⟩ := List.mem_map.1 this
    rw [← e]
    exact hl.right q hq
  · have hp' := hp
    unfold passOf flexPass at hp
    split at hp
    · exact share_size h 0 hl p hp s hs
    · obtain ⟨q, hq, rfl⟩ := List.mem_map.1 hp
      have hrq := hl.right q hq
      unfold holdOne at hs
      split at hs
      · rename_i u hu
        exact hl.size q hq s (by rw [hu]; exact hs)
      · split at hs
        · rw [← Option.some.inj hs]; exact hrq.least
        · split at hs
          · rw [← Option.some.inj hs]; exact hrq.upper
          · cases hs
  · have := congrArg List.length hf
    rw [List.length_map, List.length_map] at this
    rw [this]
    exact hl.few
theorem pass_len {h : Held} {g : Bool} {gap inner : Int} : (passOf g gap inner h).length = h.length := by
  have := congrArg List.length (pass_items (grows := g) (all := allOf g h) (rest := restOf g gap inner h) h)
  rw [List.length_map, List.length_map] at this
  exact this
theorem count_le (l : List Item) (g : Bool) (gap inner : Int) (n : Nat) : (flexRun g gap inner n (startOf g l)).2 ≤ l.length := by
  have h1 := flexRun_le (grows := g) (gap := gap) (inner := inner) n (startOf g l)
  have h2 := items_len (startOf g l)
  rw [← freeN_items] at h2
  have h3 : (startOf g l).length = l.length := by unfold startOf; exact List.length_map _
  omega
theorem perm3 {α : Type} (a b c : α) : [a, b, c].Perm [c, b, a] := List.reverse_perm [c, b, a]
theorem start_next {l : List Item} {k : Nat} {x : Item} (g : Bool) (h : l[k]? = some x) : startOf g (l.take (k + 1)) = startOf g (l.take k) ++ [(x, if holdFirst g x = true then some (hyp x) else none)] := by
  unfold startOf; exact map_next _ h
theorem heldL_app (a b : Held) : heldL (a ++ b) = heldL a ++ heldL b := List.map_append
theorem sizes_app (a b : Held) : heldSizes (a ++ b) = heldSizes a ++ heldSizes b := List.map_append
theorem start_len (l : List Item) (g : Bool) (k : Nat) (h : k ≤ l.length) : (startOf g (l.take k)).length = k := by
  unfold startOf; rw [List.length_map, List.length_take]; omega
set_option maxRecDepth 100000 in
set_option maxHeartbeats 4000000 in
theorem l13Pass_nil (gr lc : Nat) (la : Option Addr) (w : World) (h0 : w.cell? ⟨gr, 0 + 0, none⟩ = some (.slice la 0 lc)) :
    Calls Try.prog 94 #[.pointer (some ⟨gr, 0, none⟩)] w fun e w' => e = .returned (.bool false) ∧ Mod (fun _ => False) w w' := by
  refine calls_sx Try.func94 rfl rfl (fun a h1 h2 h3 => ((Fr.nil h1 h2).arg (h3 0 _ rfl))) ?_
  repeat (first | refine SX.seq ?_ | refine SXl.nil ?_ | refine SX.region ?_ | refine SQ.thenNormal ?_ | refine SX.block ?_ | (refine l_assign ?_; (refine SXl.v (OpW.assign rfl) rfl ?_ ?_ ?_); rfl; rfl) | (refine l_buildSlice ?_; first | (refine SXl.lit1 ?_ ?_ rfl rfl rfl (fun g => ?_); rfl; rfl) | (refine SXl.lit0 ?_ ?_ (fun _ h => h) rfl (fun g => ?_); rfl; rfl)))
  rename_i g1
  revert g; intro g2
  refine SX.loop3 (fun (_ _ _ : Unit) => True) (fun _ _ _ => 0) (fun _ _ _ => []) (fun _ _ _ => [⟨.slice (some ⟨g2, 0, none⟩) 0 0, 3, 1, 0, []⟩, ⟨.slice (some ⟨g1, 0, none⟩) 0 0, 3, 1, 0, []⟩]) (fun _ _ _ => []) (fun _ _ _ => [(0, .pointer (some ⟨gr, 0, none⟩)), (3, .slice (some ⟨g1, 0, none⟩) 0 0), (4, .slice (some ⟨g2, 0, none⟩) 0 0), (5, .int .i64 0), (6, .int .i64 0)]) () () () trivial ?_ (fun _ hl => hl) ?_
  · (repeat (first | exact subF_nil _ | (refine subF_cons rfl ?_) | (refine subF_consv rfl (by rfl) ?_)))
  rintro _ _ _ _
  repeat (first | refine SX.seq ?_ | refine SXl.nil ?_ | refine SX.region ?_ | refine SQ.thenNormal ?_ | refine SX.condT rfl ?_ | refine SX.condF rfl ?_ | (refine l_load ?_; (refine SXl.v (OpW.loadOld rfl (by assumption) (fun h => h)) rfl ?_ ?_ ?_); rfl; rfl) | (refine l_fieldAddr ?_; (refine SXl.v (OpW.fieldAddr rfl) rfl ?_ ?_ ?_); rfl; rfl) | (refine l_move ?_; (refine SXl.v (OpW.move rfl) rfl ?_ ?_ ?_); rfl; rfl) | (refine l_assign ?_; (refine SXl.v (OpW.assign rfl) rfl ?_ ?_ ?_); rfl; rfl) | (refine l_len ?_; (refine SXl.v (OpW.len rfl) rfl ?_ ?_ ?_); rfl; rfl) | (refine l_nilCheck ?_; (refine SXl.v (OpW.nilCheck rfl) rfl ?_ ?_ ?_); rfl; rfl) | (refine l_eql ?_; (refine SXl.v (OpW.eqlT rfl rfl (by omega)) rfl ?_ ?_ ?_); rfl; rfl) | (refine l_lss ?_; (refine SXl.v (OpW.lssF rfl rfl (by omega)) rfl ?_ ?_ ?_); rfl; rfl) | refine SX.ret ?_ | refine SX.exit ?_ | refine SQ.thenRet ?_ | refine SQ.thenExit ?_ | refine SQ.blockExit ?_)
  refine SQ.body1 rfl rfl (fun w' hl => ⟨rfl, hl.mod⟩)
set_option maxRecDepth 100000 in
set_option maxHeartbeats 16000000 in
theorem l13Flex_any (l : List Item) (gap inner : Int) (a : Option Addr) (c : Nat) (R : Nat → Prop) (w : World) (hlen : l.length ≤ 1048570) (hf : ∀ x ∈ l, x.Fits) (h : ItemSlice R w a l) (hlow : ∀ k, R k → k < w.heap.size) :
    Calls Try.prog 62 #[.slice a l.length c, .int .i64 gap, .int .i64 inner] w (NewO (Option Addr × Nat) (fun q => .tuple #[lineV (flexSizes l gap inner, q), .int .i64 (flexCount l gap inner : Nat)]) (fun q => [lineO (flexSizes l gap inner, q)]) (fun _ => True) w) := by
  refine calls_sx Try.func62 rfl rfl (fun a h1 h2 h3 => (((Fr.nil h1 h2).arg (h3 2 _ rfl)).arg (h3 1 _ rfl)).arg (h3 0 _ rfl)) ?_
  have hO := fun (w' : World) (hm : Mod (fun _ => False) w w') => sitemsOk_any l a c R w' (by omega) (h.flatKeep hm)
  have hH := fun (w' : World) (hm : Mod (fun _ => False) w w') => shyps_any l a c R w' (by omega) (h.flatKeep hm)
  have hbad : flexOk l gap inner = false → flexSizes l gap inner = l.map hyp ∧ flexCount l gap inner = 0 := fun hb => by
    unfold flexSizes flexCount
    rw [hb]
    exact ⟨rfl, rfl⟩
  cases h1 : itemsOk l
  · rw [h1] at hO
    obtain ⟨e1, e2⟩ := hbad (by unfold flexOk; rw [h1]; rfl)
    rw [e1, e2]
    repeat (first | refine SX.seq ?_ | refine SXl.nil ?_ | refine SX.region ?_ | refine SQ.thenNormal ?_ | refine SX.condT rfl ?_ | (refine SXl.no rfl rfl rfl ?_) | (refine l_call ?_; (refine SXl.v (OpW.call rfl (fun w hl => hO _ hl.mod)) rfl ?_ ?_ ?_); rfl; rfl) | (refine l_move ?_; (refine SXl.v (OpW.move rfl) rfl ?_ ?_ ?_); rfl; rfl) | (refine l_assign ?_; (refine SXl.v (OpW.assign rfl) rfl ?_ ?_ ?_); rfl; rfl) | (refine l_not ?_; (refine SXl.v (OpW.not rfl) rfl ?_ ?_ ?_); rfl; rfl) | (refine l_pick ?_; (refine SXl.v (OpW.pick rfl rfl rfl) rfl ?_ ?_ ?_); rfl; rfl))
    refine l_call ?_
    refine SXl.callO (os := fun q : Option Addr × Nat => [lineO (l.map hyp, q)]) (v := fun q => lineV (l.map hyp, q)) (K := fun _ => True) rfl rfl rfl (fun w' hl => (hH w' hl.mod).mono fun e w2 ⟨a', c', he, ho, hm⟩ => ⟨(a', c'), he, trivial, ⟨fun o hq => by rw [List.mem_singleton.1 hq]; exact ho, List.pairwise_singleton _ _⟩, hm⟩) (fun q _ => ?_)
    repeat (first | refine SXl.nil ?_ | refine SQ.thenNormal ?_ | (refine l_assign ?_; (refine SXl.v (OpW.assign rfl) rfl ?_ ?_ ?_); rfl; rfl) | refine SX.ret ?_ | refine SQ.thenRet ?_)
    refine SQ.body2 rfl rfl rfl (fun w' hl => ⟨q, rfl, trivial, hl.owns, hl.mod⟩)
  rw [h1] at hO
  cases h2 : inB gap 0 1048576
  · obtain ⟨e1, e2⟩ := hbad (by unfold flexOk; rw [h1, h2]; rfl)
    rw [e1, e2]
    repeat (first | refine SX.seq ?_ | refine SXl.nil ?_ | refine SX.region ?_ | refine SQ.thenNormal ?_ | refine SX.condT rfl ?_ | (refine SXl.no rfl rfl rfl ?_) | (refine l_call ?_; (first | refine SXl.v (OpW.call rfl (fun w hl => hO _ hl.mod)) rfl ?_ ?_ ?_ | refine SXl.v (OpW.calls rfl (fun w _ => l01In_any _ _ _ _)) rfl ?_ ?_ ?_); rfl; rfl) | (refine l_move ?_; (refine SXl.v (OpW.move rfl) rfl ?_ ?_ ?_); rfl; rfl) | (refine l_assign ?_; (refine SXl.v (OpW.assign rfl) rfl ?_ ?_ ?_); rfl; rfl) | (refine l_not ?_; (refine SXl.v (OpW.not rfl) rfl ?_ ?_ ?_); rfl; rfl) | (refine l_pick ?_; (refine SXl.v (OpW.pick rfl rfl rfl) rfl ?_ ?_ ?_); rfl; rfl) | (rw [h2]))
    refine l_call ?_
    refine SXl.callO (os := fun q : Option Addr × Nat => [lineO (l.map hyp, q)]) (v := fun q => lineV (l.map hyp, q)) (K := fun _ => True) rfl rfl rfl (fun w' hl => (hH w' hl.mod).mono fun e w2 ⟨a', c', he, ho, hm⟩ => ⟨(a', c'), he, trivial, ⟨fun o hq => by rw [List.mem_singleton.1 hq]; exact ho, List.pairwise_singleton _ _⟩, hm⟩) (fun q _ => ?_)
    repeat (first | refine SXl.nil ?_ | refine SQ.thenNormal ?_ | (refine l_assign ?_; (refine SXl.v (OpW.assign rfl) rfl ?_ ?_ ?_); rfl; rfl) | refine SX.ret ?_ | refine SQ.thenRet ?_)
    refine SQ.body2 rfl rfl rfl (fun w' hl => ⟨q, rfl, trivial, hl.owns, hl.mod⟩)
  cases h3 : inB inner 0 1048576
  · obtain ⟨e1, e2⟩ := hbad (by unfold flexOk; rw [h1, h2, h3]; rfl)
    rw [e1, e2]
    repeat (first | refine SX.seq ?_ | refine SXl.nil ?_ | refine SX.region ?_ | refine SQ.thenNormal ?_ | refine SX.condT rfl ?_ | (refine l_call ?_; (first | refine SXl.v (OpW.call rfl (fun w hl => hO _ hl.mod)) rfl ?_ ?_ ?_ | refine SXl.v (OpW.calls rfl (fun w _ => l01In_any _ _ _ _)) rfl ?_ ?_ ?_); rfl; rfl) | (refine l_move ?_; (refine SXl.v (OpW.move rfl) rfl ?_ ?_ ?_); rfl; rfl) | (refine l_assign ?_; (refine SXl.v (OpW.assign rfl) rfl ?_ ?_ ?_); rfl; rfl) | (refine l_not ?_; (refine SXl.v (OpW.not rfl) rfl ?_ ?_ ?_); rfl; rfl) | (refine l_pick ?_; (refine SXl.v (OpW.pick rfl rfl rfl) rfl ?_ ?_ ?_); rfl; rfl) | (rw [h2]) | (rw [h3]))
    refine l_call ?_
    refine SXl.callO (os := fun q : Option Addr × Nat => [lineO (l.map hyp, q)]) (v := fun q => lineV (l.map hyp, q)) (K := fun _ => True) rfl rfl rfl (fun w' hl => (hH w' hl.mod).mono fun e w2 ⟨a', c', he, ho, hm⟩ => ⟨(a', c'), he, trivial, ⟨fun o hq => by rw [List.mem_singleton.1 hq]; exact ho, List.pairwise_singleton _ _⟩, hm⟩) (fun q _ => ?_)
    repeat (first | refine SXl.nil ?_ | refine SQ.thenNormal ?_ | (refine l_assign ?_; (refine SXl.v (OpW.assign rfl) rfl ?_ ?_ ?_); rfl; rfl) | refine SX.ret ?_ | refine SQ.thenRet ?_)
    refine SQ.body2 rfl rfl rfl (fun w' hl => ⟨q, rfl, trivial, hl.owns, hl.mod⟩)
  have hok : flexOk l gap inner = true := by unfold flexOk; rw [h1, h2, h3]; rfl
  obtain ⟨hr, hl12, hg, hin⟩ := flexOk_parts hok
  have hG := fun (w' : World) (hm : Mod (fun _ => False) w w') => sgrows_any l gap inner a c R w' (by omega) hf (by omega) (h.flatKeep hm)
  have e1 : flexSizes l gap inner = heldSizes (flexEnd l gap inner).1 := by unfold flexSizes; rw [hok]; rfl
  have e2 : flexCount l gap inner = (flexEnd l gap inner).2 := by unfold flexCount; rw [hok]; rfl
  rw [e1, e2]
  unfold flexEnd
  have hcnt := count_le l (growsOf l gap inner) gap inner (freeN (startOf (growsOf l gap inner) l))
  generalize growsOf l gap inner = grows at *
  repeat (first | refine SX.seq ?_ | refine SXl.nil ?_ | refine SX.region ?_ | refine SQ.thenNormal ?_ | refine SX.block ?_ | refine SX.skip ?_ | refine SX.condF rfl ?_ | (refine l_call ?_; (first | refine SXl.v (OpW.call rfl (fun w hl => hO _ hl.mod)) rfl ?_ ?_ ?_ | refine SXl.v (OpW.call rfl (fun w hl => hG _ hl.mod)) rfl ?_ ?_ ?_ | refine SXl.v (OpW.calls rfl (fun w _ => l01In_any _ _ _ _)) rfl ?_ ?_ ?_); rfl; rfl) | (refine l_build ?_; (refine SXl.v ((OpW.build (vals := [(0, .slice a l.length c), (1, .int .i64 gap), (2, .int .i64 inner), (3, .bool grows)]) (cells := [.slice a l.length c, .int .i64 gap, .int .i64 inner, .bool grows, .slice none 0 0, .slice none 0 0, .int .i64 0]) rfl (by kernel_rfl))) rfl ?_ ?_ ?_); rfl; rfl) | (refine l_move ?_; (refine SXl.v (OpW.move rfl) rfl ?_ ?_ ?_); rfl; rfl) | (refine l_assign ?_; (refine SXl.v (OpW.assign rfl) rfl ?_ ?_ ?_); rfl; rfl) | (refine l_not ?_; (refine SXl.v (OpW.not rfl) rfl ?_ ?_ ?_); rfl; rfl) | (refine l_pick ?_; (refine SXl.v (OpW.pick rfl rfl rfl) rfl ?_ ?_ ?_); rfl; rfl) | (refine l_box ?_; refine SXl.box ?_ ?_ rfl rfl (fun g => ?_); rfl; rfl) | (rw [h2]) | (rw [h3]))
  revert g; intro gr
  have hSL := start_line grows hr hl12
  refine SX.ownNil 3 1 ?_
  refine SX.ownNil 4 1 ?_
  refine SX.loop3 (fun (i : Nat) (_ _ : Option Addr × Nat) => i ≤ l.length) (fun i _ _ => l.length - i) (fun i qh qs => [⟨gr, [.slice a l.length c, .int .i64 gap, .int .i64 inner, .bool grows, .slice qh.1 i qh.2, .slice qs.1 i qs.2, .int .i64 0], 124⟩]) (fun i qh qs => [⟨.slice qh.1 i qh.2, 4, 1, i, (heldL (startOf grows (l.take i))).map Value.bool⟩, ⟨.slice qs.1 i qs.2, 3, 1, i, (heldSizes (startOf grows (l.take i))).map (Value.int .i64)⟩]) (fun _ _ _ => []) (fun i _ _ => [(0, .slice a l.length c), (8, .pointer (some ⟨gr, 0, none⟩)), (9, .int .i64 i)]) 0 (none, 0) (none, 0) (Nat.zero_le _) ?_ (fun _ hl => hl) ?_
  · (repeat (first | exact subF_nil _ | (refine subF_cons rfl ?_) | (refine subF_consv rfl (by rfl) ?_)))
  rintro i ⟨ah, ch⟩ ⟨az, cz⟩ hi
  simp only
  by_cases hlt : i < l.length
  · obtain ⟨b1, o1, x, e3, hR1, hb1, hx, hc1⟩ := h.get hlt
    subst e3
    have hS := start_next grows hx
    have hX := hr x (List.mem_of_getElem? hx)
    have c0 := hc1 0 _ rfl
    have hHy := shypOf_c x
    have hhy := hX.hyp
    have hWt := fun (L : List Blk) (O : List Own) (E : List Res) (w' : World) (v1 v2 : Value) (hl : Loc w (Rg.none w) L O E w') (hm : (⟨gr, [.slice (some ⟨b1, o1, none⟩) l.length c, .int .i64 gap, .int .i64 inner, .bool grows, v1, v2, .int .i64 0], 124⟩ : Blk) ∈ L) => l13Weight_any l grows i x gr c (some ⟨b1, o1, none⟩) R w' hx hX (h.flatKeep hl.mod) (blk_cell (hl.blk _ hm).2 rfl) (blk_cell (hl.blk _ hm).2 rfl)
    have hF : holdFirst grows x = (decide (weightOf grows x = 0) || (grows && decide (hyp x < x.base) || !grows && decide (x.base < hyp x))) := rfl
    have hXb := hX.base
    have hwb := hX.weight grows
    generalize hyp x = y at *
    generalize weightOf grows x = wt at *
    by_cases w0 : wt = 0
    · have e4 : holdFirst grows x = true := by rw [hF, decide_eq_true w0]; rfl
      rw [e4, if_pos rfl] at hS
      repeat (first | refine SX.seq ?_ | refine SXl.nil ?_ | refine SX.region ?_ | refine SQ.thenNormal ?_ | refine SX.block ?_ | refine SX.skip ?_ | refine SX.condT rfl ?_ | refine SX.condF rfl ?_ | (refine SXl.no rfl rfl rfl ?_) | (refine l_load ?_; (first | refine SXl.v (OpW.loadRowOld rfl hc1 (Item.cells_len x) (Nat.succ_pos _) (fun h => h)) rfl ?_ ?_ ?_ | refine SXl.v (OpW.load 0 rfl rfl rfl) rfl ?_ ?_ ?_ | refine SXl.v (OpW.load 1 rfl rfl rfl) rfl ?_ ?_ ?_ | refine SXl.v (OpW.loadOld rfl (by assumption) (fun h => h)) rfl ?_ ?_ ?_); rfl; rfl) | (refine l_call ?_; (first | refine SXl.v (OpW.call rfl (fun w hl => hHy _)) rfl ?_ ?_ ?_ | refine SXl.v (OpW.call rfl (fun w hl => hWt _ _ _ _ _ _ hl (.head _))) rfl ?_ ?_ ?_); rfl; rfl) | (refine l_fieldAddr ?_; (refine SXl.v (OpW.fieldAddr rfl) rfl ?_ ?_ ?_); rfl; rfl) | (refine l_move ?_; (refine SXl.v (OpW.move rfl) rfl ?_ ?_ ?_); rfl; rfl) | (refine l_assign ?_; (refine SXl.v (OpW.assign rfl) rfl ?_ ?_ ?_); rfl; rfl) | (refine l_len ?_; (refine SXl.v (OpW.len rfl) rfl ?_ ?_ ?_); rfl; rfl) | (refine l_nilCheck ?_; (refine SXl.v (OpW.nilCheck rfl) rfl ?_ ?_ ?_); rfl; rfl) | (refine l_add ?_; (refine SXl.v (OpW.succ rfl rfl (by omega)) rfl ?_ ?_ ?_); rfl; rfl) | (refine l_eql ?_; (refine SXl.v (OpW.eqlT rfl rfl (by omega)) rfl ?_ ?_ ?_); rfl; rfl) | (refine l_lss ?_; (refine SXl.v (OpW.lssT rfl rfl (by omega)) rfl ?_ ?_ ?_); rfl; rfl) | (refine l_not ?_; (refine SXl.v (OpW.not rfl) rfl ?_ ?_ ?_); rfl; rfl) | (refine l_pick ?_; (refine SXl.v (OpW.pick rfl rfl rfl) rfl ?_ ?_ ?_); rfl; rfl) | (refine l_indexAddr ?_; (refine SXl.v (OpW.indexAddr (by omega) rfl rfl) rfl ?_ ?_ ?_); rfl; rfl) | (refine l_store ?_; first | (refine SXl.store 0 ?_ rfl rfl rfl rfl rfl rfl ?_; rfl; simp only [List.set_cons_zero, List.set_cons_succ]) | (refine SXl.store 1 ?_ rfl rfl rfl rfl rfl rfl ?_; rfl; simp only [List.set_cons_zero, List.set_cons_succ]) | (refine SXl.store 2 ?_ rfl rfl rfl rfl rfl rfl ?_; rfl; simp only [List.set_cons_zero, List.set_cons_succ])) | (refine l_buildSlice ?_; first | (refine SXl.lit1 ?_ ?_ rfl rfl rfl (fun g => ?_); rfl; rfl) | (refine SXl.lit0 ?_ ?_ (fun _ h => h) rfl (fun g => ?_); rfl; rfl)) | (refine l_append ?_; first | (refine SXl.append 0 0 rfl rfl rfl rfl rfl rfl rfl rfl (by omega) (by omega) (fun a c => ?_); simp only [List.set_cons_zero, List.set_cons_succ]) | (refine SXl.append 1 0 rfl rfl rfl rfl rfl rfl rfl rfl (by omega) (by omega) (fun a c => ?_); simp only [List.set_cons_zero, List.set_cons_succ])) | refine SQ.blockNormal ?_)
      rename_i a1 c1
      refine SQ.round3 (i + 1) (a1, c1) (_, _) (by omega) (by omega) ?_ (fun w hl => by rw [hS, heldL_app, sizes_app, List.map_append, List.map_append]; exact hl.drop1.drop1)
      (repeat (first | exact subF_nil _ | (refine subF_cons rfl ?_) | (refine subF_consv rfl (by rfl) ?_)))
    cases grows
    · by_cases d : x.base < y
      · have e4 : holdFirst false x = true := by rw [hF, decide_eq_true d]; simp
        rw [e4, if_pos rfl] at hS
        repeat (first | refine SX.seq ?_ | refine SXl.nil ?_ | refine SX.region ?_ | refine SQ.thenNormal ?_ | refine SX.block ?_ | refine SX.skip ?_ | refine SX.condT rfl ?_ | refine SX.condF rfl ?_ | (refine SXl.no rfl rfl rfl ?_) | (refine l_load ?_; (first | refine SXl.v (OpW.loadRowOld rfl hc1 (Item.cells_len x) (Nat.succ_pos _) (fun h => h)) rfl ?_ ?_ ?_ | refine SXl.v (OpW.load 0 rfl rfl rfl) rfl ?_ ?_ ?_ | refine SXl.v (OpW.load 1 rfl rfl rfl) rfl ?_ ?_ ?_ | refine SXl.v (OpW.loadOld rfl (by assumption) (fun h => h)) rfl ?_ ?_ ?_); rfl; rfl) | (refine l_call ?_; (first | refine SXl.v (OpW.call rfl (fun w hl => hHy _)) rfl ?_ ?_ ?_ | refine SXl.v (OpW.call rfl (fun w hl => hWt _ _ _ _ _ _ hl (.head _))) rfl ?_ ?_ ?_); rfl; rfl) | (refine l_fieldAddr ?_; (refine SXl.v (OpW.fieldAddr rfl) rfl ?_ ?_ ?_); rfl; rfl) | (refine l_move ?_; (refine SXl.v (OpW.move rfl) rfl ?_ ?_ ?_); rfl; rfl) | (refine l_assign ?_; (refine SXl.v (OpW.assign rfl) rfl ?_ ?_ ?_); rfl; rfl) | (refine l_len ?_; (refine SXl.v (OpW.len rfl) rfl ?_ ?_ ?_); rfl; rfl) | (refine l_nilCheck ?_; (refine SXl.v (OpW.nilCheck rfl) rfl ?_ ?_ ?_); rfl; rfl) | (refine l_add ?_; (refine SXl.v (OpW.succ rfl rfl (by omega)) rfl ?_ ?_ ?_); rfl; rfl) | (refine l_eql ?_; (refine SXl.v (OpW.eqlF rfl rfl (by omega)) rfl ?_ ?_ ?_); rfl; rfl) | (refine l_lss ?_; (refine SXl.v (OpW.lssT rfl rfl (by omega)) rfl ?_ ?_ ?_); rfl; rfl) | (refine l_not ?_; (refine SXl.v (OpW.not rfl) rfl ?_ ?_ ?_); rfl; rfl) | (refine l_pick ?_; (refine SXl.v (OpW.pick rfl rfl rfl) rfl ?_ ?_ ?_); rfl; rfl) | (refine l_indexAddr ?_; (refine SXl.v (OpW.indexAddr (by omega) rfl rfl) rfl ?_ ?_ ?_); rfl; rfl) | (refine l_store ?_; first | (refine SXl.store 0 ?_ rfl rfl rfl rfl rfl rfl ?_; rfl; simp only [List.set_cons_zero, List.set_cons_succ]) | (refine SXl.store 1 ?_ rfl rfl rfl rfl rfl rfl ?_; rfl; simp only [List.set_cons_zero, List.set_cons_succ]) | (refine SXl.store 2 ?_ rfl rfl rfl rfl rfl rfl ?_; rfl; simp only [List.set_cons_zero, List.set_cons_succ])) | (refine l_buildSlice ?_; first | (refine SXl.lit1 ?_ ?_ rfl rfl rfl (fun g => ?_); rfl; rfl) | (refine SXl.lit0 ?_ ?_ (fun _ h => h) rfl (fun g => ?_); rfl; rfl)) | (refine l_append ?_; first | (refine SXl.append 0 0 rfl rfl rfl rfl rfl rfl rfl rfl (by omega) (by omega) (fun a c => ?_); simp only [List.set_cons_zero, List.set_cons_succ]) | (refine SXl.append 1 0 rfl rfl rfl rfl rfl rfl rfl rfl (by omega) (by omega) (fun a c => ?_); simp only [List.set_cons_zero, List.set_cons_succ])) | refine SQ.blockNormal ?_)
        rename_i a1 c1
        refine SQ.round3 (i + 1) (a1, c1) (_, _) (by omega) (by omega) ?_ (fun w hl => by rw [hS, heldL_app, sizes_app, List.map_append, List.map_append]; exact hl.drop1.drop1)
        (repeat (first | exact subF_nil _ | (refine subF_cons rfl ?_) | (refine subF_consv rfl (by rfl) ?_)))
      · have e4 : holdFirst false x = false := by rw [hF, decide_eq_false d, decide_eq_false w0]; rfl
        rw [e4, if_neg Bool.false_ne_true] at hS
        repeat (first | refine SX.seq ?_ | refine SXl.nil ?_ | refine SX.region ?_ | refine SQ.thenNormal ?_ | refine SX.block ?_ | refine SX.skip ?_ | refine SX.condT rfl ?_ | (refine SXl.no rfl rfl rfl ?_) | (refine l_load ?_; (first | refine SXl.v (OpW.loadRowOld rfl hc1 (Item.cells_len x) (Nat.succ_pos _) (fun h => h)) rfl ?_ ?_ ?_ | refine SXl.v (OpW.load 0 rfl rfl rfl) rfl ?_ ?_ ?_ | refine SXl.v (OpW.load 1 rfl rfl rfl) rfl ?_ ?_ ?_ | refine SXl.v (OpW.loadOld rfl (by assumption) (fun h => h)) rfl ?_ ?_ ?_); rfl; rfl) | (refine l_call ?_; (first | refine SXl.v (OpW.call rfl (fun w hl => hHy _)) rfl ?_ ?_ ?_ | refine SXl.v (OpW.call rfl (fun w hl => hWt _ _ _ _ _ _ hl (.head _))) rfl ?_ ?_ ?_); rfl; rfl) | (refine l_fieldAddr ?_; (refine SXl.v (OpW.fieldAddr rfl) rfl ?_ ?_ ?_); rfl; rfl) | (refine l_move ?_; (refine SXl.v (OpW.move rfl) rfl ?_ ?_ ?_); rfl; rfl) | (refine l_assign ?_; (refine SXl.v (OpW.assign rfl) rfl ?_ ?_ ?_); rfl; rfl) | (refine l_len ?_; (refine SXl.v (OpW.len rfl) rfl ?_ ?_ ?_); rfl; rfl) | (refine l_nilCheck ?_; (refine SXl.v (OpW.nilCheck rfl) rfl ?_ ?_ ?_); rfl; rfl) | (refine l_add ?_; (refine SXl.v (OpW.succ rfl rfl (by omega)) rfl ?_ ?_ ?_); rfl; rfl) | (refine l_eql ?_; (refine SXl.v (OpW.eqlF rfl rfl (by omega)) rfl ?_ ?_ ?_); rfl; rfl) | (refine l_lss ?_; (first | refine SXl.v (OpW.lssT rfl rfl (by omega)) rfl ?_ ?_ ?_ | refine SXl.v (OpW.lssF rfl rfl (by omega)) rfl ?_ ?_ ?_); rfl; rfl) | (refine l_not ?_; (refine SXl.v (OpW.not rfl) rfl ?_ ?_ ?_); rfl; rfl) | (refine l_pick ?_; (refine SXl.v (OpW.pick rfl rfl rfl) rfl ?_ ?_ ?_); rfl; rfl) | (refine l_indexAddr ?_; (refine SXl.v (OpW.indexAddr (by omega) rfl rfl) rfl ?_ ?_ ?_); rfl; rfl) | (refine l_store ?_; first | (refine SXl.store 0 ?_ rfl rfl rfl rfl rfl rfl ?_; rfl; simp only [List.set_cons_zero, List.set_cons_succ]) | (refine SXl.store 1 ?_ rfl rfl rfl rfl rfl rfl ?_; rfl; simp only [List.set_cons_zero, List.set_cons_succ]) | (refine SXl.store 2 ?_ rfl rfl rfl rfl rfl rfl ?_; rfl; simp only [List.set_cons_zero, List.set_cons_succ])) | (refine l_buildSlice ?_; first | (refine SXl.lit1 ?_ ?_ rfl rfl rfl (fun g => ?_); rfl; rfl) | (refine SXl.lit0 ?_ ?_ (fun _ h => h) rfl (fun g => ?_); rfl; rfl)) | (refine l_append ?_; first | (refine SXl.append 0 0 rfl rfl rfl rfl rfl rfl rfl rfl (by omega) (by omega) (fun a c => ?_); simp only [List.set_cons_zero, List.set_cons_succ]) | (refine SXl.append 1 0 rfl rfl rfl rfl rfl rfl rfl rfl (by omega) (by omega) (fun a c => ?_); simp only [List.set_cons_zero, List.set_cons_succ])) | refine SQ.blockNormal ?_)
        rename_i a1 c1
        refine SQ.round3 (i + 1) (a1, c1) (_, _) (by omega) (by omega) ?_ (fun w hl => by rw [hS, heldL_app, sizes_app, List.map_append, List.map_append]; exact hl.drop1.drop1)
        (repeat (first | exact subF_nil _ | (refine subF_cons rfl ?_) | (refine subF_consv rfl (by rfl) ?_)))
    · by_cases d : y < x.base
      · have e4 : holdFirst true x = true := by rw [hF, decide_eq_true d]; simp
        rw [e4, if_pos rfl] at hS
        repeat (first | refine SX.seq ?_ | refine SXl.nil ?_ | refine SX.region ?_ | refine SQ.thenNormal ?_ | refine SX.block ?_ | refine SX.skip ?_ | refine SX.condT rfl ?_ | refine SX.condF rfl ?_ | (refine SXl.no rfl rfl rfl ?_) | (refine l_load ?_; (first | refine SXl.v (OpW.loadRowOld rfl hc1 (Item.cells_len x) (Nat.succ_pos _) (fun h => h)) rfl ?_ ?_ ?_ | refine SXl.v (OpW.load 0 rfl rfl rfl) rfl ?_ ?_ ?_ | refine SXl.v (OpW.load 1 rfl rfl rfl) rfl ?_ ?_ ?_ | refine SXl.v (OpW.loadOld rfl (by assumption) (fun h => h)) rfl ?_ ?_ ?_); rfl; rfl) | (refine l_call ?_; (first | refine SXl.v (OpW.call rfl (fun w hl => hHy _)) rfl ?_ ?_ ?_ | refine SXl.v (OpW.call rfl (fun w hl => hWt _ _ _ _ _ _ hl (.head _))) rfl ?_ ?_ ?_); rfl; rfl) | (refine l_fieldAddr ?_; (refine SXl.v (OpW.fieldAddr rfl) rfl ?_ ?_ ?_); rfl; rfl) | (refine l_move ?_; (refine SXl.v (OpW.move rfl) rfl ?_ ?_ ?_); rfl; rfl) | (refine l_assign ?_; (refine SXl.v (OpW.assign rfl) rfl ?_ ?_ ?_); rfl; rfl) | (refine l_len ?_; (refine SXl.v (OpW.len rfl) rfl ?_ ?_ ?_); rfl; rfl) | (refine l_nilCheck ?_; (refine SXl.v (OpW.nilCheck rfl) rfl ?_ ?_ ?_); rfl; rfl) | (refine l_add ?_; (refine SXl.v (OpW.succ rfl rfl (by omega)) rfl ?_ ?_ ?_); rfl; rfl) | (refine l_eql ?_; (refine SXl.v (OpW.eqlF rfl rfl (by omega)) rfl ?_ ?_ ?_); rfl; rfl) | (refine l_gtr ?_; (refine SXl.v (OpW.gtrT rfl rfl (by omega)) rfl ?_ ?_ ?_); rfl; rfl) | (refine l_lss ?_; (refine SXl.v (OpW.lssT rfl rfl (by omega)) rfl ?_ ?_ ?_); rfl; rfl) | (refine l_not ?_; (refine SXl.v (OpW.not rfl) rfl ?_ ?_ ?_); rfl; rfl) | (refine l_pick ?_; (refine SXl.v (OpW.pick rfl rfl rfl) rfl ?_ ?_ ?_); rfl; rfl) | (refine l_indexAddr ?_; (refine SXl.v (OpW.indexAddr (by omega) rfl rfl) rfl ?_ ?_ ?_); rfl; rfl) | (refine l_store ?_; first | (refine SXl.store 0 ?_ rfl rfl rfl rfl rfl rfl ?_; rfl; simp only [List.set_cons_zero, List.set_cons_succ]) | (refine SXl.store 1 ?_ rfl rfl rfl rfl rfl rfl ?_; rfl; simp only [List.set_cons_zero, List.set_cons_succ]) | (refine SXl.store 2 ?_ rfl rfl rfl rfl rfl rfl ?_; rfl; simp only [List.set_cons_zero, List.set_cons_succ])) | (refine l_buildSlice ?_; first | (refine SXl.lit1 ?_ ?_ rfl rfl rfl (fun g => ?_); rfl; rfl) | (refine SXl.lit0 ?_ ?_ (fun _ h => h) rfl (fun g => ?_); rfl; rfl)) | (refine l_append ?_; first | (refine SXl.append 0 0 rfl rfl rfl rfl rfl rfl rfl rfl (by omega) (by omega) (fun a c => ?_); simp only [List.set_cons_zero, List.set_cons_succ]) | (refine SXl.append 1 0 rfl rfl rfl rfl rfl rfl rfl rfl (by omega) (by omega) (fun a c => ?_); simp only [List.set_cons_zero, List.set_cons_succ])) | refine SQ.blockNormal ?_)
        rename_i a1 c1
        refine SQ.round3 (i + 1) (a1, c1) (_, _) (by omega) (by omega) ?_ (fun w hl => by rw [hS, heldL_app, sizes_app, List.map_append, List.map_append]; exact hl.drop1.drop1)
        (repeat (first | exact subF_nil _ | (refine subF_cons rfl ?_) | (refine subF_consv rfl (by rfl) ?_)))
      · have e4 : holdFirst true x = false := by rw [hF, decide_eq_false d, decide_eq_false w0]; rfl
        rw [e4, if_neg Bool.false_ne_true] at hS
        repeat (first | refine SX.seq ?_ | refine SXl.nil ?_ | refine SX.region ?_ | refine SQ.thenNormal ?_ | refine SX.block ?_ | refine SX.skip ?_ | refine SX.condT rfl ?_ | (refine SXl.no rfl rfl rfl ?_) | (refine l_load ?_; (first | refine SXl.v (OpW.loadRowOld rfl hc1 (Item.cells_len x) (Nat.succ_pos _) (fun h => h)) rfl ?_ ?_ ?_ | refine SXl.v (OpW.load 0 rfl rfl rfl) rfl ?_ ?_ ?_ | refine SXl.v (OpW.load 1 rfl rfl rfl) rfl ?_ ?_ ?_ | refine SXl.v (OpW.loadOld rfl (by assumption) (fun h => h)) rfl ?_ ?_ ?_); rfl; rfl) | (refine l_call ?_; (first | refine SXl.v (OpW.call rfl (fun w hl => hHy _)) rfl ?_ ?_ ?_ | refine SXl.v (OpW.call rfl (fun w hl => hWt _ _ _ _ _ _ hl (.head _))) rfl ?_ ?_ ?_); rfl; rfl) | (refine l_fieldAddr ?_; (refine SXl.v (OpW.fieldAddr rfl) rfl ?_ ?_ ?_); rfl; rfl) | (refine l_move ?_; (refine SXl.v (OpW.move rfl) rfl ?_ ?_ ?_); rfl; rfl) | (refine l_assign ?_; (refine SXl.v (OpW.assign rfl) rfl ?_ ?_ ?_); rfl; rfl) | (refine l_len ?_; (refine SXl.v (OpW.len rfl) rfl ?_ ?_ ?_); rfl; rfl) | (refine l_nilCheck ?_; (refine SXl.v (OpW.nilCheck rfl) rfl ?_ ?_ ?_); rfl; rfl) | (refine l_add ?_; (refine SXl.v (OpW.succ rfl rfl (by omega)) rfl ?_ ?_ ?_); rfl; rfl) | (refine l_eql ?_; (refine SXl.v (OpW.eqlF rfl rfl (by omega)) rfl ?_ ?_ ?_); rfl; rfl) | (refine l_gtr ?_; (refine SXl.v (OpW.gtrF rfl rfl (by omega)) rfl ?_ ?_ ?_); rfl; rfl) | (refine l_lss ?_; (refine SXl.v (OpW.lssT rfl rfl (by omega)) rfl ?_ ?_ ?_); rfl; rfl) | (refine l_not ?_; (refine SXl.v (OpW.not rfl) rfl ?_ ?_ ?_); rfl; rfl) | (refine l_pick ?_; (refine SXl.v (OpW.pick rfl rfl rfl) rfl ?_ ?_ ?_); rfl; rfl) | (refine l_indexAddr ?_; (refine SXl.v (OpW.indexAddr (by omega) rfl rfl) rfl ?_ ?_ ?_); rfl; rfl) | (refine l_store ?_; first | (refine SXl.store 0 ?_ rfl rfl rfl rfl rfl rfl ?_; rfl; simp only [List.set_cons_zero, List.set_cons_succ]) | (refine SXl.store 1 ?_ rfl rfl rfl rfl rfl rfl ?_; rfl; simp only [List.set_cons_zero, List.set_cons_succ]) | (refine SXl.store 2 ?_ rfl rfl rfl rfl rfl rfl ?_; rfl; simp only [List.set_cons_zero, List.set_cons_succ])) | (refine l_buildSlice ?_; first | (refine SXl.lit1 ?_ ?_ rfl rfl rfl (fun g => ?_); rfl; rfl) | (refine SXl.lit0 ?_ ?_ (fun _ h => h) rfl (fun g => ?_); rfl; rfl)) | (refine l_append ?_; first | (refine SXl.append 0 0 rfl rfl rfl rfl rfl rfl rfl rfl (by omega) (by omega) (fun a c => ?_); simp only [List.set_cons_zero, List.set_cons_succ]) | (refine SXl.append 1 0 rfl rfl rfl rfl rfl rfl rfl rfl (by omega) (by omega) (fun a c => ?_); simp only [List.set_cons_zero, List.set_cons_succ])) | refine SQ.blockNormal ?_)
        rename_i a1 c1
        refine SQ.round3 (i + 1) (a1, c1) (_, _) (by omega) (by omega) ?_ (fun w hl => by rw [hS, heldL_app, sizes_app, List.map_append, List.map_append]; exact hl.drop1.drop1)
        (repeat (first | exact subF_nil _ | (refine subF_cons rfl ?_) | (refine subF_consv rfl (by rfl) ?_)))
  obtain rfl : i = l.length := by omega
  rw [List.take_length] at *
  by_cases hn : l.length = 0
  · have hnil : l = [] := List.length_eq_zero_iff.1 hn
    have hres : ∀ n, flexRun grows gap inner n (startOf grows l) = ([], 0) := fun n => by
      rw [hnil]
      cases n with
      | zero => rfl
      | succ n => rfl
    rw [hres]
    rw [hn] at *
    repeat (first | refine SX.seq ?_ | refine SXl.nil ?_ | refine SX.region ?_ | refine SQ.thenNormal ?_ | refine SX.block ?_ | refine SX.condF rfl ?_ | (refine l_move ?_; (refine SXl.v (OpW.move rfl) rfl ?_ ?_ ?_); rfl; rfl) | (refine l_len ?_; (refine SXl.v (OpW.len rfl) rfl ?_ ?_ ?_); rfl; rfl) | (refine l_lss ?_; (refine SXl.v (OpW.lssF rfl rfl (by omega)) rfl ?_ ?_ ?_); rfl; rfl) | refine SX.exit ?_ | refine SQ.thenExit ?_ | refine SQ.blockExit ?_)
    refine SX.loop3 (fun (_ _ _ : Unit) => True) (fun _ _ _ => 0) (fun _ _ _ => [⟨gr, [.slice a 0 c, .int .i64 gap, .int .i64 inner, .bool grows, .slice ah 0 ch, .slice az 0 cz, .int .i64 0], 124⟩]) (fun _ _ _ => [⟨.slice ah 0 ch, 4, 1, 0, (heldL (startOf grows l)).map Value.bool⟩, ⟨.slice az 0 cz, 3, 1, 0, (heldSizes (startOf grows l)).map (Value.int .i64)⟩]) (fun _ _ _ => []) (fun _ _ _ => [(8, .pointer (some ⟨gr, 0, none⟩))]) () () () trivial ?_ (fun _ hl => hl) ?_
    · (repeat (first | exact subF_nil _ | (refine subF_cons rfl ?_) | (refine subF_consv rfl (by rfl) ?_)))
    rintro _ _ _ _
    repeat (first | refine SX.seq ?_ | refine SXl.nil ?_ | refine SX.region ?_ | refine SQ.thenNormal ?_ | refine SX.condF rfl ?_ | (refine l_call ?_; (refine SXl.v (OpW.call rfl (fun w hl => l13Pass_nil gr c a _ (blk_cell (hl.blk _ (.head _)).2 rfl))) rfl ?_ ?_ ?_); rfl; rfl) | (refine l_move ?_; (refine SXl.v (OpW.move rfl) rfl ?_ ?_ ?_); rfl; rfl) | refine SX.drawn (by kernel_rfl) (by kernel_rfl) ?_ | refine SXr.nil ?_ | (refine r_load ?_; (refine SXr.v (OpW.load 0 rfl rfl rfl) rfl ?_ ?_ ?_); rfl; rfl) | (refine r_fieldAddr ?_; (refine SXr.v (OpW.fieldAddr rfl) rfl ?_ ?_ ?_); rfl; rfl) | (refine r_move ?_; (refine SXr.v (OpW.move rfl) rfl ?_ ?_ ?_); rfl; rfl) | (refine r_assign ?_; (refine SXr.v (OpW.assign rfl) rfl ?_ ?_ ?_); rfl; rfl) | (refine r_nilCheck ?_; (refine SXr.v (OpW.nilCheck rfl) rfl ?_ ?_ ?_); rfl; rfl) | refine SX.ret ?_ | refine SX.exit ?_ | refine SQ.thenExit ?_ | refine SQ.blockExit ?_)
    refine SQ.body2 rfl rfl rfl (fun w' hl => ⟨(az, cz), rfl, trivial, ?_, hl.mod⟩)
    have := hl.dropO.owns
    rw [hnil] at this
    exact this
  have hpos : 0 < l.length := by omega
  refine SX.knowI (fun w' hl => own_addr (hl.own _ (.head _)).1 hpos) (fun ⟨gh, e5⟩ => ?_)
  refine SX.knowI (fun w' hl => own_addr (hl.own _ (.tail _ (.head _))).1 hpos) (fun ⟨gz, e6⟩ => ?_)
  subst e5 e6
  repeat (first | refine SX.seq ?_ | refine SXl.nil ?_ | refine SX.region ?_ | refine SQ.thenNormal ?_ | refine SX.block ?_ | refine SX.condF rfl ?_ | (refine l_move ?_; (refine SXl.v (OpW.move rfl) rfl ?_ ?_ ?_); rfl; rfl) | (refine l_len ?_; (refine SXl.v (OpW.len rfl) rfl ?_ ?_ ?_); rfl; rfl) | (refine l_lss ?_; (refine SXl.v (OpW.lssF rfl rfl (by omega)) rfl ?_ ?_ ?_); rfl; rfl) | refine SX.exit ?_ | refine SQ.thenExit ?_ | refine SQ.blockExit ?_)
  refine SX.ownB hpos (fun sh hc1 hc2 => ?_)
  refine SX.ownB hpos (fun ss hz1 hz2 => ?_)
  have hzc : l.length + ss.length = cz := by
    have := hz1
    rw [List.length_map, sizes_len] at this
    unfold startOf at this
    rw [List.length_map] at this
    exact this
  have hdone := flexRun_done (grows := grows) (gap := gap) (inner := inner) (freeN (startOf grows l)) (startOf grows l) (Nat.le_refl _)
  refine SX.loop3 (fun (hh : Held) (p : Nat) (_ : Unit) => Line hh ∧ hh.map (·.1) = l ∧ hh.length = l.length ∧ p + (flexRun grows gap inner (freeN hh) hh).2 = (flexRun grows gap inner (freeN (startOf grows l)) (startOf grows l)).2 ∧ (flexRun grows gap inner (freeN hh) hh).1 = (flexRun grows gap inner (freeN (startOf grows l)) (startOf grows l)).1) (fun hh _ _ => freeN hh) (fun hh p _ => runBs gr gh gz a c gap inner grows ch cz sh ss l.length hh p) (fun _ _ _ => []) (fun _ _ _ => []) (fun _ _ _ => [(8, .pointer (some ⟨gr, 0, none⟩))]) (startOf grows l) 0 () ⟨hSL, start_items l, by unfold startOf; exact List.length_map _, Nat.zero_add _, rfl⟩ ?_ (fun w' hl => hl.blkPerm (perm3 _ _ _)) ?_
  · (repeat (first | exact subF_nil _ | (refine subF_cons rfl ?_) | (refine subF_consv rfl (by rfl) ?_)))
  generalize flexRun grows gap inner (freeN (startOf grows l)) (startOf grows l) = FE at *
  rintro hh p _ ⟨i1, i2, i3, i4, i5⟩
  have hP : ∀ w', Loc w (Rg.none w) (runBs gr gh gz a c gap inner grows ch cz sh ss l.length hh p) [] [] w' → Calls Try.prog 94 #[.pointer (some ⟨gr, 0, none⟩)] w' fun e w2 => e = .returned (.bool (decide (freeN hh ≠ 0))) ∧ Mod (fun k => k ∈ [gr, gh, gz]) w' w2 ∧
      ∀ b ∈ runBs gr gh gz a c gap inner grows ch cz sh ss l.length (if freeN hh = 0 then hh else passOf grows gap inner hh) (if freeN hh = 0 then p else p + 1), w2.heap[b.g]? = some (.cells b.cells.toArray b.T (0, 0)) := fun w' hl => by
    refine l13Pass_any l hh l.length gr gh gz c ch cz p a gap inner grows sh ss R w' i1 i2 i3 hg hin (by omega) (h.flatKeep hl.mod) (fun k hk hm => ?_) (List.pairwise_map.2 hl.apart) (fun b hb => (hl.blk b hb).2)
    have hk2 := hlow k hk
    have hnew : ∀ b ∈ (runBs gr gh gz a c gap inner grows ch cz sh ss l.length hh p), w.heap.size ≤ b.g := fun b hb => by
      rcases (hl.blk b hb).1 with hq | hq
      · exact hq.elim
      · exact hq
    have n1 := hnew _ (.head _)
    have n2 := hnew _ (.tail _ (.head _))
    have n3 := hnew _ (.tail _ (.tail _ (.head _)))
    simp only at n1 n2 n3
    simp only [List.mem_cons, List.not_mem_nil, or_false] at hm
    omega
  by_cases h0 : freeN hh = 0
  · rw [decide_eq_false (fun hc => hc h0), if_pos h0, if_pos h0] at hP
    rw [flexRun_stop h0] at i4 i5
    simp only [Nat.add_zero] at i4 i5
    repeat (first | refine SX.seq ?_ | refine SX.region ?_ | (refine l_move ?_; (refine SXl.v (OpW.move rfl) rfl ?_ ?_ ?_); rfl; rfl))
    refine l_call ?_
    refine SXl.callBs (L' := runBs gr gh gz a c gap inner grows ch cz sh ss l.length hh p) rfl rfl rfl rfl (fun w' hl => hP w' hl) ?_
    repeat (first | refine SX.seq ?_ | refine SXl.nil ?_ | refine SQ.thenNormal ?_ | refine SX.condF rfl ?_ | refine SX.drawn (by kernel_rfl) (by kernel_rfl) ?_ | refine SXr.nil ?_ | (refine r_load ?_; (refine SXr.v (OpW.load 0 rfl rfl rfl) rfl ?_ ?_ ?_); rfl; rfl) | (refine r_fieldAddr ?_; (refine SXr.v (OpW.fieldAddr rfl) rfl ?_ ?_ ?_); rfl; rfl) | (refine r_move ?_; (refine SXr.v (OpW.move rfl) rfl ?_ ?_ ?_); rfl; rfl) | (refine r_assign ?_; (refine SXr.v (OpW.assign rfl) rfl ?_ ?_ ?_); rfl; rfl) | (refine r_nilCheck ?_; (refine SXr.v (OpW.nilCheck rfl) rfl ?_ ?_ ?_); rfl; rfl) | refine SX.ret ?_ | refine SX.exit ?_ | refine SQ.thenExit ?_ | refine SQ.blockExit ?_)
    rw [← i4, ← i5]
    refine SQ.body2 rfl rfl rfl (fun w' hl => ⟨(some ⟨gz, 0, none⟩, cz), by show _ = Ending.returned (.tuple #[.slice (some ⟨gz, 0, none⟩) (heldSizes hh).length cz, .int .i64 (p : Int)]); rw [sizes_len, i3], trivial, ?_, hl.mod⟩)
    have hb := (hl.blkPerm (perm3 _ _ _)).ownBack (m := l.length) (c := cz) (fun _ h => h) (by rw [List.length_map, sizes_len, i3]) (by rw [List.length_map, sizes_len, i3]; exact hzc) hz2
    have ho := hb.owns
    show Owns w.heap.size w' [⟨.slice (some ⟨gz, 0, none⟩) (heldSizes hh).length cz, 3, 1, (heldSizes hh).length, ((heldSizes hh).map icell).flatten⟩]
    rw [ints_flat, sizes_len, i3]
    exact ho
  · have hfl := passOf_less (grows := grows) (gap := gap) (inner := inner) h0
    rw [decide_eq_true h0, if_neg h0, if_neg h0] at hP
    rw [flexRun_step h0] at i4 i5
    simp only at i4 i5
    repeat (first | refine SX.seq ?_ | refine SX.region ?_ | (refine l_move ?_; (refine SXl.v (OpW.move rfl) rfl ?_ ?_ ?_); rfl; rfl))
    refine l_call ?_
    refine SXl.callBs (L' := runBs gr gh gz a c gap inner grows ch cz sh ss l.length (passOf grows gap inner hh) (p + 1)) rfl rfl rfl rfl (fun w' hl => hP w' hl) ?_
    repeat (first | refine SXl.nil ?_ | refine SQ.thenNormal ?_ | refine SX.block ?_ | refine SX.skip ?_ | refine SX.condT rfl ?_ | refine SQ.blockNormal ?_)
    refine SQ.round3 (passOf grows gap inner hh) (p + 1) () ⟨pass_line i1, (pass_items hh).trans i2, pass_len.trans i3, by omega, i5⟩ hfl ?_ (fun _ hl => hl)
    (repeat (first | exact subF_nil _ | (refine subF_cons rfl ?_) | (refine subF_consv rfl (by rfl) ?_)))
set_option maxRecDepth 100000 in
set_option maxHeartbeats 4000000 in
theorem sflexLine_any (l : List Item) (gap inner : Int) (a : Option Addr) (c : Nat) (R : Nat → Prop) (w : World) (hlen : l.length ≤ 1048570) (hf : ∀ x ∈ l, x.Fits) (h : ItemSlice R w a l) (hlow : ∀ k, R k → k < w.heap.size) :
    Calls Try.prog 26 #[.slice a l.length c, .int .i64 gap, .int .i64 inner] w (NewO (Option Addr × Nat) (fun q => lineV (flexSizes l gap inner, q)) (fun q => [lineO (flexSizes l gap inner, q)]) (fun _ => True) w) := by
  refine calls_sx Try.func26 rfl rfl (fun a h1 h2 h3 => (((Fr.nil h1 h2).arg (h3 2 _ rfl)).arg (h3 1 _ rfl)).arg (h3 0 _ rfl)) ?_
  repeat (first | refine SX.seq ?_ | refine SXl.nil ?_ | refine SX.region ?_ | refine SQ.thenNormal ?_ | (refine l_move ?_; (refine SXl.v (OpW.move rfl) rfl ?_ ?_ ?_); rfl; rfl) | (refine l_assign ?_; (refine SXl.v (OpW.assign rfl) rfl ?_ ?_ ?_); rfl; rfl))
  refine l_call ?_
  refine SXl.callO rfl rfl rfl (fun w' hl => l13Flex_any l gap inner a c R w' hlen hf (h.flatKeep hl.mod) (fun k hk => Nat.lt_of_lt_of_le (hlow k hk) hl.mod.size)) (fun q _ => ?_)
  repeat (first | refine SX.seq ?_ | refine SXl.nil ?_ | refine SX.region ?_ | refine SQ.thenNormal ?_ | (refine l_move ?_; (refine SXl.v (OpW.move rfl) rfl ?_ ?_ ?_); rfl; rfl) | (refine l_assign ?_; (refine SXl.v (OpW.assign rfl) rfl ?_ ?_ ?_); rfl; rfl) | (refine l_extract ?_; (refine SXl.v (OpW.extract rfl rfl) rfl ?_ ?_ ?_); rfl; rfl) | refine SX.ret ?_)
  refine SQ.body1 rfl rfl (fun w' hl => ⟨q, rfl, trivial, hl.owns, hl.mod⟩)
set_option maxRecDepth 100000 in
set_option maxHeartbeats 4000000 in
theorem sflexPasses_any (l : List Item) (gap inner : Int) (a : Option Addr) (c : Nat) (R : Nat → Prop) (w : World) (hlen : l.length ≤ 1048570) (hf : ∀ x ∈ l, x.Fits) (h : ItemSlice R w a l) (hlow : ∀ k, R k → k < w.heap.size) :
    Calls Try.prog 27 #[.slice a l.length c, .int .i64 gap, .int .i64 inner] w fun e w' => e = .returned (.int .i64 (flexCount l gap inner : Nat)) ∧ Mod (fun _ => False) w w' := by
  refine calls_sx Try.func27 rfl rfl (fun a h1 h2 h3 => (((Fr.nil h1 h2).arg (h3 2 _ rfl)).arg (h3 1 _ rfl)).arg (h3 0 _ rfl)) ?_
  repeat (first | refine SX.seq ?_ | refine SXl.nil ?_ | refine SX.region ?_ | refine SQ.thenNormal ?_ | (refine l_move ?_; (refine SXl.v (OpW.move rfl) rfl ?_ ?_ ?_); rfl; rfl) | (refine l_assign ?_; (refine SXl.v (OpW.assign rfl) rfl ?_ ?_ ?_); rfl; rfl))
  refine l_call ?_
  refine SXl.callO rfl rfl rfl (fun w' hl => l13Flex_any l gap inner a c R w' hlen hf (h.flatKeep hl.mod) (fun k hk => Nat.lt_of_lt_of_le (hlow k hk) hl.mod.size)) (fun q _ => ?_)
  repeat (first | refine SX.seq ?_ | refine SXl.nil ?_ | refine SX.region ?_ | refine SQ.thenNormal ?_ | (refine l_move ?_; (refine SXl.v (OpW.move rfl) rfl ?_ ?_ ?_); rfl; rfl) | (refine l_assign ?_; (refine SXl.v (OpW.assign rfl) rfl ?_ ?_ ?_); rfl; rfl) | (refine l_extract ?_; (refine SXl.v (OpW.extract rfl rfl) rfl ?_ ?_ ?_); rfl; rfl) | refine SX.ret ?_)
  refine SQ.body1 rfl rfl (fun w' hl => ⟨rfl, hl.mod⟩)
end Go.Proofs.Ytdohglcjjlmhhaa
namespace Go.Proofs.Ytdohglcjjlmhhaa
open Go.RowKit
set_option linter.unusedVariables false
set_option linter.unusedSimpArgs false

set_option maxRecDepth 100000 in
set_option maxHeartbeats 4000000 in
theorem passI_nil (gr lc sc : Nat) (la sa : Option Addr) (w : World) (h0 : w.cell? ⟨gr, 0 + 0, none⟩ = some (.slice la 0 lc)) (h4 : w.cell? ⟨gr, 0 + 4, none⟩ = some (.slice sa 0 sc)) :
    Calls Try.prog 92 #[.pointer (some ⟨gr, 0, none⟩)] w fun e w' => e = .returned (.bool false) ∧ Mod (fun _ => False) w w' := by
  refine calls_sx Try.func92 rfl rfl (fun a h1 h2 h3 => ((Fr.nil h1 h2).arg (h3 0 _ rfl))) ?_
  repeat (first | refine SX.seq ?_ | refine SXl.nil ?_ | refine SX.region ?_ | refine SQ.thenNormal ?_ | (refine l_load ?_; (refine SXl.v (OpW.loadOld rfl (by assumption) (fun h => h)) rfl ?_ ?_ ?_); rfl; rfl) | (refine l_fieldAddr ?_; (refine SXl.v (OpW.fieldAddr rfl) rfl ?_ ?_ ?_); rfl; rfl) | (refine l_move ?_; (refine SXl.v (OpW.move rfl) rfl ?_ ?_ ?_); rfl; rfl) | (refine l_assign ?_; (refine SXl.v (OpW.assign rfl) rfl ?_ ?_ ?_); rfl; rfl) | (refine l_nilCheck ?_; (refine SXl.v (OpW.nilCheck rfl) rfl ?_ ?_ ?_); rfl; rfl))
  refine l_call ?_
  refine SXl.callO rfl rfl rfl (fun w' hl => copyLine_any [] sa sc (fun _ => True) w' (by decide) SliceAt.nil) (fun q _ => ?_)
  repeat (first | refine SX.seq ?_ | refine SXl.nil ?_ | refine SX.region ?_ | refine SQ.thenNormal ?_ | refine SX.block ?_ | (refine l_load ?_; (refine SXl.v (OpW.loadOld rfl (by assumption) (fun h => h)) rfl ?_ ?_ ?_); rfl; rfl) | (refine l_fieldAddr ?_; (refine SXl.v (OpW.fieldAddr rfl) rfl ?_ ?_ ?_); rfl; rfl) | (refine l_move ?_; (refine SXl.v (OpW.move rfl) rfl ?_ ?_ ?_); rfl; rfl) | (refine l_assign ?_; (refine SXl.v (OpW.assign rfl) rfl ?_ ?_ ?_); rfl; rfl) | (refine l_len ?_; (refine SXl.v (OpW.len rfl) rfl ?_ ?_ ?_); rfl; rfl) | (refine l_nilCheck ?_; (refine SXl.v (OpW.nilCheck rfl) rfl ?_ ?_ ?_); rfl; rfl))
  refine SX.loop3 (fun (_ _ _ : Unit) => True) (fun _ _ _ => 0) (fun _ _ _ => []) (fun _ _ _ => []) (fun _ _ _ => []) (fun _ _ _ => [(0, .pointer (some ⟨gr, 0, none⟩)), (3, .slice none 0 0), (4, lineV ([], q)), (5, .int .i64 0), (33, .slice la 0 lc), (34, .int .i64 0), (35, .int .i64 0)]) () () () trivial ?_ (fun _ hl => hl.ownSub (List.nil_sublist _)) ?_
  · (repeat (first | exact subF_nil _ | (refine subF_cons rfl ?_) | (refine subF_consv rfl (by rfl) ?_)))
  rintro _ _ _ _
  repeat (first | refine SX.seq ?_ | refine SXl.nil ?_ | refine SX.region ?_ | refine SQ.thenNormal ?_ | refine SX.condT rfl ?_ | refine SX.condF rfl ?_ | (refine l_move ?_; (refine SXl.v (OpW.move rfl) rfl ?_ ?_ ?_); rfl; rfl) | (refine l_assign ?_; (refine SXl.v (OpW.assign rfl) rfl ?_ ?_ ?_); rfl; rfl) | (refine l_len ?_; (refine SXl.v (OpW.len rfl) rfl ?_ ?_ ?_); rfl; rfl) | (refine l_eql ?_; (refine SXl.v (OpW.eqlT rfl rfl (by omega)) rfl ?_ ?_ ?_); rfl; rfl) | (refine l_lss ?_; (refine SXl.v (OpW.lssF rfl rfl (by omega)) rfl ?_ ?_ ?_); rfl; rfl) | refine SX.ret ?_ | refine SX.exit ?_ | refine SQ.thenRet ?_ | refine SQ.thenExit ?_ | refine SQ.blockExit ?_)
  refine SQ.body1 rfl rfl (fun w' hl => ⟨rfl, hl.mod⟩)
/-- What the record's making draws. -/
structure FlexG where
  q : Option Addr × Nat
  gb : Nat
  ga : Nat
theorem start_szI (l : List Item) (g : Bool) : szI (startOf g l) = l.map hyp := by
  unfold szI startOf
  rw [List.map_map]
  refine List.map_congr_left fun x _ => ?_
  simp only [Function.comp]
  split <;> rfl
theorem flags_set {h : List Bool} {n i : Nat} (hi : h.length = i) (hn : i < n) (b : Bool) : (h.map Value.bool ++ List.replicate (n - i) (Value.bool false)).set (0 + i) (.bool b) = (h ++ [b]).map Value.bool ++ List.replicate (n - (i + 1)) (Value.bool false) := by
  have e : (h.map Value.bool).length = i := by rw [List.length_map, hi]
  rw [Nat.zero_add, List.set_append_right _ _ (by omega), e, Nat.sub_self, show n - i = (n - (i + 1)) + 1 by omega, List.replicate_succ, List.set_cons_zero, List.map_append, List.append_assoc]
  rfl
abbrev FlexR := (Option Addr × Nat) × Bool × Value
set_option maxRecDepth 100000 in
set_option maxHeartbeats 32000000 in
theorem flexed_any (l : List Item) (gap inner : Int) (a : Option Addr) (c : Nat) (R : Nat → Prop) (w : World) (hlen : l.length ≤ 1048570) (hf : ∀ x ∈ l, x.Fits) (h : ItemSlice R w a l) (hlow : ∀ k, R k → k < w.heap.size) :
    Calls Try.prog 61 #[.slice a l.length c, .int .i64 gap, .int .i64 inner] w (NewO FlexR (fun q => .agg [.slice a l.length c, .int .i64 gap, .int .i64 inner, .bool q.2.1, lineV (flexSizes l gap inner, q.1), q.2.2, .int .i64 (flexCount l gap inner : Nat)].toArray) (fun q => [lineO (flexSizes l gap inner, q.1)]) (fun _ => True) w) := by
  refine calls_sx Try.func61 rfl rfl (fun a h1 h2 h3 => (((Fr.nil h1 h2).arg (h3 2 _ rfl)).arg (h3 1 _ rfl)).arg (h3 0 _ rfl)) ?_
  have hO := fun (w' : World) (hm : Mod (fun _ => False) w w') => itemsOk_any l a c R w' (by omega) (h.flatKeep hm)
  have hH := fun (w' : World) (hm : Mod (fun _ => False) w w') => hypsOf_any l a c R w' (by omega) (h.flatKeep hm)
  have hHO := fun (w' : World) (hm : Mod (fun _ => False) w w') => (hH w' hm).mono (fun e w2 (⟨a', c', he, ho, hm⟩ : NewSlice 3 1 w' (l.map hyp).length ((l.map hyp).map icell).flatten e w2) => (⟨(a', c'), he, trivial, ⟨fun o hq => by rw [List.mem_singleton.1 hq]; exact ho, List.pairwise_singleton _ _⟩, hm⟩ : NewO (Option Addr × Nat) (fun q => lineV (l.map hyp, q)) (fun q => [lineO (l.map hyp, q)]) (fun _ => True) w' e w2))
  have hbad : flexOk l gap inner = false → flexSizes l gap inner = l.map hyp ∧ flexCount l gap inner = 0 := fun hb => by
    unfold flexSizes flexCount
    rw [hb]
    exact ⟨rfl, rfl⟩
  repeat (first | refine SX.seq ?_ | refine SXl.nil ?_ | refine SX.region ?_ | refine SQ.thenNormal ?_ | (refine l_alloc ?_; refine SXl.alloc ?_ ?_ (fun g => ?_); rfl; rfl))
  revert g; intro g6
  refine SX.drawnG (ζ := FlexG) 10 (fun d p => (bif d 9 then [⟨p.ga, [.slice none 0 0, .int .i64 0, .int .i64 0, .bool false, .slice none 0 0, .slice none 0 0, .int .i64 0], 95⟩] else []) ++ ((bif d 7 then [⟨p.gb, List.replicate l.length (.bool false), 4⟩] else []) ++ [⟨g6, [.slice none 0 0, .int .i64 0, .int .i64 0, .bool false, .slice none 0 0, .slice none 0 0, .int .i64 0], 95⟩])) (fun d p => bif d 4 then [lineO (l.map hyp, p.q)] else []) (fun _ _ => []) [(4, fun p v => v = lineV (l.map hyp, p.q)), (7, fun p v => v = .slice (some ⟨p.gb, 0, none⟩) l.length l.length), (9, fun p v => v = .pointer (some ⟨p.ga, 0, none⟩))] ⟨(none, 0), 0, 0⟩ (by kernel_rfl) (by kernel_rfl) (by kernel_rfl) ⟨rfl, rfl, rfl⟩ ?_
  repeat ((refine SXg.v0 (fun dn x p ha hK => (OpW.move rfl)) rfl (fun _ => rfl) rfl (fun _ _ => ⟨rfl, rfl, rfl⟩) rfl ?_))
  refine SXg.l rfl (fun _ => rfl) rfl (fun dn x p ha hk => ?_) ?_
  · have d4 : dn 4 = false := ha.not
    have u4 : upd dn 4 4 = true := rfl
    have u7 : upd dn 4 7 = dn 7 := rfl
    have u9 : upd dn 4 9 = dn 9 := rfl
    simp only [d4, cond_true, cond_false, List.append_nil, List.nil_append]
    refine SXl.callO rfl rfl rfl (fun w' hl => hHO w' hl.mod) (fun q _ => ?_)
    refine SXl.nil (SQ.g { p with q := q } _ rfl (fun w hl => ?_) ⟨fun _ => rfl, hk.2.1, hk.2.2.1, trivial⟩)
    simp only [u4, u7, u9, cond_true, cond_false, List.append_nil, List.nil_append]
    exact hl
  repeat (first | (refine SXg.v0 (fun dn x p ha hK => (OpW.move rfl)) rfl (fun _ => rfl) rfl (fun _ _ => ⟨rfl, rfl, rfl⟩) rfl ?_) | (refine SXg.v0 (fun dn x p ha hK => (OpW.len rfl)) rfl (fun _ => rfl) rfl (fun _ _ => ⟨rfl, rfl, rfl⟩) rfl ?_))
  refine SXg.l rfl (fun _ => rfl) rfl (fun dn x p ha hk => ?_) ?_
  · have d7 : dn 7 = false := ha.not
    have u7 : upd dn 7 7 = true := rfl
    have u4 : upd dn 7 4 = dn 4 := rfl
    have u9 : upd dn 7 9 = dn 9 := rfl
    simp only [d7, cond_true, cond_false, List.append_nil, List.nil_append]
    refine SXl.makeI (m := l.length) (z := .bool false) rfl rfl rfl rfl rfl (by omega) (by omega) (fun g => ?_)
    refine SXl.nil (SQ.g { p with gb := g } _ rfl (fun w hl => ?_) ⟨hk.1, fun _ => rfl, hk.2.2.1, trivial⟩)
    simp only [u7, u4, u9, cond_true, cond_false, List.append_nil, List.nil_append]
    exact hl.blkPerm List.perm_middle
  refine SXg.v [4, 7] (fun x => .agg #[.slice a l.length c, .int .i64 gap, .int .i64 inner, .bool false, x 4, x 7, .int .i64 0]) (by kernel_rfl) (fun x y h => by rw [h 4 (by simp), h 7 (by simp)]) (fun dn x p ha hk => ?_) rfl (fun _ => rfl) rfl (fun _ _ => ⟨rfl, rfl, rfl⟩) rfl ?_
  · have x4 : x 4 = lineV (l.map hyp, p.q) := hk.1 (ha.done 4 (by kernel_rfl))
    have x7 : x 7 = .slice (some ⟨p.gb, 0, none⟩) l.length l.length := hk.2.1 (ha.done 7 (by kernel_rfl))
    simp only [x4, x7]
    exact OpW.build (vals := [(0, .slice a l.length c), (1, .int .i64 gap), (2, .int .i64 inner), (4, lineV (l.map hyp, p.q)), (5, .slice (some ⟨p.gb, 0, none⟩) l.length l.length)]) (cells := [.slice a l.length c, .int .i64 gap, .int .i64 inner, .bool false, lineV (l.map hyp, p.q), .slice (some ⟨p.gb, 0, none⟩) l.length l.length, .int .i64 0]) rfl (by kernel_rfl)
  refine SXg.l rfl (fun _ => rfl) rfl (fun dn x p ha hk => ?_) ?_
  · have d9 : dn 9 = false := ha.not
    have u9 : upd dn 9 9 = true := rfl
    have u4 : upd dn 9 4 = dn 4 := rfl
    have u7 : upd dn 9 7 = dn 7 := rfl
    simp only [d9, cond_true, cond_false, List.append_nil, List.nil_append]
    refine SXl.alloc rfl rfl (fun g => ?_)
    refine SXl.nil (SQ.g { p with ga := g } _ rfl (fun w hl => ?_) ⟨hk.1, hk.2.1, fun _ => rfl, trivial⟩)
    simp only [u9, u4, u7, cond_true, cond_false, List.append_nil, List.nil_append]
    exact hl
  refine SXg.tail (fun xq pp hkq => ?_)
  have x4 : xq 4 = lineV (l.map hyp, pp.q) := hkq.1 rfl
  have x7 : xq 7 = .slice (some ⟨pp.gb, 0, none⟩) l.length l.length := hkq.2.1 rfl
  have x9 : xq 9 = .pointer (some ⟨pp.ga, 0, none⟩) := hkq.2.2.1 rfl
  simp only [x4, x7, x9]
  obtain ⟨⟨az, cz⟩, gb, ga⟩ := pp
  simp only [lineV]
  change SXl _ _ _ _ _ [⟨ga, [.slice none 0 0, .int .i64 0, .int .i64 0, .bool false, .slice none 0 0, .slice none 0 0, .int .i64 0], 95⟩, ⟨gb, List.replicate l.length (.bool false), 4⟩, ⟨g6, [.slice none 0 0, .int .i64 0, .int .i64 0, .bool false, .slice none 0 0, .slice none 0 0, .int .i64 0], 95⟩] [lineO (l.map hyp, (az, cz))] [] _ _ _
  repeat (first | refine SX.seq ?_ | refine SXl.nil ?_ | refine SX.region ?_ | refine SQ.thenNormal ?_ | (refine l_move ?_; (refine SXl.v (OpW.move rfl) rfl ?_ ?_ ?_); rfl; rfl) | (refine l_store ?_; first | (refine SXl.store 0 ?_ rfl rfl rfl rfl rfl rfl ?_; rfl; simp only [List.set_cons_zero, List.set_cons_succ]) | (refine SXl.store 1 ?_ rfl rfl rfl rfl rfl rfl ?_; rfl; simp only [List.set_cons_zero, List.set_cons_succ]) | (refine SXl.store 2 ?_ rfl rfl rfl rfl rfl rfl ?_; rfl; simp only [List.set_cons_zero, List.set_cons_succ]) | (refine SXl.storeAll 0 ?_ rfl rfl rfl rfl rfl rfl rfl ?_; rfl; simp only [List.set_cons_zero, List.set_cons_succ]) | (refine SXl.storeAll 1 ?_ rfl rfl rfl rfl rfl rfl rfl ?_; rfl; simp only [List.set_cons_zero, List.set_cons_succ]) | (refine SXl.storeAll 2 ?_ rfl rfl rfl rfl rfl rfl rfl ?_; rfl; simp only [List.set_cons_zero, List.set_cons_succ]) | (refine SXl.storeRow 0 ?_ rfl rfl rfl rfl rfl rfl rfl ?_; rfl; simp only [over, List.set_cons_zero, List.set_cons_succ]) | (refine SXl.storeRow 1 ?_ rfl rfl rfl rfl rfl rfl rfl ?_; rfl; simp only [over, List.set_cons_zero, List.set_cons_succ]) | (refine SXl.storeRow 2 ?_ rfl rfl rfl rfl rfl rfl rfl ?_; rfl; simp only [over, List.set_cons_zero, List.set_cons_succ])))
  cases h1 : itemsOk l
  · rw [h1] at hO
    obtain ⟨e1, e2⟩ := hbad (by unfold flexOk; rw [h1]; rfl)
    rw [e1, e2]
    repeat (first | refine SX.seq ?_ | refine SXl.nil ?_ | refine SX.region ?_ | refine SQ.thenNormal ?_ | refine SX.condT rfl ?_ | (refine SXl.no rfl rfl rfl ?_) | (refine l_call ?_; (refine SXl.v (OpW.call rfl (fun w hl => hO _ hl.mod)) rfl ?_ ?_ ?_); rfl; rfl) | (refine l_load ?_; (refine SXl.v (OpW.loadAll 0 rfl rfl rfl) rfl ?_ ?_ ?_); rfl; rfl) | (refine l_move ?_; (refine SXl.v (OpW.move rfl) rfl ?_ ?_ ?_); rfl; rfl) | (refine l_not ?_; (refine SXl.v (OpW.not rfl) rfl ?_ ?_ ?_); rfl; rfl) | (refine l_pick ?_; (refine SXl.v (OpW.pick rfl rfl rfl) rfl ?_ ?_ ?_); rfl; rfl) | (refine l_store ?_; first | (refine SXl.store 0 ?_ rfl rfl rfl rfl rfl rfl ?_; rfl; simp only [List.set_cons_zero, List.set_cons_succ]) | (refine SXl.store 1 ?_ rfl rfl rfl rfl rfl rfl ?_; rfl; simp only [List.set_cons_zero, List.set_cons_succ]) | (refine SXl.store 2 ?_ rfl rfl rfl rfl rfl rfl ?_; rfl; simp only [List.set_cons_zero, List.set_cons_succ]) | (refine SXl.storeAll 0 ?_ rfl rfl rfl rfl rfl rfl rfl ?_; rfl; simp only [List.set_cons_zero, List.set_cons_succ]) | (refine SXl.storeAll 1 ?_ rfl rfl rfl rfl rfl rfl rfl ?_; rfl; simp only [List.set_cons_zero, List.set_cons_succ]) | (refine SXl.storeAll 2 ?_ rfl rfl rfl rfl rfl rfl rfl ?_; rfl; simp only [List.set_cons_zero, List.set_cons_succ]) | (refine SXl.storeRow 0 ?_ rfl rfl rfl rfl rfl rfl rfl ?_; rfl; simp only [over, List.set_cons_zero, List.set_cons_succ]) | (refine SXl.storeRow 1 ?_ rfl rfl rfl rfl rfl rfl rfl ?_; rfl; simp only [over, List.set_cons_zero, List.set_cons_succ]) | (refine SXl.storeRow 2 ?_ rfl rfl rfl rfl rfl rfl rfl ?_; rfl; simp only [over, List.set_cons_zero, List.set_cons_succ])) | refine SX.ret ?_ | refine SQ.thenRet ?_)
    refine SQ.bodyCell 2 rfl rfl rfl rfl (fun w' hl => ⟨((az, cz), false, .slice (some ⟨gb, 0, none⟩) l.length l.length), rfl, trivial, hl.owns, hl.mod⟩)
  rw [h1] at hO
  cases h2 : inB gap 0 1048576
  · obtain ⟨e1, e2⟩ := hbad (by unfold flexOk; rw [h1, h2]; rfl)
    rw [e1, e2]
    repeat (first | refine SX.seq ?_ | refine SXl.nil ?_ | refine SX.region ?_ | refine SQ.thenNormal ?_ | refine SX.condT rfl ?_ | (refine SXl.no rfl rfl rfl ?_) | (refine l_call ?_; (first | refine SXl.v (OpW.call rfl (fun w hl => hO _ hl.mod)) rfl ?_ ?_ ?_ | refine SXl.v (OpW.calls rfl (fun w _ => in_any _ _ _ _)) rfl ?_ ?_ ?_); rfl; rfl) | (refine l_load ?_; (refine SXl.v (OpW.loadAll 0 rfl rfl rfl) rfl ?_ ?_ ?_); rfl; rfl) | (refine l_move ?_; (refine SXl.v (OpW.move rfl) rfl ?_ ?_ ?_); rfl; rfl) | (refine l_not ?_; (refine SXl.v (OpW.not rfl) rfl ?_ ?_ ?_); rfl; rfl) | (refine l_pick ?_; (refine SXl.v (OpW.pick rfl rfl rfl) rfl ?_ ?_ ?_); rfl; rfl) | (refine l_store ?_; first | (refine SXl.store 0 ?_ rfl rfl rfl rfl rfl rfl ?_; rfl; simp only [List.set_cons_zero, List.set_cons_succ]) | (refine SXl.store 1 ?_ rfl rfl rfl rfl rfl rfl ?_; rfl; simp only [List.set_cons_zero, List.set_cons_succ]) | (refine SXl.store 2 ?_ rfl rfl rfl rfl rfl rfl ?_; rfl; simp only [List.set_cons_zero, List.set_cons_succ]) | (refine SXl.storeAll 0 ?_ rfl rfl rfl rfl rfl rfl rfl ?_; rfl; simp only [List.set_cons_zero, List.set_cons_succ]) | (refine SXl.storeAll 1 ?_ rfl rfl rfl rfl rfl rfl rfl ?_; rfl; simp only [List.set_cons_zero, List.set_cons_succ]) | (refine SXl.storeAll 2 ?_ rfl rfl rfl rfl rfl rfl rfl ?_; rfl; simp only [List.set_cons_zero, List.set_cons_succ]) | (refine SXl.storeRow 0 ?_ rfl rfl rfl rfl rfl rfl rfl ?_; rfl; simp only [over, List.set_cons_zero, List.set_cons_succ]) | (refine SXl.storeRow 1 ?_ rfl rfl rfl rfl rfl rfl rfl ?_; rfl; simp only [over, List.set_cons_zero, List.set_cons_succ]) | (refine SXl.storeRow 2 ?_ rfl rfl rfl rfl rfl rfl rfl ?_; rfl; simp only [over, List.set_cons_zero, List.set_cons_succ])) | (rw [h2]) | refine SX.ret ?_ | refine SQ.thenRet ?_)
    refine SQ.bodyCell 2 rfl rfl rfl rfl (fun w' hl => ⟨((az, cz), false, .slice (some ⟨gb, 0, none⟩) l.length l.length), rfl, trivial, hl.owns, hl.mod⟩)
  cases h3 : inB inner 0 1048576
  · obtain ⟨e1, e2⟩ := hbad (by unfold flexOk; rw [h1, h2, h3]; rfl)
    rw [e1, e2]
    repeat (first | refine SX.seq ?_ | refine SXl.nil ?_ | refine SX.region ?_ | refine SQ.thenNormal ?_ | refine SX.condT rfl ?_ | (refine l_call ?_; (first | refine SXl.v (OpW.call rfl (fun w hl => hO _ hl.mod)) rfl ?_ ?_ ?_ | refine SXl.v (OpW.calls rfl (fun w _ => in_any _ _ _ _)) rfl ?_ ?_ ?_); rfl; rfl) | (refine l_load ?_; (refine SXl.v (OpW.loadAll 0 rfl rfl rfl) rfl ?_ ?_ ?_); rfl; rfl) | (refine l_move ?_; (refine SXl.v (OpW.move rfl) rfl ?_ ?_ ?_); rfl; rfl) | (refine l_not ?_; (refine SXl.v (OpW.not rfl) rfl ?_ ?_ ?_); rfl; rfl) | (refine l_pick ?_; (refine SXl.v (OpW.pick rfl rfl rfl) rfl ?_ ?_ ?_); rfl; rfl) | (refine l_store ?_; first | (refine SXl.store 0 ?_ rfl rfl rfl rfl rfl rfl ?_; rfl; simp only [List.set_cons_zero, List.set_cons_succ]) | (refine SXl.store 1 ?_ rfl rfl rfl rfl rfl rfl ?_; rfl; simp only [List.set_cons_zero, List.set_cons_succ]) | (refine SXl.store 2 ?_ rfl rfl rfl rfl rfl rfl ?_; rfl; simp only [List.set_cons_zero, List.set_cons_succ]) | (refine SXl.storeAll 0 ?_ rfl rfl rfl rfl rfl rfl rfl ?_; rfl; simp only [List.set_cons_zero, List.set_cons_succ]) | (refine SXl.storeAll 1 ?_ rfl rfl rfl rfl rfl rfl rfl ?_; rfl; simp only [List.set_cons_zero, List.set_cons_succ]) | (refine SXl.storeAll 2 ?_ rfl rfl rfl rfl rfl rfl rfl ?_; rfl; simp only [List.set_cons_zero, List.set_cons_succ]) | (refine SXl.storeRow 0 ?_ rfl rfl rfl rfl rfl rfl rfl ?_; rfl; simp only [over, List.set_cons_zero, List.set_cons_succ]) | (refine SXl.storeRow 1 ?_ rfl rfl rfl rfl rfl rfl rfl ?_; rfl; simp only [over, List.set_cons_zero, List.set_cons_succ]) | (refine SXl.storeRow 2 ?_ rfl rfl rfl rfl rfl rfl rfl ?_; rfl; simp only [over, List.set_cons_zero, List.set_cons_succ])) | (rw [h2]) | (rw [h3]) | refine SX.ret ?_ | refine SQ.thenRet ?_)
    refine SQ.bodyCell 2 rfl rfl rfl rfl (fun w' hl => ⟨((az, cz), false, .slice (some ⟨gb, 0, none⟩) l.length l.length), rfl, trivial, hl.owns, hl.mod⟩)
  have hok : flexOk l gap inner = true := by unfold flexOk; rw [h1, h2, h3]; rfl
  obtain ⟨hr, hl12, hg, hin⟩ := flexOk_parts hok
  have hG := fun (w' : World) (hm : Mod (fun _ => False) w w') => grows_any l gap inner a c R w' (by omega) hf (by omega) (h.flatKeep hm)
  have e1 : flexSizes l gap inner = heldSizes (flexEnd l gap inner).1 := by unfold flexSizes; rw [hok]; rfl
  have e2 : flexCount l gap inner = (flexEnd l gap inner).2 := by unfold flexCount; rw [hok]; rfl
  rw [e1, e2]
  unfold flexEnd
  have hcnt := count_le l (growsOf l gap inner) gap inner (freeN (startOf (growsOf l gap inner) l))
  generalize growsOf l gap inner = grows at *
  repeat (first | refine SX.seq ?_ | refine SXl.nil ?_ | refine SX.region ?_ | refine SQ.thenNormal ?_ | refine SX.block ?_ | refine SX.skip ?_ | refine SX.condF rfl ?_ | (refine l_call ?_; (first | refine SXl.v (OpW.call rfl (fun w hl => hO _ hl.mod)) rfl ?_ ?_ ?_ | refine SXl.v (OpW.call rfl (fun w hl => hG _ hl.mod)) rfl ?_ ?_ ?_ | refine SXl.v (OpW.calls rfl (fun w _ => in_any _ _ _ _)) rfl ?_ ?_ ?_); rfl; rfl) | (refine l_fieldAddr ?_; (refine SXl.v (OpW.fieldAddr rfl) rfl ?_ ?_ ?_); rfl; rfl) | (refine l_move ?_; (refine SXl.v (OpW.move rfl) rfl ?_ ?_ ?_); rfl; rfl) | (refine l_len ?_; (refine SXl.v (OpW.len rfl) rfl ?_ ?_ ?_); rfl; rfl) | (refine l_not ?_; (refine SXl.v (OpW.not rfl) rfl ?_ ?_ ?_); rfl; rfl) | (refine l_pick ?_; (refine SXl.v (OpW.pick rfl rfl rfl) rfl ?_ ?_ ?_); rfl; rfl) | (refine l_store ?_; first | (refine SXl.store 0 ?_ rfl rfl rfl rfl rfl rfl ?_; rfl; simp only [List.set_cons_zero, List.set_cons_succ]) | (refine SXl.store 1 ?_ rfl rfl rfl rfl rfl rfl ?_; rfl; simp only [List.set_cons_zero, List.set_cons_succ]) | (refine SXl.store 2 ?_ rfl rfl rfl rfl rfl rfl ?_; rfl; simp only [List.set_cons_zero, List.set_cons_succ]) | (refine SXl.storeAll 0 ?_ rfl rfl rfl rfl rfl rfl rfl ?_; rfl; simp only [List.set_cons_zero, List.set_cons_succ]) | (refine SXl.storeAll 1 ?_ rfl rfl rfl rfl rfl rfl rfl ?_; rfl; simp only [List.set_cons_zero, List.set_cons_succ]) | (refine SXl.storeAll 2 ?_ rfl rfl rfl rfl rfl rfl rfl ?_; rfl; simp only [List.set_cons_zero, List.set_cons_succ]) | (refine SXl.storeRow 0 ?_ rfl rfl rfl rfl rfl rfl rfl ?_; rfl; simp only [over, List.set_cons_zero, List.set_cons_succ]) | (refine SXl.storeRow 1 ?_ rfl rfl rfl rfl rfl rfl rfl ?_; rfl; simp only [over, List.set_cons_zero, List.set_cons_succ]) | (refine SXl.storeRow 2 ?_ rfl rfl rfl rfl rfl rfl rfl ?_; rfl; simp only [over, List.set_cons_zero, List.set_cons_succ])) | (rw [h2]) | (rw [h3]))
  have hSL := start_line grows hr hl12
  refine SX.loop3 (fun (i : Nat) (_ _ : Unit) => i ≤ l.length) (fun i _ _ => l.length - i) (fun i _ _ => [⟨ga, [.slice a l.length c, .int .i64 gap, .int .i64 inner, .bool grows, .slice az (l.map hyp).length cz, .slice (some ⟨gb, 0, none⟩) l.length l.length, .int .i64 0], 95⟩, ⟨gb, (heldL (startOf grows (l.take i))).map Value.bool ++ List.replicate (l.length - i) (.bool false), 4⟩, ⟨g6, [.slice none 0 0, .int .i64 0, .int .i64 0, .bool false, .slice none 0 0, .slice none 0 0, .int .i64 0], 95⟩]) (fun _ _ _ => [lineO (l.map hyp, (az, cz))]) (fun _ _ _ => []) (fun i _ _ => [(6, .pointer (some ⟨g6, 0, none⟩)), (7, .pointer (some ⟨ga, 0, none⟩)), (39, .slice a l.length c), (40, .int .i64 l.length), (41, .int .i64 i)]) 0 () () (Nat.zero_le _) ?_ (fun _ hl => hl) ?_
  · (repeat (first | exact subF_nil _ | (refine subF_cons rfl ?_) | (refine subF_consv rfl (by rfl) ?_)))
  rintro i _ _ hi
  by_cases hlt : i < l.length
  · obtain ⟨b1, o1, x, e3, hR1, hb1, hx, hc1⟩ := h.get hlt
    subst e3
    have hS := start_next grows hx
    have hX := hr x (List.mem_of_getElem? hx)
    have hHy := hypOf_c x
    have hhy := hX.hyp
    have hWt := fun (w' : World) => weightOf_any x grows w' hX
    have hF : holdFirst grows x = (decide (weightOf grows x = 0) || (grows && decide (hyp x < x.base) || !grows && decide (x.base < hyp x))) := rfl
    have hXb := hX.base
    have hwb := hX.weight grows
    have hhl : (heldL (startOf grows (l.take i))).length = i := by rw [heldL_len, start_len l grows i (by omega)]
    generalize hyp x = y at *
    generalize weightOf grows x = wt at *
    by_cases w0 : wt = 0
    · have e4 : holdFirst grows x = true := by rw [hF, decide_eq_true w0]; rfl
      rw [e4, if_pos rfl] at hS
      cases grows
      · skip
        repeat (first | refine SX.seq ?_ | refine SXl.nil ?_ | refine SX.region ?_ | refine SQ.thenNormal ?_ | refine SX.block ?_ | refine SX.skip ?_ | refine SX.condT rfl ?_ | (refine l_load ?_; (first | refine SXl.v (OpW.loadRowOld rfl hc1 (Item.cells_len x) (Nat.succ_pos _) (fun h => h)) rfl ?_ ?_ ?_ | refine SXl.v (OpW.loadAll 0 rfl rfl rfl) rfl ?_ ?_ ?_); rfl; rfl) | (refine l_call ?_; (refine SXl.v (OpW.call rfl (fun w hl => hHy _)) rfl ?_ ?_ ?_); rfl; rfl) | (refine l_move ?_; (refine SXl.v (OpW.move rfl) rfl ?_ ?_ ?_); rfl; rfl) | (refine l_assign ?_; (refine SXl.v (OpW.assign rfl) rfl ?_ ?_ ?_); rfl; rfl) | (refine l_lss ?_; (refine SXl.v (OpW.lssT rfl rfl (by omega)) rfl ?_ ?_ ?_); rfl; rfl) | (refine l_indexAddr ?_; (refine SXl.v (OpW.indexAddr (by omega) rfl rfl) rfl ?_ ?_ ?_); rfl; rfl) | (refine l_alloc ?_; refine SXl.alloc ?_ ?_ (fun g => ?_); rfl; rfl) | (refine l_store ?_; first | (refine SXl.store 0 ?_ rfl rfl rfl rfl rfl rfl ?_; rfl; simp only [List.set_cons_zero, List.set_cons_succ]) | (refine SXl.store 1 ?_ rfl rfl rfl rfl rfl rfl ?_; rfl; simp only [List.set_cons_zero, List.set_cons_succ]) | (refine SXl.store 2 ?_ rfl rfl rfl rfl rfl rfl ?_; rfl; simp only [List.set_cons_zero, List.set_cons_succ]) | (refine SXl.storeAll 0 ?_ rfl rfl rfl rfl rfl rfl rfl ?_; rfl; simp only [List.set_cons_zero, List.set_cons_succ]) | (refine SXl.storeAll 1 ?_ rfl rfl rfl rfl rfl rfl rfl ?_; rfl; simp only [List.set_cons_zero, List.set_cons_succ]) | (refine SXl.storeAll 2 ?_ rfl rfl rfl rfl rfl rfl rfl ?_; rfl; simp only [List.set_cons_zero, List.set_cons_succ]) | (refine SXl.storeRow 0 ?_ rfl rfl rfl rfl rfl rfl rfl ?_; rfl; simp only [over, List.set_cons_zero, List.set_cons_succ]) | (refine SXl.storeRow 1 ?_ rfl rfl rfl rfl rfl rfl rfl ?_; rfl; simp only [over, List.set_cons_zero, List.set_cons_succ]) | (refine SXl.storeRow 2 ?_ rfl rfl rfl rfl rfl rfl rfl ?_; rfl; simp only [over, List.set_cons_zero, List.set_cons_succ])))
        refine SX.drawnTail 29 (by kernel_rfl) (by kernel_rfl) (by kernel_rfl) ?_
        repeat (first | (refine SXr.tail ?_) | (refine l_indexAddr ?_; (refine SXl.v ((OpW.indexAddr1 (i := i) (by omega) rfl rfl)) rfl ?_ ?_ ?_); rfl; rfl) | (refine SXr.no rfl rfl rfl ?_) | (refine r_load ?_; (first | refine SXr.v (OpW.load 1 rfl rfl rfl) rfl ?_ ?_ ?_ | refine SXr.v (OpW.loadAll 0 rfl rfl rfl) rfl ?_ ?_ ?_); rfl; rfl) | (refine r_call ?_; (refine SXr.v (OpW.call rfl (fun w hl => hWt _)) rfl ?_ ?_ ?_); rfl; rfl) | (refine r_fieldAddr ?_; (refine SXr.v (OpW.fieldAddr rfl) rfl ?_ ?_ ?_); rfl; rfl) | (refine r_move ?_; (refine SXr.v (OpW.move rfl) rfl ?_ ?_ ?_); rfl; rfl) | (refine r_eql ?_; (refine SXr.v (OpW.eqlT rfl rfl (by omega)) rfl ?_ ?_ ?_); rfl; rfl) | (refine r_pick ?_; (refine SXr.v (OpW.pick rfl rfl rfl) rfl ?_ ?_ ?_); rfl; rfl))
        refine l_store ?_
        refine SXl.store (v := .bool true) 2 rfl rfl rfl rfl (by simp [heldL_len, hhl]; omega) rfl rfl ?_
        simp only [List.set_cons_zero, List.set_cons_succ]
        rw [flags_set hhl hlt true]
        repeat (first | refine SXl.nil ?_ | refine SX.region ?_ | refine SQ.thenNormal ?_ | (refine l_move ?_; (refine SXl.v (OpW.move rfl) rfl ?_ ?_ ?_); rfl; rfl) | (refine l_add ?_; (refine SXl.v (OpW.succ rfl rfl (by omega)) rfl ?_ ?_ ?_); rfl; rfl) | refine SQ.blockNormal ?_)
        refine SQ.round3 (i + 1) () () (by omega) (by omega) ?_ (fun w hl => by rw [hS, heldL_app]; exact hl.drop1)
        (repeat (first | exact subF_nil _ | (refine subF_cons rfl ?_) | (refine subF_consv rfl (by rfl) ?_)))
      · skip
        repeat (first | refine SX.seq ?_ | refine SXl.nil ?_ | refine SX.region ?_ | refine SQ.thenNormal ?_ | refine SX.block ?_ | refine SX.skip ?_ | refine SX.condT rfl ?_ | (refine l_load ?_; (first | refine SXl.v (OpW.loadRowOld rfl hc1 (Item.cells_len x) (Nat.succ_pos _) (fun h => h)) rfl ?_ ?_ ?_ | refine SXl.v (OpW.loadAll 0 rfl rfl rfl) rfl ?_ ?_ ?_); rfl; rfl) | (refine l_call ?_; (refine SXl.v (OpW.call rfl (fun w hl => hHy _)) rfl ?_ ?_ ?_); rfl; rfl) | (refine l_move ?_; (refine SXl.v (OpW.move rfl) rfl ?_ ?_ ?_); rfl; rfl) | (refine l_assign ?_; (refine SXl.v (OpW.assign rfl) rfl ?_ ?_ ?_); rfl; rfl) | (refine l_lss ?_; (refine SXl.v (OpW.lssT rfl rfl (by omega)) rfl ?_ ?_ ?_); rfl; rfl) | (refine l_indexAddr ?_; (refine SXl.v (OpW.indexAddr (by omega) rfl rfl) rfl ?_ ?_ ?_); rfl; rfl) | (refine l_alloc ?_; refine SXl.alloc ?_ ?_ (fun g => ?_); rfl; rfl) | (refine l_store ?_; first | (refine SXl.store 0 ?_ rfl rfl rfl rfl rfl rfl ?_; rfl; simp only [List.set_cons_zero, List.set_cons_succ]) | (refine SXl.store 1 ?_ rfl rfl rfl rfl rfl rfl ?_; rfl; simp only [List.set_cons_zero, List.set_cons_succ]) | (refine SXl.store 2 ?_ rfl rfl rfl rfl rfl rfl ?_; rfl; simp only [List.set_cons_zero, List.set_cons_succ]) | (refine SXl.storeAll 0 ?_ rfl rfl rfl rfl rfl rfl rfl ?_; rfl; simp only [List.set_cons_zero, List.set_cons_succ]) | (refine SXl.storeAll 1 ?_ rfl rfl rfl rfl rfl rfl rfl ?_; rfl; simp only [List.set_cons_zero, List.set_cons_succ]) | (refine SXl.storeAll 2 ?_ rfl rfl rfl rfl rfl rfl rfl ?_; rfl; simp only [List.set_cons_zero, List.set_cons_succ]) | (refine SXl.storeRow 0 ?_ rfl rfl rfl rfl rfl rfl rfl ?_; rfl; simp only [over, List.set_cons_zero, List.set_cons_succ]) | (refine SXl.storeRow 1 ?_ rfl rfl rfl rfl rfl rfl rfl ?_; rfl; simp only [over, List.set_cons_zero, List.set_cons_succ]) | (refine SXl.storeRow 2 ?_ rfl rfl rfl rfl rfl rfl rfl ?_; rfl; simp only [over, List.set_cons_zero, List.set_cons_succ])))
        refine SX.drawnTail 29 (by kernel_rfl) (by kernel_rfl) (by kernel_rfl) ?_
        repeat (first | (refine SXr.tail ?_) | (refine l_indexAddr ?_; (refine SXl.v ((OpW.indexAddr1 (i := i) (by omega) rfl rfl)) rfl ?_ ?_ ?_); rfl; rfl) | (refine SXr.no rfl rfl rfl ?_) | (refine r_load ?_; (first | refine SXr.v (OpW.load 1 rfl rfl rfl) rfl ?_ ?_ ?_ | refine SXr.v (OpW.loadAll 0 rfl rfl rfl) rfl ?_ ?_ ?_); rfl; rfl) | (refine r_call ?_; (refine SXr.v (OpW.call rfl (fun w hl => hWt _)) rfl ?_ ?_ ?_); rfl; rfl) | (refine r_fieldAddr ?_; (refine SXr.v (OpW.fieldAddr rfl) rfl ?_ ?_ ?_); rfl; rfl) | (refine r_move ?_; (refine SXr.v (OpW.move rfl) rfl ?_ ?_ ?_); rfl; rfl) | (refine r_eql ?_; (refine SXr.v (OpW.eqlT rfl rfl (by omega)) rfl ?_ ?_ ?_); rfl; rfl) | (refine r_pick ?_; (refine SXr.v (OpW.pick rfl rfl rfl) rfl ?_ ?_ ?_); rfl; rfl))
        refine l_store ?_
        refine SXl.store (v := .bool true) 2 rfl rfl rfl rfl (by simp [heldL_len, hhl]; omega) rfl rfl ?_
        simp only [List.set_cons_zero, List.set_cons_succ]
        rw [flags_set hhl hlt true]
        repeat (first | refine SXl.nil ?_ | refine SX.region ?_ | refine SQ.thenNormal ?_ | (refine l_move ?_; (refine SXl.v (OpW.move rfl) rfl ?_ ?_ ?_); rfl; rfl) | (refine l_add ?_; (refine SXl.v (OpW.succ rfl rfl (by omega)) rfl ?_ ?_ ?_); rfl; rfl) | refine SQ.blockNormal ?_)
        refine SQ.round3 (i + 1) () () (by omega) (by omega) ?_ (fun w hl => by rw [hS, heldL_app]; exact hl.drop1)
        (repeat (first | exact subF_nil _ | (refine subF_cons rfl ?_) | (refine subF_consv rfl (by rfl) ?_)))
    cases grows
    · by_cases d : x.base < y
      · have e4 : holdFirst false x = true := by rw [hF, decide_eq_true d]; simp
        rw [e4, if_pos rfl] at hS
        repeat (first | refine SX.seq ?_ | refine SXl.nil ?_ | refine SX.region ?_ | refine SQ.thenNormal ?_ | refine SX.block ?_ | refine SX.skip ?_ | refine SX.condT rfl ?_ | (refine l_load ?_; (first | refine SXl.v (OpW.loadRowOld rfl hc1 (Item.cells_len x) (Nat.succ_pos _) (fun h => h)) rfl ?_ ?_ ?_ | refine SXl.v (OpW.loadAll 0 rfl rfl rfl) rfl ?_ ?_ ?_); rfl; rfl) | (refine l_call ?_; (refine SXl.v (OpW.call rfl (fun w hl => hHy _)) rfl ?_ ?_ ?_); rfl; rfl) | (refine l_move ?_; (refine SXl.v (OpW.move rfl) rfl ?_ ?_ ?_); rfl; rfl) | (refine l_assign ?_; (refine SXl.v (OpW.assign rfl) rfl ?_ ?_ ?_); rfl; rfl) | (refine l_lss ?_; (refine SXl.v (OpW.lssT rfl rfl (by omega)) rfl ?_ ?_ ?_); rfl; rfl) | (refine l_indexAddr ?_; (refine SXl.v (OpW.indexAddr (by omega) rfl rfl) rfl ?_ ?_ ?_); rfl; rfl) | (refine l_alloc ?_; refine SXl.alloc ?_ ?_ (fun g => ?_); rfl; rfl) | (refine l_store ?_; first | (refine SXl.store 0 ?_ rfl rfl rfl rfl rfl rfl ?_; rfl; simp only [List.set_cons_zero, List.set_cons_succ]) | (refine SXl.store 1 ?_ rfl rfl rfl rfl rfl rfl ?_; rfl; simp only [List.set_cons_zero, List.set_cons_succ]) | (refine SXl.store 2 ?_ rfl rfl rfl rfl rfl rfl ?_; rfl; simp only [List.set_cons_zero, List.set_cons_succ]) | (refine SXl.storeAll 0 ?_ rfl rfl rfl rfl rfl rfl rfl ?_; rfl; simp only [List.set_cons_zero, List.set_cons_succ]) | (refine SXl.storeAll 1 ?_ rfl rfl rfl rfl rfl rfl rfl ?_; rfl; simp only [List.set_cons_zero, List.set_cons_succ]) | (refine SXl.storeAll 2 ?_ rfl rfl rfl rfl rfl rfl rfl ?_; rfl; simp only [List.set_cons_zero, List.set_cons_succ]) | (refine SXl.storeRow 0 ?_ rfl rfl rfl rfl rfl rfl rfl ?_; rfl; simp only [over, List.set_cons_zero, List.set_cons_succ]) | (refine SXl.storeRow 1 ?_ rfl rfl rfl rfl rfl rfl rfl ?_; rfl; simp only [over, List.set_cons_zero, List.set_cons_succ]) | (refine SXl.storeRow 2 ?_ rfl rfl rfl rfl rfl rfl rfl ?_; rfl; simp only [over, List.set_cons_zero, List.set_cons_succ])))
        refine SX.drawnTail 29 (by kernel_rfl) (by kernel_rfl) (by kernel_rfl) ?_
        repeat (first | (refine SXr.tail ?_) | (refine l_indexAddr ?_; (refine SXl.v ((OpW.indexAddr1 (i := i) (by omega) rfl rfl)) rfl ?_ ?_ ?_); rfl; rfl) | (refine SXr.no rfl rfl rfl ?_) | (refine r_load ?_; (first | refine SXr.v (OpW.load 0 rfl rfl rfl) rfl ?_ ?_ ?_ | refine SXr.v (OpW.load 1 rfl rfl rfl) rfl ?_ ?_ ?_ | refine SXr.v (OpW.loadAll 0 rfl rfl rfl) rfl ?_ ?_ ?_); rfl; rfl) | (refine r_call ?_; (refine SXr.v (OpW.call rfl (fun w hl => hWt _)) rfl ?_ ?_ ?_); rfl; rfl) | (refine r_fieldAddr ?_; (refine SXr.v (OpW.fieldAddr rfl) rfl ?_ ?_ ?_); rfl; rfl) | (refine r_move ?_; (refine SXr.v (OpW.move rfl) rfl ?_ ?_ ?_); rfl; rfl) | (refine r_eql ?_; (refine SXr.v (OpW.eqlF rfl rfl (by omega)) rfl ?_ ?_ ?_); rfl; rfl) | (refine r_lss ?_; (refine SXr.v (OpW.lssT rfl rfl (by omega)) rfl ?_ ?_ ?_); rfl; rfl) | (refine r_not ?_; (refine SXr.v (OpW.not rfl) rfl ?_ ?_ ?_); rfl; rfl) | (refine r_pick ?_; (refine SXr.v (OpW.pick rfl rfl rfl) rfl ?_ ?_ ?_); rfl; rfl))
        refine l_store ?_
        refine SXl.store (v := .bool true) 2 rfl rfl rfl rfl (by simp [heldL_len, hhl]; omega) rfl rfl ?_
        simp only [List.set_cons_zero, List.set_cons_succ]
        rw [flags_set hhl hlt true]
        repeat (first | refine SXl.nil ?_ | refine SX.region ?_ | refine SQ.thenNormal ?_ | (refine l_move ?_; (refine SXl.v (OpW.move rfl) rfl ?_ ?_ ?_); rfl; rfl) | (refine l_add ?_; (refine SXl.v (OpW.succ rfl rfl (by omega)) rfl ?_ ?_ ?_); rfl; rfl) | refine SQ.blockNormal ?_)
        refine SQ.round3 (i + 1) () () (by omega) (by omega) ?_ (fun w hl => by rw [hS, heldL_app]; exact hl.drop1)
        (repeat (first | exact subF_nil _ | (refine subF_cons rfl ?_) | (refine subF_consv rfl (by rfl) ?_)))
      · have e4 : holdFirst false x = false := by rw [hF, decide_eq_false d, decide_eq_false w0]; rfl
        rw [e4, if_neg Bool.false_ne_true] at hS
        repeat (first | refine SX.seq ?_ | refine SXl.nil ?_ | refine SX.region ?_ | refine SQ.thenNormal ?_ | refine SX.block ?_ | refine SX.skip ?_ | refine SX.condT rfl ?_ | (refine l_load ?_; (first | refine SXl.v (OpW.loadRowOld rfl hc1 (Item.cells_len x) (Nat.succ_pos _) (fun h => h)) rfl ?_ ?_ ?_ | refine SXl.v (OpW.loadAll 0 rfl rfl rfl) rfl ?_ ?_ ?_); rfl; rfl) | (refine l_call ?_; (refine SXl.v (OpW.call rfl (fun w hl => hHy _)) rfl ?_ ?_ ?_); rfl; rfl) | (refine l_move ?_; (refine SXl.v (OpW.move rfl) rfl ?_ ?_ ?_); rfl; rfl) | (refine l_assign ?_; (refine SXl.v (OpW.assign rfl) rfl ?_ ?_ ?_); rfl; rfl) | (refine l_lss ?_; (refine SXl.v (OpW.lssT rfl rfl (by omega)) rfl ?_ ?_ ?_); rfl; rfl) | (refine l_indexAddr ?_; (refine SXl.v (OpW.indexAddr (by omega) rfl rfl) rfl ?_ ?_ ?_); rfl; rfl) | (refine l_alloc ?_; refine SXl.alloc ?_ ?_ (fun g => ?_); rfl; rfl) | (refine l_store ?_; first | (refine SXl.store 0 ?_ rfl rfl rfl rfl rfl rfl ?_; rfl; simp only [List.set_cons_zero, List.set_cons_succ]) | (refine SXl.store 1 ?_ rfl rfl rfl rfl rfl rfl ?_; rfl; simp only [List.set_cons_zero, List.set_cons_succ]) | (refine SXl.store 2 ?_ rfl rfl rfl rfl rfl rfl ?_; rfl; simp only [List.set_cons_zero, List.set_cons_succ]) | (refine SXl.storeAll 0 ?_ rfl rfl rfl rfl rfl rfl rfl ?_; rfl; simp only [List.set_cons_zero, List.set_cons_succ]) | (refine SXl.storeAll 1 ?_ rfl rfl rfl rfl rfl rfl rfl ?_; rfl; simp only [List.set_cons_zero, List.set_cons_succ]) | (refine SXl.storeAll 2 ?_ rfl rfl rfl rfl rfl rfl rfl ?_; rfl; simp only [List.set_cons_zero, List.set_cons_succ]) | (refine SXl.storeRow 0 ?_ rfl rfl rfl rfl rfl rfl rfl ?_; rfl; simp only [over, List.set_cons_zero, List.set_cons_succ]) | (refine SXl.storeRow 1 ?_ rfl rfl rfl rfl rfl rfl rfl ?_; rfl; simp only [over, List.set_cons_zero, List.set_cons_succ]) | (refine SXl.storeRow 2 ?_ rfl rfl rfl rfl rfl rfl rfl ?_; rfl; simp only [over, List.set_cons_zero, List.set_cons_succ])))
        refine SX.drawnTail 29 (by kernel_rfl) (by kernel_rfl) (by kernel_rfl) ?_
        repeat (first | (refine SXr.tail ?_) | (refine l_indexAddr ?_; (refine SXl.v ((OpW.indexAddr1 (i := i) (by omega) rfl rfl)) rfl ?_ ?_ ?_); rfl; rfl) | (refine SXr.no rfl rfl rfl ?_) | (refine r_load ?_; (first | refine SXr.v (OpW.load 0 rfl rfl rfl) rfl ?_ ?_ ?_ | refine SXr.v (OpW.load 1 rfl rfl rfl) rfl ?_ ?_ ?_ | refine SXr.v (OpW.loadAll 0 rfl rfl rfl) rfl ?_ ?_ ?_); rfl; rfl) | (refine r_call ?_; (refine SXr.v (OpW.call rfl (fun w hl => hWt _)) rfl ?_ ?_ ?_); rfl; rfl) | (refine r_fieldAddr ?_; (refine SXr.v (OpW.fieldAddr rfl) rfl ?_ ?_ ?_); rfl; rfl) | (refine r_move ?_; (refine SXr.v (OpW.move rfl) rfl ?_ ?_ ?_); rfl; rfl) | (refine r_eql ?_; (refine SXr.v (OpW.eqlF rfl rfl (by omega)) rfl ?_ ?_ ?_); rfl; rfl) | (refine r_lss ?_; (refine SXr.v (OpW.lssF rfl rfl (by omega)) rfl ?_ ?_ ?_); rfl; rfl) | (refine r_not ?_; (refine SXr.v (OpW.not rfl) rfl ?_ ?_ ?_); rfl; rfl) | (refine r_pick ?_; (refine SXr.v (OpW.pick rfl rfl rfl) rfl ?_ ?_ ?_); rfl; rfl))
        refine l_store ?_
        refine SXl.store (v := .bool false) 2 rfl rfl rfl rfl (by simp [heldL_len, hhl]; omega) rfl rfl ?_
        simp only [List.set_cons_zero, List.set_cons_succ]
        rw [flags_set hhl hlt false]
        repeat (first | refine SXl.nil ?_ | refine SX.region ?_ | refine SQ.thenNormal ?_ | (refine l_move ?_; (refine SXl.v (OpW.move rfl) rfl ?_ ?_ ?_); rfl; rfl) | (refine l_add ?_; (refine SXl.v (OpW.succ rfl rfl (by omega)) rfl ?_ ?_ ?_); rfl; rfl) | refine SQ.blockNormal ?_)
        refine SQ.round3 (i + 1) () () (by omega) (by omega) ?_ (fun w hl => by rw [hS, heldL_app]; exact hl.drop1)
        (repeat (first | exact subF_nil _ | (refine subF_cons rfl ?_) | (refine subF_consv rfl (by rfl) ?_)))
    · by_cases d : y < x.base
      · have e4 : holdFirst true x = true := by rw [hF, decide_eq_true d]; simp
        rw [e4, if_pos rfl] at hS
        repeat (first | refine SX.seq ?_ | refine SXl.nil ?_ | refine SX.region ?_ | refine SQ.thenNormal ?_ | refine SX.block ?_ | refine SX.skip ?_ | refine SX.condT rfl ?_ | (refine l_load ?_; (first | refine SXl.v (OpW.loadRowOld rfl hc1 (Item.cells_len x) (Nat.succ_pos _) (fun h => h)) rfl ?_ ?_ ?_ | refine SXl.v (OpW.loadAll 0 rfl rfl rfl) rfl ?_ ?_ ?_); rfl; rfl) | (refine l_call ?_; (refine SXl.v (OpW.call rfl (fun w hl => hHy _)) rfl ?_ ?_ ?_); rfl; rfl) | (refine l_move ?_; (refine SXl.v (OpW.move rfl) rfl ?_ ?_ ?_); rfl; rfl) | (refine l_assign ?_; (refine SXl.v (OpW.assign rfl) rfl ?_ ?_ ?_); rfl; rfl) | (refine l_lss ?_; (refine SXl.v (OpW.lssT rfl rfl (by omega)) rfl ?_ ?_ ?_); rfl; rfl) | (refine l_indexAddr ?_; (refine SXl.v (OpW.indexAddr (by omega) rfl rfl) rfl ?_ ?_ ?_); rfl; rfl) | (refine l_alloc ?_; refine SXl.alloc ?_ ?_ (fun g => ?_); rfl; rfl) | (refine l_store ?_; first | (refine SXl.store 0 ?_ rfl rfl rfl rfl rfl rfl ?_; rfl; simp only [List.set_cons_zero, List.set_cons_succ]) | (refine SXl.store 1 ?_ rfl rfl rfl rfl rfl rfl ?_; rfl; simp only [List.set_cons_zero, List.set_cons_succ]) | (refine SXl.store 2 ?_ rfl rfl rfl rfl rfl rfl ?_; rfl; simp only [List.set_cons_zero, List.set_cons_succ]) | (refine SXl.storeAll 0 ?_ rfl rfl rfl rfl rfl rfl rfl ?_; rfl; simp only [List.set_cons_zero, List.set_cons_succ]) | (refine SXl.storeAll 1 ?_ rfl rfl rfl rfl rfl rfl rfl ?_; rfl; simp only [List.set_cons_zero, List.set_cons_succ]) | (refine SXl.storeAll 2 ?_ rfl rfl rfl rfl rfl rfl rfl ?_; rfl; simp only [List.set_cons_zero, List.set_cons_succ]) | (refine SXl.storeRow 0 ?_ rfl rfl rfl rfl rfl rfl rfl ?_; rfl; simp only [over, List.set_cons_zero, List.set_cons_succ]) | (refine SXl.storeRow 1 ?_ rfl rfl rfl rfl rfl rfl rfl ?_; rfl; simp only [over, List.set_cons_zero, List.set_cons_succ]) | (refine SXl.storeRow 2 ?_ rfl rfl rfl rfl rfl rfl rfl ?_; rfl; simp only [over, List.set_cons_zero, List.set_cons_succ])))
        refine SX.drawnTail 29 (by kernel_rfl) (by kernel_rfl) (by kernel_rfl) ?_
        repeat (first | (refine SXr.tail ?_) | (refine l_indexAddr ?_; (refine SXl.v ((OpW.indexAddr1 (i := i) (by omega) rfl rfl)) rfl ?_ ?_ ?_); rfl; rfl) | (refine SXr.no rfl rfl rfl ?_) | (refine r_load ?_; (first | refine SXr.v (OpW.load 0 rfl rfl rfl) rfl ?_ ?_ ?_ | refine SXr.v (OpW.load 1 rfl rfl rfl) rfl ?_ ?_ ?_ | refine SXr.v (OpW.loadAll 0 rfl rfl rfl) rfl ?_ ?_ ?_); rfl; rfl) | (refine r_call ?_; (refine SXr.v (OpW.call rfl (fun w hl => hWt _)) rfl ?_ ?_ ?_); rfl; rfl) | (refine r_fieldAddr ?_; (refine SXr.v (OpW.fieldAddr rfl) rfl ?_ ?_ ?_); rfl; rfl) | (refine r_move ?_; (refine SXr.v (OpW.move rfl) rfl ?_ ?_ ?_); rfl; rfl) | (refine r_eql ?_; (refine SXr.v (OpW.eqlF rfl rfl (by omega)) rfl ?_ ?_ ?_); rfl; rfl) | (refine r_gtr ?_; (refine SXr.v (OpW.gtrT rfl rfl (by omega)) rfl ?_ ?_ ?_); rfl; rfl) | (refine r_pick ?_; (refine SXr.v (OpW.pick rfl rfl rfl) rfl ?_ ?_ ?_); rfl; rfl))
        refine l_store ?_
        refine SXl.store (v := .bool true) 2 rfl rfl rfl rfl (by simp [heldL_len, hhl]; omega) rfl rfl ?_
        simp only [List.set_cons_zero, List.set_cons_succ]
        rw [flags_set hhl hlt true]
        repeat (first | refine SXl.nil ?_ | refine SX.region ?_ | refine SQ.thenNormal ?_ | (refine l_move ?_; (refine SXl.v (OpW.move rfl) rfl ?_ ?_ ?_); rfl; rfl) | (refine l_add ?_; (refine SXl.v (OpW.succ rfl rfl (by omega)) rfl ?_ ?_ ?_); rfl; rfl) | refine SQ.blockNormal ?_)
        refine SQ.round3 (i + 1) () () (by omega) (by omega) ?_ (fun w hl => by rw [hS, heldL_app]; exact hl.drop1)
        (repeat (first | exact subF_nil _ | (refine subF_cons rfl ?_) | (refine subF_consv rfl (by rfl) ?_)))
      · have e4 : holdFirst true x = false := by rw [hF, decide_eq_false d, decide_eq_false w0]; rfl
        rw [e4, if_neg Bool.false_ne_true] at hS
        repeat (first | refine SX.seq ?_ | refine SXl.nil ?_ | refine SX.region ?_ | refine SQ.thenNormal ?_ | refine SX.block ?_ | refine SX.skip ?_ | refine SX.condT rfl ?_ | (refine l_load ?_; (first | refine SXl.v (OpW.loadRowOld rfl hc1 (Item.cells_len x) (Nat.succ_pos _) (fun h => h)) rfl ?_ ?_ ?_ | refine SXl.v (OpW.loadAll 0 rfl rfl rfl) rfl ?_ ?_ ?_); rfl; rfl) | (refine l_call ?_; (refine SXl.v (OpW.call rfl (fun w hl => hHy _)) rfl ?_ ?_ ?_); rfl; rfl) | (refine l_move ?_; (refine SXl.v (OpW.move rfl) rfl ?_ ?_ ?_); rfl; rfl) | (refine l_assign ?_; (refine SXl.v (OpW.assign rfl) rfl ?_ ?_ ?_); rfl; rfl) | (refine l_lss ?_; (refine SXl.v (OpW.lssT rfl rfl (by omega)) rfl ?_ ?_ ?_); rfl; rfl) | (refine l_indexAddr ?_; (refine SXl.v (OpW.indexAddr (by omega) rfl rfl) rfl ?_ ?_ ?_); rfl; rfl) | (refine l_alloc ?_; refine SXl.alloc ?_ ?_ (fun g => ?_); rfl; rfl) | (refine l_store ?_; first | (refine SXl.store 0 ?_ rfl rfl rfl rfl rfl rfl ?_; rfl; simp only [List.set_cons_zero, List.set_cons_succ]) | (refine SXl.store 1 ?_ rfl rfl rfl rfl rfl rfl ?_; rfl; simp only [List.set_cons_zero, List.set_cons_succ]) | (refine SXl.store 2 ?_ rfl rfl rfl rfl rfl rfl ?_; rfl; simp only [List.set_cons_zero, List.set_cons_succ]) | (refine SXl.storeAll 0 ?_ rfl rfl rfl rfl rfl rfl rfl ?_; rfl; simp only [List.set_cons_zero, List.set_cons_succ]) | (refine SXl.storeAll 1 ?_ rfl rfl rfl rfl rfl rfl rfl ?_; rfl; simp only [List.set_cons_zero, List.set_cons_succ]) | (refine SXl.storeAll 2 ?_ rfl rfl rfl rfl rfl rfl rfl ?_; rfl; simp only [List.set_cons_zero, List.set_cons_succ]) | (refine SXl.storeRow 0 ?_ rfl rfl rfl rfl rfl rfl rfl ?_; rfl; simp only [over, List.set_cons_zero, List.set_cons_succ]) | (refine SXl.storeRow 1 ?_ rfl rfl rfl rfl rfl rfl rfl ?_; rfl; simp only [over, List.set_cons_zero, List.set_cons_succ]) | (refine SXl.storeRow 2 ?_ rfl rfl rfl rfl rfl rfl rfl ?_; rfl; simp only [over, List.set_cons_zero, List.set_cons_succ])))
        refine SX.drawnTail 29 (by kernel_rfl) (by kernel_rfl) (by kernel_rfl) ?_
        repeat (first | (refine SXr.tail ?_) | (refine l_indexAddr ?_; (refine SXl.v ((OpW.indexAddr1 (i := i) (by omega) rfl rfl)) rfl ?_ ?_ ?_); rfl; rfl) | (refine SXr.no rfl rfl rfl ?_) | (refine r_load ?_; (first | refine SXr.v (OpW.load 0 rfl rfl rfl) rfl ?_ ?_ ?_ | refine SXr.v (OpW.load 1 rfl rfl rfl) rfl ?_ ?_ ?_ | refine SXr.v (OpW.loadAll 0 rfl rfl rfl) rfl ?_ ?_ ?_); rfl; rfl) | (refine r_call ?_; (refine SXr.v (OpW.call rfl (fun w hl => hWt _)) rfl ?_ ?_ ?_); rfl; rfl) | (refine r_fieldAddr ?_; (refine SXr.v (OpW.fieldAddr rfl) rfl ?_ ?_ ?_); rfl; rfl) | (refine r_move ?_; (refine SXr.v (OpW.move rfl) rfl ?_ ?_ ?_); rfl; rfl) | (refine r_eql ?_; (refine SXr.v (OpW.eqlF rfl rfl (by omega)) rfl ?_ ?_ ?_); rfl; rfl) | (refine r_gtr ?_; (refine SXr.v (OpW.gtrF rfl rfl (by omega)) rfl ?_ ?_ ?_); rfl; rfl) | (refine r_not ?_; (refine SXr.v (OpW.not rfl) rfl ?_ ?_ ?_); rfl; rfl) | (refine r_pick ?_; (refine SXr.v (OpW.pick rfl rfl rfl) rfl ?_ ?_ ?_); rfl; rfl))
        refine l_store ?_
        refine SXl.store (v := .bool false) 2 rfl rfl rfl rfl (by simp [heldL_len, hhl]; omega) rfl rfl ?_
        simp only [List.set_cons_zero, List.set_cons_succ]
        rw [flags_set hhl hlt false]
        repeat (first | refine SXl.nil ?_ | refine SX.region ?_ | refine SQ.thenNormal ?_ | (refine l_move ?_; (refine SXl.v (OpW.move rfl) rfl ?_ ?_ ?_); rfl; rfl) | (refine l_add ?_; (refine SXl.v (OpW.succ rfl rfl (by omega)) rfl ?_ ?_ ?_); rfl; rfl) | refine SQ.blockNormal ?_)
        refine SQ.round3 (i + 1) () () (by omega) (by omega) ?_ (fun w hl => by rw [hS, heldL_app]; exact hl.drop1)
        (repeat (first | exact subF_nil _ | (refine subF_cons rfl ?_) | (refine subF_consv rfl (by rfl) ?_)))
  obtain rfl : i = l.length := by omega
  rw [List.take_length, Nat.sub_self, List.replicate_zero]
  by_cases hn : l.length = 0
  · obtain rfl : l = [] := List.length_eq_zero_iff.1 hn
    have hres : ∀ n, flexRun grows gap inner n (startOf grows []) = ([], 0) := fun n => by
      cases n with
      | zero => rfl
      | succ n => rfl
    rw [hres]
    repeat (first | refine SX.seq ?_ | refine SXl.nil ?_ | refine SX.region ?_ | refine SQ.thenNormal ?_ | refine SX.block ?_ | refine SX.condF rfl ?_ | (refine l_lss ?_; (refine SXl.v (OpW.lssF rfl rfl (by omega)) rfl ?_ ?_ ?_); rfl; rfl) | refine SX.exit ?_ | refine SQ.thenExit ?_ | refine SQ.blockExit ?_)
    refine SX.loop3 (fun (_ _ _ : Unit) => True) (fun _ _ _ => 0) (fun _ _ _ => [⟨ga, [.slice a 0 c, .int .i64 gap, .int .i64 inner, .bool grows, .slice az 0 cz, .slice (some ⟨gb, 0, none⟩) 0 0, .int .i64 0], 95⟩, ⟨gb, [], 4⟩, ⟨g6, [.slice none 0 0, .int .i64 0, .int .i64 0, .bool false, .slice none 0 0, .slice none 0 0, .int .i64 0], 95⟩]) (fun _ _ _ => [lineO ([], (az, cz))]) (fun _ _ _ => []) (fun _ _ _ => [(6, .pointer (some ⟨g6, 0, none⟩)), (7, .pointer (some ⟨ga, 0, none⟩))]) () () () trivial ?_ (fun _ hl => hl) ?_
    · (repeat (first | exact subF_nil _ | (refine subF_cons rfl ?_) | (refine subF_consv rfl (by rfl) ?_)))
    rintro _ _ _ _
    repeat (first | refine SX.seq ?_ | refine SXl.nil ?_ | refine SX.region ?_ | refine SQ.thenNormal ?_ | refine SX.condF rfl ?_ | (refine l_call ?_; (refine SXl.v (OpW.call rfl (fun w hl => passI_nil ga c cz a az _ (blk_cell (hl.blk _ (.head _)).2 rfl) (blk_cell (hl.blk _ (.head _)).2 rfl))) rfl ?_ ?_ ?_); rfl; rfl) | (refine l_load ?_; (refine SXl.v (OpW.loadAll 0 rfl rfl rfl) rfl ?_ ?_ ?_); rfl; rfl) | (refine l_store ?_; first | (refine SXl.store 0 ?_ rfl rfl rfl rfl rfl rfl ?_; rfl; simp only [List.set_cons_zero, List.set_cons_succ]) | (refine SXl.store 1 ?_ rfl rfl rfl rfl rfl rfl ?_; rfl; simp only [List.set_cons_zero, List.set_cons_succ]) | (refine SXl.store 2 ?_ rfl rfl rfl rfl rfl rfl ?_; rfl; simp only [List.set_cons_zero, List.set_cons_succ]) | (refine SXl.storeAll 0 ?_ rfl rfl rfl rfl rfl rfl rfl ?_; rfl; simp only [List.set_cons_zero, List.set_cons_succ]) | (refine SXl.storeAll 1 ?_ rfl rfl rfl rfl rfl rfl rfl ?_; rfl; simp only [List.set_cons_zero, List.set_cons_succ]) | (refine SXl.storeAll 2 ?_ rfl rfl rfl rfl rfl rfl rfl ?_; rfl; simp only [List.set_cons_zero, List.set_cons_succ]) | (refine SXl.storeRow 0 ?_ rfl rfl rfl rfl rfl rfl rfl ?_; rfl; simp only [over, List.set_cons_zero, List.set_cons_succ]) | (refine SXl.storeRow 1 ?_ rfl rfl rfl rfl rfl rfl rfl ?_; rfl; simp only [over, List.set_cons_zero, List.set_cons_succ]) | (refine SXl.storeRow 2 ?_ rfl rfl rfl rfl rfl rfl rfl ?_; rfl; simp only [over, List.set_cons_zero, List.set_cons_succ])) | refine SX.ret ?_ | refine SX.exit ?_ | refine SQ.thenExit ?_ | refine SQ.blockExit ?_)
    refine SQ.bodyCell 2 rfl rfl rfl rfl (fun w' hl => ⟨((az, cz), grows, .slice (some ⟨gb, 0, none⟩) 0 0), rfl, trivial, hl.owns, hl.mod⟩)
  have hpos : 0 < l.length := by omega
  unfold lineO lineV
  simp only
  rw [List.length_map, ints_flat]
  refine SX.knowI (fun w' hl => own_addr (hl.own _ (.head _)).1 hpos) (fun ⟨gz, e6⟩ => ?_)
  subst e6
  repeat (first | refine SX.seq ?_ | refine SXl.nil ?_ | refine SX.region ?_ | refine SQ.thenNormal ?_ | refine SX.block ?_ | refine SX.condF rfl ?_ | (refine l_lss ?_; (refine SXl.v (OpW.lssF rfl rfl (by omega)) rfl ?_ ?_ ?_); rfl; rfl) | refine SX.exit ?_ | refine SQ.thenExit ?_ | refine SQ.blockExit ?_)
  refine SX.ownB hpos (fun ss hz1 hz2 => ?_)
  rw [List.length_map, List.length_map] at hz1
  refine SX.loop3 (fun (hh : Held) (p : Nat) (_ : Unit) => Line hh ∧ hh.map (·.1) = l ∧ hh.length = l.length ∧ p + (flexRun grows gap inner (freeN hh) hh).2 = (flexRun grows gap inner (freeN (startOf grows l)) (startOf grows l)).2 ∧ (flexRun grows gap inner (freeN hh) hh).1 = (flexRun grows gap inner (freeN (startOf grows l)) (startOf grows l)).1) (fun hh _ _ => freeN hh) (fun hh p _ => (flexBs ga gz gb a c gap inner grows cz l.length ss [] l.length hh p ++ [⟨g6, [.slice none 0 0, .int .i64 0, .int .i64 0, .bool false, .slice none 0 0, .slice none 0 0, .int .i64 0], 95⟩])) (fun _ _ _ => []) (fun _ _ _ => []) (fun _ _ _ => [(6, .pointer (some ⟨g6, 0, none⟩)), (7, .pointer (some ⟨ga, 0, none⟩))]) (startOf grows l) 0 () ⟨hSL, start_items l, by unfold startOf; exact List.length_map _, Nat.zero_add _, rfl⟩ ?_ (fun w' hl => by unfold flexBs; rw [start_szI]; exact hl.blkPerm (List.Perm.swap _ _ _)) ?_
  · (repeat (first | exact subF_nil _ | (refine subF_cons rfl ?_) | (refine subF_consv rfl (by rfl) ?_)))
  generalize flexRun grows gap inner (freeN (startOf grows l)) (startOf grows l) = FE at *
  rintro hh p _ ⟨i1, i2, i3, i4, i5⟩
  have hP : ∀ w', Loc w (Rg.none w) (flexBs ga gz gb a c gap inner grows cz l.length ss [] l.length hh p ++ [⟨g6, [.slice none 0 0, .int .i64 0, .int .i64 0, .bool false, .slice none 0 0, .slice none 0 0, .int .i64 0], 95⟩]) [] [] w' → Calls Try.prog 92 #[.pointer (some ⟨ga, 0, none⟩)] w' fun e w2 => e = .returned (.bool (decide (freeN hh ≠ 0))) ∧ Mod (fun k => k ∈ [ga, gz, gb, g6]) w' w2 ∧
      ∀ b ∈ (flexBs ga gz gb a c gap inner grows cz l.length ss [] l.length (if freeN hh = 0 then hh else passOf grows gap inner hh) (if freeN hh = 0 then p else p + 1) ++ [⟨g6, [.slice none 0 0, .int .i64 0, .int .i64 0, .bool false, .slice none 0 0, .slice none 0 0, .int .i64 0], 95⟩]), w2.heap[b.g]? = some (.cells b.cells.toArray b.T (0, 0)) := fun w' hl => by
    have hap := List.pairwise_map.2 hl.apart
    have hap2 : [ga, gz, gb, g6].Pairwise (· ≠ ·) := hap
    have hnew : ∀ b ∈ (flexBs ga gz gb a c gap inner grows cz l.length ss [] l.length hh p ++ [⟨g6, [.slice none 0 0, .int .i64 0, .int .i64 0, .bool false, .slice none 0 0, .slice none 0 0, .int .i64 0], 95⟩]), w.heap.size ≤ b.g := fun b hb => by
      rcases (hl.blk b hb).1 with hq | hq
      · exact hq.elim
      · exact hq
    have n1 := hnew _ (.head _)
    have n2 := hnew _ (.tail _ (.head _))
    have n3 := hnew _ (.tail _ (.tail _ (.head _)))
    simp only at n1 n2 n3
    refine (passI_any l hh l.length ga gz gb c cz l.length p a gap inner grows ss [] R w' i1 i2 i3 hg hin (by omega) hpos (h.flatKeep hl.mod) (fun k hk hm => ?_) (hap2.sublist (List.sublist_append_left [ga, gz, gb] [g6])) (fun b hb => (hl.blk b (List.mem_append_left _ hb)).2)).mono ?_
    · have hk2 := hlow k hk
      simp only [List.mem_cons, List.not_mem_nil, or_false] at hm
      omega
    · rintro e w2 ⟨he, hm, hb⟩
      refine ⟨he, hm.mono (fun k _ hk => List.mem_append_left [g6] hk), fun b hb' => ?_⟩
      rcases List.mem_append.1 hb' with hb' | hb'
      · exact hb b hb'
      · obtain rfl := List.mem_singleton.1 hb'
        refine hm.blk (hl.blk _ (List.mem_append_right _ (.head _))).2 (fun hk => ?_)
        have := List.pairwise_append.1 (show ([ga, gz, gb] ++ [g6]).Pairwise (· ≠ ·) from hap2)
        exact this.2.2 _ hk _ (.head _) rfl
  by_cases h0 : freeN hh = 0
  · rw [decide_eq_false (fun hc => hc h0), if_pos h0, if_pos h0] at hP
    rw [flexRun_stop h0] at i4 i5
    simp only [Nat.add_zero] at i4 i5
    repeat (first | refine SX.seq ?_ | refine SX.region ?_)
    refine l_call ?_
    refine SXl.callBs (L' := (flexBs ga gz gb a c gap inner grows cz l.length ss [] l.length hh p ++ [⟨g6, [.slice none 0 0, .int .i64 0, .int .i64 0, .bool false, .slice none 0 0, .slice none 0 0, .int .i64 0], 95⟩])) rfl rfl rfl rfl (fun w' hl => hP w' hl) ?_
    unfold flexBs
    simp only [List.cons_append, List.nil_append]
    repeat (first | refine SX.seq ?_ | refine SXl.nil ?_ | refine SX.region ?_ | refine SQ.thenNormal ?_ | refine SX.condF rfl ?_ | (refine l_load ?_; (refine SXl.v (OpW.loadAll 0 rfl rfl rfl) rfl ?_ ?_ ?_); rfl; rfl) | ((refine l_store ?_; refine SXl.storeAll 3 rfl rfl rfl rfl rfl rfl rfl rfl ?_; simp only [List.set_cons_zero, List.set_cons_succ])) | refine SX.ret ?_ | refine SX.exit ?_ | refine SQ.thenExit ?_ | refine SQ.blockExit ?_)
    rw [← i4, ← i5]
    refine SQ.bodyCell 3 rfl rfl rfl rfl (fun w' hl => ⟨((some ⟨gz, 0, none⟩, cz), grows, .slice (some ⟨gb, 0, none⟩) l.length l.length), ?_, trivial, ?_, hl.mod⟩)
    · show _ = Ending.returned (.agg [.slice a l.length c, .int .i64 gap, .int .i64 inner, .bool grows, .slice (some ⟨gz, 0, none⟩) (heldSizes hh).length cz, .slice (some ⟨gb, 0, none⟩) l.length l.length, .int .i64 (p : Int)].toArray)
      rw [sizes_len, i3]
    · have hb := (hl.blkPerm (List.Perm.swap _ _ _)).ownBack (m := l.length) (c := cz) (fun _ h => h) (by rw [List.length_map, szI_len, i3]) (by rw [List.length_map, szI_len, i3]; exact hz1) hz2
      have ho := hb.owns
      show Owns w.heap.size w' [⟨.slice (some ⟨gz, 0, none⟩) (heldSizes hh).length cz, 3, 1, (heldSizes hh).length, ((heldSizes hh).map icell).flatten⟩]
      rw [ints_flat, sizes_len, i3, ← szI_done h0]
      exact ho
  · have hfl := passOf_less (grows := grows) (gap := gap) (inner := inner) h0
    rw [decide_eq_true h0, if_neg h0, if_neg h0] at hP
    rw [flexRun_step h0] at i4 i5
    simp only at i4 i5
    repeat (first | refine SX.seq ?_ | refine SX.region ?_)
    refine l_call ?_
    refine SXl.callBs (L' := (flexBs ga gz gb a c gap inner grows cz l.length ss [] l.length (passOf grows gap inner hh) (p + 1) ++ [⟨g6, [.slice none 0 0, .int .i64 0, .int .i64 0, .bool false, .slice none 0 0, .slice none 0 0, .int .i64 0], 95⟩])) rfl rfl rfl rfl (fun w' hl => hP w' hl) ?_
    repeat (first | refine SXl.nil ?_ | refine SQ.thenNormal ?_ | refine SX.block ?_ | refine SX.skip ?_ | refine SX.condT rfl ?_ | refine SQ.blockNormal ?_)
    refine SQ.round3 (passOf grows gap inner hh) (p + 1) () ⟨pass_line i1, (pass_items hh).trans i2, pass_len.trans i3, by omega, i5⟩ hfl ?_ (fun _ hl => hl)
    (repeat (first | exact subF_nil _ | (refine subF_cons rfl ?_) | (refine subF_consv rfl (by rfl) ?_)))
instance tfvSizes : TFv Try.prog 95 4 4 := ⟨_, _, _, Try.underlying95, rfl, rfl, Try.underlying29, rfl⟩
instance tfvPasses : TFv Try.prog 95 6 6 := ⟨_, _, _, Try.underlying95, rfl, rfl, Try.underlying3, rfl⟩
set_option maxRecDepth 100000 in
set_option maxHeartbeats 4000000 in
theorem flexLine_any (l : List Item) (gap inner : Int) (a : Option Addr) (c : Nat) (R : Nat → Prop) (w : World) (hlen : l.length ≤ 1048570) (hf : ∀ x ∈ l, x.Fits) (h : ItemSlice R w a l) (hlow : ∀ k, R k → k < w.heap.size) :
    Calls Try.prog 24 #[.slice a l.length c, .int .i64 gap, .int .i64 inner] w (NewO (Option Addr × Nat) (fun q => lineV (flexSizes l gap inner, q)) (fun q => [lineO (flexSizes l gap inner, q)]) (fun _ => True) w) := by
  refine calls_sx Try.func24 rfl rfl (fun a h1 h2 h3 => (((Fr.nil h1 h2).arg (h3 2 _ rfl)).arg (h3 1 _ rfl)).arg (h3 0 _ rfl)) ?_
  repeat (first | refine SX.seq ?_ | refine SXl.nil ?_ | refine SX.region ?_ | refine SQ.thenNormal ?_ | (refine l_move ?_; (refine SXl.v (OpW.move rfl) rfl ?_ ?_ ?_); rfl; rfl) | (refine l_assign ?_; (refine SXl.v (OpW.assign rfl) rfl ?_ ?_ ?_); rfl; rfl))
  refine l_call ?_
  refine SXl.callO rfl rfl rfl (fun w' hl => flexed_any l gap inner a c R w' hlen hf (h.flatKeep hl.mod) (fun k hk => Nat.lt_of_lt_of_le (hlow k hk) hl.mod.size)) (fun q _ => ?_)
  repeat (first | refine SXl.nil ?_ | refine SQ.thenNormal ?_ | (refine l_assign ?_; (refine SXl.v (OpW.assign rfl) rfl ?_ ?_ ?_); rfl; rfl) | ((refine SXl.v (OpW.field rfl rfl) rfl ?_ ?_ ?_; rfl; rfl)) | refine SX.ret ?_)
  refine SQ.body1 rfl rfl (fun w' hl => ⟨q.1, rfl, trivial, hl.owns, hl.mod⟩)
set_option maxRecDepth 100000 in
set_option maxHeartbeats 4000000 in
theorem flexPasses_any (l : List Item) (gap inner : Int) (a : Option Addr) (c : Nat) (R : Nat → Prop) (w : World) (hlen : l.length ≤ 1048570) (hf : ∀ x ∈ l, x.Fits) (h : ItemSlice R w a l) (hlow : ∀ k, R k → k < w.heap.size) :
    Calls Try.prog 25 #[.slice a l.length c, .int .i64 gap, .int .i64 inner] w fun e w' => e = .returned (.int .i64 (flexCount l gap inner : Nat)) ∧ Mod (fun _ => False) w w' := by
  refine calls_sx Try.func25 rfl rfl (fun a h1 h2 h3 => (((Fr.nil h1 h2).arg (h3 2 _ rfl)).arg (h3 1 _ rfl)).arg (h3 0 _ rfl)) ?_
  repeat (first | refine SX.seq ?_ | refine SXl.nil ?_ | refine SX.region ?_ | refine SQ.thenNormal ?_ | (refine l_move ?_; (refine SXl.v (OpW.move rfl) rfl ?_ ?_ ?_); rfl; rfl) | (refine l_assign ?_; (refine SXl.v (OpW.assign rfl) rfl ?_ ?_ ?_); rfl; rfl))
  refine l_call ?_
  refine SXl.callO rfl rfl rfl (fun w' hl => flexed_any l gap inner a c R w' hlen hf (h.flatKeep hl.mod) (fun k hk => Nat.lt_of_lt_of_le (hlow k hk) hl.mod.size)) (fun q _ => ?_)
  repeat (first | refine SXl.nil ?_ | refine SQ.thenNormal ?_ | (refine l_assign ?_; (refine SXl.v (OpW.assign rfl) rfl ?_ ?_ ?_); rfl; rfl) | ((refine SXl.v (OpW.field rfl rfl) rfl ?_ ?_ ?_; rfl; rfl)) | refine SX.ret ?_)
  refine SQ.body1 rfl rfl (fun w' hl => ⟨rfl, hl.mod⟩)
end Go.Proofs.Ytdohglcjjlmhhaa
namespace Go.Proofs.Ytdohglcjjlmhhaa
open Go.RowKit
set_option linter.unusedVariables false
set_option linter.unusedSimpArgs false

theorem items_addr {base : Nat} {w : World} {l : List Item} {a : Option Addr} {c : Nat} {os : List Own} (h : Owns base w os) (hm : (⟨.slice a l.length c, 36, 9, l.length, (l.map Item.cells).flatten⟩ : Own) ∈ os) (h0 : 0 < l.length) : ∃ g, a = some ⟨g, 0, none⟩ := by
  rcases own_parts (h.row _ hm) with h1 | ⟨b, h1, _⟩
  · omega
  · exact ⟨b, h1⟩
theorem FitItems.head {m : Nat} {x y : Item} {l : List Item} (h : FitItems m (x :: l)) (hy : y.Fits) : FitItems m (y :: l) := ⟨fun z hz => by
  rcases List.mem_cons.1 hz with rfl | hz
  · exact hy
  · exact h.1 z (List.mem_cons_of_mem _ hz), h.2⟩
theorem FitItems.mono {m n : Nat} {l : List Item} (h : FitItems m l) (hn : m ≤ n) : FitItems n l := ⟨h.1, Nat.le_trans h.2 hn⟩
set_option maxRecDepth 100000 in
set_option maxHeartbeats 8000000 in
theorem l13Any_d (B gc : Nat) (w : World) (hc : Cur B 116 w gc) : Calls Try.prog 58 #[.pointer (some ⟨gc, 0, none⟩)] w (DrewO ItemsQ 116 B gc ItemsQ.v ItemsQ.os (fun q => FitItems 13 q.xs) w) := by
  refine calls_draw (as_ := [.pointer (some ⟨gc, 0, none⟩)]) hc Try.func58 rfl rfl (fun a h1 h2 h3 => ((Fr.nil h1 h2).arg (h3 0 _ rfl))) ?_
  repeat (first | refine SX.seq ?_ | refine SXl.nil ?_ | refine SX.region ?_ | refine SQ.thenNormal ?_ | (refine l_move ?_; (refine SXl.v (OpW.move rfl) rfl ?_ ?_ ?_); rfl; rfl) | (refine l_assign ?_; (refine SXl.v (OpW.assign rfl) rfl ?_ ?_ ?_); rfl; rfl))
  refine l_call ?_
  refine SXl.drawOJ rfl rfl rfl (fun w hl => l13Items_d B gc w hl.inv) (fun q hq => ?_)
  obtain ⟨xs, qa, qc⟩ := q
  simp only at hq
  simp only [ItemsQ.v, ItemsQ.os, List.append_nil]
  repeat (first | refine SX.seq ?_ | refine SXl.nil ?_ | refine SX.region ?_ | refine SQ.thenNormal ?_ | (refine l_move ?_; (refine SXl.v (OpW.move rfl) rfl ?_ ?_ ?_); rfl; rfl) | (refine l_assign ?_; (refine SXl.v (OpW.assign rfl) rfl ?_ ?_ ?_); rfl; rfl) | (refine l_len ?_; (refine SXl.v (OpW.len rfl) rfl ?_ ?_ ?_); rfl; rfl) | (refine l_gtr ?_; (refine SXl.v (OpW.gtr rfl rfl) rfl ?_ ?_ ?_); rfl; rfl))
  refine SX.join (ι := ItemsQ) (fun q => FitItems 6 q.xs) (fun _ => []) (fun q => q.os) (fun _ => []) (fun q => [(0, .pointer (some ⟨gc, 0, none⟩)), (3, q.v)]) ?_ ?_
  · have hstay : FitItems 6 xs := hq
    cases xs with
    | nil =>
      repeat (first | refine SX.skip ?_ | refine SX.condF rfl ?_)
      refine SQ.join ⟨[], qa, qc⟩ hq ?_ (fun _ hl => hl)
      (repeat (first | exact subF_nil _ | (refine subF_cons rfl ?_) | (refine subF_consv rfl (by rfl) ?_)))
    | cons x rest =>
      have hx := hq.1 x List.mem_cons_self
      refine SX.knowI (fun w hl => items_addr hl.owns (.head _) (by simp)) (fun ⟨gq, hgq⟩ => ?_)
      subst hgq
      have hpos : 0 < (x :: rest).length := by simp
      have hfl : 9 ≤ ((x :: rest).map Item.cells).flatten.length := by rw [flat_length Item.cells_len]; omega
      have hp2 : decide ((0 : Int) < ((x :: rest).length : Int)) = true := decide_eq_true (by omega)
      repeat (first | refine SX.seq ?_ | refine SX.region ?_ | refine SX.condT rfl ?_ | (refine l_move ?_; (refine SXl.v (OpW.move rfl) rfl ?_ ?_ ?_); rfl; rfl) | (rw [hp2]))
      refine l_call ?_
      refine SXl.draw (ξ := Int) (v := fun x : Int => .int .i64 x) rfl rfl rfl (fun x => 0 ≤ x ∧ x < 16) (fun w hl => below_d B gc w hl.inv 16 (by decide) (by decide)) (fun y hy => ?_)
      by_cases y0 : y = 0
      · repeat (first | refine SX.seq ?_ | refine SXl.nil ?_ | refine SX.region ?_ | refine SQ.thenNormal ?_ | refine SX.block ?_ | refine SX.condT rfl ?_ | (refine l_move ?_; (refine SXl.v (OpW.move rfl) rfl ?_ ?_ ?_); rfl; rfl) | (refine l_assign ?_; (refine SXl.v (OpW.assign rfl) rfl ?_ ?_ ?_); rfl; rfl) | (refine l_eql ?_; (refine SXl.v (OpW.eqlT rfl rfl (by omega)) rfl ?_ ?_ ?_); rfl; rfl))
        refine l_buildSlice ?_
        refine SXl.lit (cells := ([-1, 1048576, 1048577] : List Int).map (.int .i64)) (z := .int .i64 0) ?_ ?_ rfl (by decide) (by kernel_rfl) rfl (fun gl => ?_)
        rfl; rfl
        skip
        refine l_call ?_
        refine SXl.draw (ξ := Int) (v := fun x => .int .i64 x) rfl rfl rfl (fun x => x ∈ ([-1, 1048576, 1048577] : List Int)) (fun w hl => pick_d (l := ([-1, 1048576, 1048577] : List Int)) hl (by simp) (by simp)) (fun v hv => ?_)
        refine SXl.drop1 ?_
        have hv2 : -1 ≤ v ∧ v ≤ 1048577 := by simp at hv; omega
        repeat (first | (refine l_indexAddr ?_; (refine SXl.v ((OpW.indexAddr (i := 0) hpos rfl rfl)) rfl ?_ ?_ ?_); rfl; rfl) | (refine l_fieldAddr ?_; (refine SXl.v (OpW.fieldAddr rfl) rfl ?_ ?_ ?_); rfl; rfl))
        refine l_store ?_
        refine SXl.storeOwn (xs := ((x :: rest).map Item.cells).flatten) 0 rfl rfl rfl rfl (by omega) rfl rfl ?_
        repeat (first | refine SXl.nil ?_ | refine SQ.blockNormal ?_)
        refine SQ.join ⟨{ x with base := v } :: rest, some ⟨gq, 0, none⟩, qc⟩ (hq.head (by obtain ⟨q1, q2, q3, q4, q5, q6, q7⟩ := hx; exact ⟨⟨by show (-2097152 : Int) ≤ v; omega, by show (v : Int) ≤ 2097152; omega⟩, q2, q3, q4, q5, q6, q7⟩)) ?_ (fun _ hl => hl)
        (repeat (first | exact subF_nil _ | (refine subF_cons rfl ?_) | (refine subF_consv rfl (by rfl) ?_)))
      by_cases y1 : y = 1
      · repeat (first | refine SX.seq ?_ | refine SXl.nil ?_ | refine SX.region ?_ | refine SQ.thenNormal ?_ | refine SX.block ?_ | refine SX.condT rfl ?_ | refine SX.condF rfl ?_ | (refine l_move ?_; (refine SXl.v (OpW.move rfl) rfl ?_ ?_ ?_); rfl; rfl) | (refine l_assign ?_; (refine SXl.v (OpW.assign rfl) rfl ?_ ?_ ?_); rfl; rfl) | (refine l_eql ?_; (first | refine SXl.v (OpW.eqlT rfl rfl (by omega)) rfl ?_ ?_ ?_ | refine SXl.v (OpW.eqlF rfl rfl (by omega)) rfl ?_ ?_ ?_); rfl; rfl))
        refine l_buildSlice ?_
        refine SXl.lit (cells := ([-1, 1000, 1001] : List Int).map (.int .i64)) (z := .int .i64 0) ?_ ?_ rfl (by decide) (by kernel_rfl) rfl (fun gl => ?_)
        rfl; rfl
        skip
        refine l_call ?_
        refine SXl.draw (ξ := Int) (v := fun x => .int .i64 x) rfl rfl rfl (fun x => x ∈ ([-1, 1000, 1001] : List Int)) (fun w hl => pick_d (l := ([-1, 1000, 1001] : List Int)) hl (by simp) (by simp)) (fun v hv => ?_)
        refine SXl.drop1 ?_
        have hv2 : -1 ≤ v ∧ v ≤ 1001 := by simp at hv; omega
        repeat (first | (refine l_indexAddr ?_; (refine SXl.v ((OpW.indexAddr (i := 0) hpos rfl rfl)) rfl ?_ ?_ ?_); rfl; rfl) | (refine l_fieldAddr ?_; (refine SXl.v (OpW.fieldAddr rfl) rfl ?_ ?_ ?_); rfl; rfl))
        refine l_store ?_
        refine SXl.storeOwn (xs := ((x :: rest).map Item.cells).flatten) 0 rfl rfl rfl rfl (by omega) rfl rfl ?_
        repeat (first | refine SXl.nil ?_ | refine SQ.blockNormal ?_)
        refine SQ.join ⟨{ x with grow := v } :: rest, some ⟨gq, 0, none⟩, qc⟩ (hq.head (by obtain ⟨q1, q2, q3, q4, q5, q6, q7⟩ := hx; exact ⟨q1, q2, q3, q4, q5, ⟨by show (-2097152 : Int) ≤ v; omega, by show (v : Int) ≤ 2097152; omega⟩, q7⟩)) ?_ (fun _ hl => hl)
        (repeat (first | exact subF_nil _ | (refine subF_cons rfl ?_) | (refine subF_consv rfl (by rfl) ?_)))
      by_cases y2 : y = 2
      · repeat (first | refine SX.seq ?_ | refine SXl.nil ?_ | refine SX.region ?_ | refine SQ.thenNormal ?_ | refine SX.block ?_ | refine SX.condT rfl ?_ | refine SX.condF rfl ?_ | (refine l_move ?_; (refine SXl.v (OpW.move rfl) rfl ?_ ?_ ?_); rfl; rfl) | (refine l_assign ?_; (refine SXl.v (OpW.assign rfl) rfl ?_ ?_ ?_); rfl; rfl) | (refine l_eql ?_; (first | refine SXl.v (OpW.eqlT rfl rfl (by omega)) rfl ?_ ?_ ?_ | refine SXl.v (OpW.eqlF rfl rfl (by omega)) rfl ?_ ?_ ?_); rfl; rfl))
        refine l_buildSlice ?_
        refine SXl.lit (cells := ([-2, 1048577, 0] : List Int).map (.int .i64)) (z := .int .i64 0) ?_ ?_ rfl (by decide) (by kernel_rfl) rfl (fun gl => ?_)
        rfl; rfl
        skip
        refine l_call ?_
        refine SXl.draw (ξ := Int) (v := fun x => .int .i64 x) rfl rfl rfl (fun x => x ∈ ([-2, 1048577, 0] : List Int)) (fun w hl => pick_d (l := ([-2, 1048577, 0] : List Int)) hl (by simp) (by simp)) (fun v hv => ?_)
        refine SXl.drop1 ?_
        have hv2 : -2 ≤ v ∧ v ≤ 1048577 := by simp at hv; omega
        repeat (first | (refine l_indexAddr ?_; (refine SXl.v ((OpW.indexAddr (i := 0) hpos rfl rfl)) rfl ?_ ?_ ?_); rfl; rfl) | (refine l_fieldAddr ?_; (refine SXl.v (OpW.fieldAddr rfl) rfl ?_ ?_ ?_); rfl; rfl))
        refine l_store ?_
        refine SXl.storeOwn (xs := ((x :: rest).map Item.cells).flatten) 0 rfl rfl rfl rfl (by omega) rfl rfl ?_
        repeat (first | refine SXl.nil ?_ | refine SQ.blockNormal ?_)
        refine SQ.join ⟨{ x with most := v } :: rest, some ⟨gq, 0, none⟩, qc⟩ (hq.head (by obtain ⟨q1, q2, q3, q4, q5, q6, q7⟩ := hx; exact ⟨q1, q2, ⟨by show (-2097152 : Int) ≤ v; omega, by show (v : Int) ≤ 2097152; omega⟩, q4, q5, q6, q7⟩)) ?_ (fun _ hl => hl)
        (repeat (first | exact subF_nil _ | (refine subF_cons rfl ?_) | (refine subF_consv rfl (by rfl) ?_)))
      by_cases y3 : y = 3
      · repeat (first | refine SX.seq ?_ | refine SXl.nil ?_ | refine SX.region ?_ | refine SQ.thenNormal ?_ | refine SX.block ?_ | refine SX.condT rfl ?_ | refine SX.condF rfl ?_ | (refine l_move ?_; (refine SXl.v (OpW.move rfl) rfl ?_ ?_ ?_); rfl; rfl) | (refine l_assign ?_; (refine SXl.v (OpW.assign rfl) rfl ?_ ?_ ?_); rfl; rfl) | (refine l_eql ?_; (first | refine SXl.v (OpW.eqlT rfl rfl (by omega)) rfl ?_ ?_ ?_ | refine SXl.v (OpW.eqlF rfl rfl (by omega)) rfl ?_ ?_ ?_); rfl; rfl))
        refine l_buildSlice ?_
        refine SXl.lit (cells := ([1048577, -1048576, 1048576] : List Int).map (.int .i64)) (z := .int .i64 0) ?_ ?_ rfl (by decide) (by kernel_rfl) rfl (fun gl => ?_)
        rfl; rfl
        skip
        refine l_call ?_
        refine SXl.draw (ξ := Int) (v := fun x => .int .i64 x) rfl rfl rfl (fun x => x ∈ ([1048577, -1048576, 1048576] : List Int)) (fun w hl => pick_d (l := ([1048577, -1048576, 1048576] : List Int)) hl (by simp) (by simp)) (fun v hv => ?_)
        refine SXl.drop1 ?_
        have hv2 : -1048576 ≤ v ∧ v ≤ 1048577 := by simp at hv; omega
        repeat (first | (refine l_indexAddr ?_; (refine SXl.v ((OpW.indexAddr (i := 0) hpos rfl rfl)) rfl ?_ ?_ ?_); rfl; rfl) | (refine l_fieldAddr ?_; (refine SXl.v (OpW.fieldAddr rfl) rfl ?_ ?_ ?_); rfl; rfl))
        refine l_store ?_
        refine SXl.storeOwn (xs := ((x :: rest).map Item.cells).flatten) 0 rfl rfl rfl rfl (by omega) rfl rfl ?_
        repeat (first | refine SXl.nil ?_ | refine SQ.blockNormal ?_)
        refine SQ.join ⟨{ x with before := v } :: rest, some ⟨gq, 0, none⟩, qc⟩ (hq.head (by obtain ⟨q1, q2, q3, q4, q5, q6, q7⟩ := hx; exact ⟨q1, q2, q3, ⟨by show (-2097152 : Int) ≤ v; omega, by show (v : Int) ≤ 2097152; omega⟩, q5, q6, q7⟩)) ?_ (fun _ hl => hl)
        (repeat (first | exact subF_nil _ | (refine subF_cons rfl ?_) | (refine subF_consv rfl (by rfl) ?_)))
      repeat (first | refine SX.seq ?_ | refine SXl.nil ?_ | refine SX.region ?_ | refine SQ.thenNormal ?_ | refine SX.block ?_ | refine SX.skip ?_ | refine SX.condF rfl ?_ | (refine l_assign ?_; (refine SXl.v (OpW.assign rfl) rfl ?_ ?_ ?_); rfl; rfl) | (refine l_eql ?_; (refine SXl.v (OpW.eqlF rfl rfl (by omega)) rfl ?_ ?_ ?_); rfl; rfl) | refine SQ.blockNormal ?_)
      refine SQ.join ⟨x :: rest, some ⟨gq, 0, none⟩, qc⟩ hq ?_ (fun _ hl => hl)
      (repeat (first | exact subF_nil _ | (refine subF_cons rfl ?_) | (refine subF_consv rfl (by rfl) ?_)))
  rintro ⟨ys, qb, qd⟩ hys
  simp only at hys
  simp only [ItemsQ.v, ItemsQ.os]
  clear hq
  repeat (first | refine SX.seq ?_ | refine SX.region ?_ | (refine l_move ?_; (refine SXl.v (OpW.move rfl) rfl ?_ ?_ ?_); rfl; rfl))
  refine l_call ?_
  refine SXl.draw (ξ := Bool) (v := fun b => .bool b) rfl rfl rfl (fun _ => True) (fun w hl => once_d B gc w hl.inv 30 (by decide)) (fun b _ => ?_)
  cases b
  · repeat (first | refine SX.seq ?_ | refine SXl.nil ?_ | refine SX.region ?_ | refine SQ.thenNormal ?_ | refine SX.skip ?_ | refine SX.condF rfl ?_ | (refine l_move ?_; (refine SXl.v (OpW.move rfl) rfl ?_ ?_ ?_); rfl; rfl) | (refine l_assign ?_; (refine SXl.v (OpW.assign rfl) rfl ?_ ?_ ?_); rfl; rfl) | refine SX.ret ?_)
    refine SQ.body1 rfl rfl (fun w' hl => ⟨⟨ys, qb, qd⟩, rfl, hys.mono (by decide), hl.owns, hl.mod, hl.inv⟩)
  repeat (first | refine SXl.nil ?_ | refine SQ.thenNormal ?_ | refine SX.block ?_ | refine SX.condT rfl ?_)
  refine SX.loop3 (fun (_ : Unit) (q : ItemsQ) (_ : Unit) => FitItems 13 q.xs) (fun _ q _ => 14 - q.xs.length) (fun _ _ _ => []) (fun _ q _ => q.os) (fun _ _ _ => []) (fun _ q _ => [(0, .pointer (some ⟨gc, 0, none⟩)), (3, q.v)]) () ⟨ys, qb, qd⟩ () (hys.mono (by decide)) ?_ (fun _ hl => hl) ?_
  · (repeat (first | exact subF_nil _ | (refine subF_cons rfl ?_) | (refine subF_consv rfl (by rfl) ?_)))
  rintro _ ⟨xs, qa, qc⟩ _ ⟨hq1, hq2⟩
  simp only at hq1 hq2
  simp only [ItemsQ.v, ItemsQ.os]
  repeat (first | refine SX.seq ?_ | refine SX.region ?_ | (refine l_move ?_; (refine SXl.v (OpW.move rfl) rfl ?_ ?_ ?_); rfl; rfl) | (refine l_len ?_; (refine SXl.v (OpW.len rfl) rfl ?_ ?_ ?_); rfl; rfl))
  refine l_call ?_
  refine SXl.drawE (ξ := Int) (v := fun x : Int => .int .i64 x) rfl rfl rfl (fun x => 0 ≤ x ∧ x < 2) (fun w hl => below_d B gc w hl.inv 2 (by decide) (by decide)) (fun y hy => ?_)
  by_cases hlt : (xs.length : Int) < 12 + y
  · repeat (first | refine SXl.nil ?_ | refine SX.region ?_ | refine SQ.thenNormal ?_ | refine SX.block ?_ | refine SX.skip ?_ | refine SX.condT rfl ?_ | (refine l_move ?_; (refine SXl.v (OpW.move rfl) rfl ?_ ?_ ?_); rfl; rfl) | (refine l_add ?_; (refine SXl.v (OpW.addi rfl rfl (by omega) (by omega)) rfl ?_ ?_ ?_); rfl; rfl) | (refine l_lss ?_; (refine SXl.v (OpW.lssT rfl rfl (by omega)) rfl ?_ ?_ ?_); rfl; rfl))
    refine l_call ?_
    refine SXl.drawE (ξ := Item) (v := fun x => .agg x.cells.toArray) rfl rfl rfl Item.Fits (fun w hl => l13Item_d B gc w hl.inv) (fun z hz => ?_)
    repeat (first | refine SXl.nil ?_ | (refine l_assign ?_; (refine SXl.v (OpW.assign rfl) rfl ?_ ?_ ?_); rfl; rfl) | (refine l_append ?_; first | (refine SXl.append 0 0 rfl rfl rfl rfl rfl rfl rfl rfl (by omega) (by omega) (fun a c => ?_); simp only [List.set_cons_zero, List.set_cons_succ]) | (refine SXl.append 1 0 rfl rfl rfl rfl rfl rfl rfl rfl (by omega) (by omega) (fun a c => ?_); simp only [List.set_cons_zero, List.set_cons_succ])) | (refine l_buildSlice ?_; refine SXl.litRow1 rfl rfl rfl rfl (Item.cells_len _) (by decide) (by decide) (fun g => ?_)) | refine SQ.blockNormal ?_)
    rw [items_push]
    refine SQ.round3 () ⟨xs ++ [z], a, c⟩ () ((FitItems.push (m := 12) ⟨hq1, by omega⟩ hz)) (by simp only [List.length_append, List.length_singleton]; omega) ?_ (fun w hl => hl.drop1)
    (repeat (first | exact subF_nil _ | (refine subF_cons rfl ?_) | (refine subF_consv rfl (by simp [ItemsQ.v]) ?_)))
  · repeat (first | refine SX.seq ?_ | refine SXl.nil ?_ | refine SX.region ?_ | refine SQ.thenNormal ?_ | refine SX.condF rfl ?_ | (refine l_move ?_; (refine SXl.v (OpW.move rfl) rfl ?_ ?_ ?_); rfl; rfl) | (refine l_assign ?_; (refine SXl.v (OpW.assign rfl) rfl ?_ ?_ ?_); rfl; rfl) | (refine l_add ?_; (refine SXl.v (OpW.addi rfl rfl (by omega) (by omega)) rfl ?_ ?_ ?_); rfl; rfl) | (refine l_lss ?_; (refine SXl.v (OpW.lssF rfl rfl (by omega)) rfl ?_ ?_ ?_); rfl; rfl) | refine SX.ret ?_ | refine SX.exit ?_ | refine SQ.thenExit ?_ | refine SQ.blockExit ?_)
    refine SQ.body1 rfl rfl (fun w' hl => ⟨⟨xs, qa, qc⟩, rfl, ⟨hq1, hq2⟩, hl.owns, hl.mod, hl.inv⟩)
abbrev LineArgs := ItemsQ × Int × Int × Bool
def LineArgs.v (q : LineArgs) : Value := .tuple #[q.1.v, .int .i64 q.2.1, .int .i64 q.2.2.1, .bool q.2.2.2]
def LineArgs.ok (q : LineArgs) : Prop := FitItems 13 q.1.xs ∧ (0 ≤ q.2.1 ∧ q.2.1 ≤ 64) ∧ -1 ≤ q.2.2.1 ∧ q.2.2.1 ≤ 2000
end Go.Proofs.Ytdohglcjjlmhhaa
namespace Go.Proofs.Ytdohglcjjlmhhaa
open Go.RowKit

theorem Style.len (s : Style) : s.cells.length = 60 := rfl
theorem Style.ones (s : Style) : s.cells.toArray.all (·.oneCell') = true := by simp [Style.cells, Value.oneCell']
@[go_sem] theorem Style.set54 (s : Style) (v : Int) : s.cells.set 54 (.int .i64 v) = Style.cells { s with border := { s.border with left := v } } := rfl
@[go_sem] theorem Style.set55 (s : Style) (v : Int) : s.cells.set 55 (.int .i64 v) = Style.cells { s with border := { s.border with top := v } } := rfl
@[go_sem] theorem Style.set56 (s : Style) (v : Int) : s.cells.set 56 (.int .i64 v) = Style.cells { s with border := { s.border with right := v } } := rfl
@[go_sem] theorem Style.set57 (s : Style) (v : Int) : s.cells.set 57 (.int .i64 v) = Style.cells { s with border := { s.border with bottom := v } } := rfl
@[go_sem] theorem Style.set58 (s : Style) (v : Int) : s.cells.set 58 (.int .i64 v) = Style.cells { s with rowGap := v } := rfl
@[go_sem] theorem Style.set59 (s : Style) (v : Int) : s.cells.set 59 (.int .i64 v) = Style.cells { s with colGap := v } := rfl
@[go_sem ↓] theorem exec_load_lStyle (ρ : Operand → Value) (d : Option Tmp) (x : Operand) (ty : TypeId) (pos : String) (af : Array Edge) (g : Option (Nat × Bool)) (w : World) :
    (execOp ρ { dst := d, op := .load 168 x, type := ty, pos, after := af, guard := g }).run Try.prog w = LoadS Try.prog 168 (ρ x) w := rfl
@[go_sem ↓] theorem exec_load_iStyle (ρ : Operand → Value) (d : Option Tmp) (x : Operand) (ty : TypeId) (pos : String) (af : Array Edge) (g : Option (Nat × Bool)) (w : World) :
    (execOp ρ { dst := d, op := .load 186 x, type := ty, pos, after := af, guard := g }).run Try.prog w = LoadS Try.prog 186 (ρ x) w := rfl
@[go_sem ↓] theorem exec_store_iStyle (ρ : Operand → Value) (d : Option Tmp) (x y : Operand) (ty : TypeId) (pos : String) (af : Array Edge) (g : Option (Nat × Bool)) (w : World) :
    (execOp ρ { dst := d, op := .store 186 x y, type := ty, pos, after := af, guard := g }).run Try.prog w = StoreS Try.prog 186 (ρ x) (ρ y) w := rfl
@[go_sem] theorem LoadS_lStyle {w : World} {b o : Nat} (h : hasRow w b o 60 = true) : LoadS Try.prog 168 (.pointer (some ⟨b, o, none⟩)) w = .ok (.value (.agg (rowOf w b o 60))) w := LoadS_row Try.underlying168 rfl (by kernel_rfl) h
@[go_sem] theorem LoadS_iStyle {w : World} {b o : Nat} (h : hasRow w b o 60 = true) : LoadS Try.prog 186 (.pointer (some ⟨b, o, none⟩)) w = .ok (.value (.agg (rowOf w b o 60))) w := LoadS_row Try.underlying186 rfl (by kernel_rfl) h
@[go_sem] theorem StoreS_iStyle {w : World} {b o : Nat} {s : Style} (h : hasRow w b o 60 = true) (hz : openRow w b = true) : StoreS Try.prog 186 (.pointer (some ⟨b, o, none⟩)) (.agg s.cells.toArray) w = .ok .skip (w.setCells b o s.cells) := StoreS_row (by kernel_rfl) h hz rfl (Style.ones s)

end Go.Proofs.Ytdohglcjjlmhhaa
namespace Go.Proofs.Ytdohglcjjlmhhaa
open Go.RowKit

end Go.Proofs.Ytdohglcjjlmhhaa
namespace Go.Proofs.Ytdohglcjjlmhhaa
open Go.RowKit

/-- The cells cs read as a datum of type t. -/
def Rd (P : Program) (w : World) (t : TypeId) (cs : List Value) : Prop :=
  ∃ (H : Type) (enc : TypeId × Value → H) (fuel : Nat) (x : DataW H × List MemPlace), DataW.trod enc P w 0 (fun _ => true) true fuel t cs = some x

section
variable {P : Program} {w : World} {t e : TypeId} {cs : List Value}
theorem Rd.int {k : IntKind} (h : Rd P w t cs) (hu : P.underlying t = some (.int k)) : ∃ n, cs = [.int k n] ∧ (Lit.int k n).wf = true := by
  obtain ⟨H, enc, fuel, x, h⟩ := h
  obtain ⟨n, h1, _, h2⟩ := DataW.trod_int hu h
  exact ⟨n, h1, h2⟩
theorem Rd.bool (h : Rd P w t cs) (hu : P.underlying t = some .bool) : ∃ b, cs = [.bool b] := by
  obtain ⟨H, enc, fuel, x, h⟩ := h
  obtain ⟨n, h1, _⟩ := DataW.trod_bool hu h
  exact ⟨n, h1⟩
theorem Rd.string (h : Rd P w t cs) (hu : P.underlying t = some .string) : ∃ s : ByteArray, cs = [.string s] ∧ s.size ≤ maxLen := by
  obtain ⟨H, enc, fuel, x, h⟩ := h
  obtain ⟨n, h1, _, h2⟩ := DataW.trod_string hu h
  exact ⟨n, h1, h2⟩
theorem Rd.struct {fs : Array Field} (h : Rd P w t cs) (hu : P.underlying t = some (.struct fs)) :
    cs.length = P.cellsOf t ∧ ∀ (i : Nat) (f : Field), fs[i]? = some f → Rd P w f.type ((cs.drop f.offset).take (P.cellsOf f.type)) := by
  obtain ⟨H, enc, fuel, x, h⟩ := h
  obtain ⟨xs, n, _, _, hl, hxl, hf⟩ := DataW.trod_struct hu h
  refine ⟨hl, fun i f hi => ?_⟩
  have h1 := hf i f hi
  have hil : i < xs.length := by rw [hxl]; exact (Array.getElem?_eq_some_iff.1 hi).1
  rw [List.getElem?_eq_getElem hil] at h1
  exact ⟨H, enc, n, _, h1⟩
theorem Rd.slice (h : Rd P w t cs) (hu : P.underlying t = some (.slice e)) (hc : 0 < P.cellsOf e) :
    ∃ (a : Option Addr) (len cap : Nat), cs = [.slice a len cap] ∧ len ≤ cap ∧ cap ≤ maxLen ∧
      (len = 0 ∨ ∃ b o, a = some ⟨b, o, none⟩ ∧ b < w.heap.size ∧ ∀ i, i < len → ∃ cs', (cs'.length = P.cellsOf e ∧ ∀ (j : Nat) (v : Value), cs'[j]? = some v → w.cell? ⟨b, o + i * P.cellsOf e + j, none⟩ = some v) ∧ Rd P w e cs') := by
  obtain ⟨H, enc, fuel, x, h⟩ := h
  rcases DataW.trod_slice hu h with ⟨h1, _⟩ | ⟨a, len, cap, elems, rest, n, _, h1, _, _, hl, hm, hlen, hel, _⟩
  · exact ⟨_, _, _, h1, Nat.le_refl _, Nat.zero_le _, .inl rfl⟩
  · refine ⟨some a, len, cap, h1, hl, hm, ?_⟩
    by_cases h0 : len = 0
    · exact .inl h0
    · have rows : ∀ i, i < len → ∃ cs', (cs'.length = P.cellsOf e ∧ ∀ (j : Nat), j < P.cellsOf e → w.cell? ((a.add (i * P.cellsOf e)).add j) = cs'[j]?) ∧ Rd P w e cs' := by
        intro i hi
        have h2 := hel i hi
        rw [List.getElem?_eq_getElem (by omega)] at h2
        obtain ⟨cs', h3, h4⟩ := Option.bind_eq_some_iff.1 h2
        obtain ⟨_, h5, h6⟩ := World.cells?_some h3
        exact ⟨cs', ⟨h5, h6⟩, H, enc, n, _, h4⟩
      obtain ⟨b, o, s⟩ := a
      have hs : s = none := by
        obtain ⟨cs', ⟨h5, h6⟩, _⟩ := rows 0 (by omega)
        have h7 := h6 0 hc
        rw [List.getElem?_eq_getElem (by omega)] at h7
        simpa [Addr.add] using World.cell?_spot h7
      subst hs
      have ea : ∀ p q r : Nat, ((⟨p, q, none⟩ : Addr).add r) = ⟨p, q + r, none⟩ := by intro p q r; unfold Addr.add; split <;> simp_all
      have hb : b < w.heap.size := by
        obtain ⟨cs', ⟨h5, h6⟩, _⟩ := rows 0 (by omega)
        have h7 := h6 0 hc
        rw [List.getElem?_eq_getElem (by omega), ea, ea] at h7
        exact World.block_lt_of_cell? w ⟨b, _, none⟩ h7
      refine .inr ⟨b, o, rfl, hb, fun i hi => ?_⟩
      obtain ⟨cs', ⟨h5, h6⟩, h7⟩ := rows i hi
      refine ⟨cs', ⟨h5, fun j v hj => ?_⟩, h7⟩
      have h8 := h6 j (by have := (List.getElem?_eq_some_iff.1 hj).1; omega)
      rw [ea, ea] at h8
      rw [h8, hj]
end

theorem rd_list {α : Type} {rep : List Value → α → Prop} {Q : Nat → List Value → Prop} (n : Nat) (h : ∀ i, i < n → ∃ cs, Q i cs ∧ ∃ x, rep cs x) :
    ∃ (rows : List (List Value)) (l : List α), rows.length = n ∧ l.length = n ∧ (∀ (i : Nat) (r : List Value), rows[i]? = some r → Q i r) ∧ ∀ (i : Nat) (r : List Value) (x : α), rows[i]? = some r → l[i]? = some x → rep r x := by
  induction n with
  | zero => exact ⟨[], [], rfl, rfl, fun i r h => by simp at h, fun i r x h => by simp at h⟩
  | succ n ih =>
    obtain ⟨rows, l, h1, h2, h3, h4⟩ := ih fun i hi => h i (by omega)
    obtain ⟨cs, hQ, x, hr⟩ := h n (by omega)
    refine ⟨rows ++ [cs], l ++ [x], by simp [h1], by simp [h2], fun i r hi => ?_, fun i r y hi hl => ?_⟩
    · by_cases e : i < rows.length
      · rw [List.getElem?_append_left e] at hi
        exact h3 i r hi
      · rw [List.getElem?_append_right (by omega)] at hi
        have : i = n := by
          have := (List.getElem?_eq_some_iff.1 hi).1
          simp at this
          omega
        subst this
        rw [h1, Nat.sub_self] at hi
        simp at hi
        subst hi
        exact hQ
    · by_cases e : i < rows.length
      · rw [List.getElem?_append_left e] at hi
        rw [List.getElem?_append_left (by omega)] at hl
        exact h4 i r y hi hl
      · rw [List.getElem?_append_right (by omega)] at hi
        rw [List.getElem?_append_right (by omega)] at hl
        have : i = n := by
          have := (List.getElem?_eq_some_iff.1 hi).1
          simp at this
          omega
        subst this
        rw [h1, Nat.sub_self] at hi
        rw [h2, Nat.sub_self] at hl
        simp at hi hl
        subst hi; subst hl
        exact hr

/-- A slice argument reads as a list. -/
theorem Rd.list {P : Program} {w : World} {t e : TypeId} {cs : List Value} {α : Type} {rep : World → List Value → α → Prop} {sz : Nat} (h : Rd P w t cs) (hu : P.underlying t = some (.slice e)) (hsz : P.cellsOf e = sz) (hp : 0 < sz)
    (hr : ∀ cs', Rd P w e cs' → ∃ x, rep w cs' x) :
    ∃ (a : Option Addr) (l : List α) (cap : Nat), cs = [.slice a l.length cap] ∧ l.length ≤ cap ∧ cap ≤ maxLen ∧ SliceAt rep sz (fun k => k < w.heap.size) w a l := by
  obtain ⟨a, len, cap, hcs, hl, hm, hrest⟩ := h.slice hu (by omega)
  rw [hsz] at hrest
  rcases hrest with h0 | ⟨b, o, rfl, hb, hrows⟩
  · subst h0
    exact ⟨a, [], cap, hcs, hl, hm, SliceAt.nil⟩
  · obtain ⟨rows, l, h1, h2, h3, h4⟩ := rd_list (rep := rep w) (Q := fun i cs' => cs'.length = sz ∧ ∀ (j : Nat) (v : Value), cs'[j]? = some v → w.cell? ⟨b, o + i * sz + j, none⟩ = some v) len
      fun i hi => by
        obtain ⟨cs', hQ, hrd⟩ := hrows i hi
        exact ⟨cs', hQ, hr cs' hrd⟩
    subst h2
    exact ⟨_, l, cap, hcs, hl, hm, rows, .inr ⟨b, o, rfl, hb, hb, h3⟩, h1, h4⟩

/-- A reading with a property of each element: the reading, and the property of all. -/
theorem SliceAt.split {α : Type} {cells : α → List Value} {p : α → Prop} {sz : Nat} {R : Nat → Prop} {w : World} {a : Option Addr} {l : List α} (h : SliceAt (fun _ r x => r = cells x ∧ p x) sz R w a l) :
    SliceAt (Flat cells) sz R w a l ∧ ∀ x ∈ l, p x := by
  obtain ⟨rows, h1, h2, h3⟩ := h
  refine ⟨⟨rows, h1, h2, fun i r x hr hx => (h3 i r x hr hx).1⟩, fun x hx => ?_⟩
  obtain ⟨i, hi, rfl⟩ := List.mem_iff_getElem.1 hx
  have hr : rows[i]? = some (rows[i]'(by omega)) := List.getElem?_eq_getElem (by omega)
  exact (h3 i _ _ hr (List.getElem?_eq_getElem hi)).2

end Go.Proofs.Ytdohglcjjlmhhaa
namespace Go.Proofs.Ytdohglcjjlmhhaa
open Go.RowKit

theorem tooBig_any (a : Option Addr) (len cap : Nat) (h : len ≤ 9223372036854775807) (w : World) : Calls Try.prog 8 #[.slice a len cap] w fun e w' => e = .returned (.bool (decide (1048576 < len))) ∧ w = w' := by
  by_cases hl : 1048576 < len
  · go_enter Try.func8, Try.ntmps8
    go_wp2
    go_ret
    exact ⟨ret_bool (by simp; omega), rfl⟩
  · go_enter Try.func8, Try.ntmps8
    go_wp2
    go_ret
    exact ⟨ret_bool (by simp; omega), rfl⟩

end Go.Proofs.Ytdohglcjjlmhhaa
namespace Go.Proofs.Ytdohglcjjlmhhaa
open Go.RowKit
set_option linter.unusedVariables false
set_option linter.unusedSimpArgs false

theorem bigT (a : Option Addr) {len : Nat} (cap : Nat) (hl : len ≤ maxLen) (h : 1048576 < len) (w : World) : Calls Try.prog 8 #[.slice a len cap] w fun e w' => e = .returned (.bool true) ∧ Mod (fun _ => False) w w' :=
  (tooBig_any a len cap (by unfold maxLen at hl; omega) w).mono fun e w' ⟨h1, h2⟩ => ⟨by rw [h1, decide_eq_true h], h2 ▸ Mod.refl _ _⟩
theorem bigF (a : Option Addr) {len : Nat} (cap : Nat) (hl : len ≤ maxLen) (h : ¬ 1048576 < len) (w : World) : Calls Try.prog 8 #[.slice a len cap] w fun e w' => e = .returned (.bool false) ∧ Mod (fun _ => False) w w' :=
  (tooBig_any a len cap (by unfold maxLen at hl; omega) w).mono fun e w' ⟨h1, h2⟩ => ⟨by rw [h1, decide_eq_false h], h2 ▸ Mod.refl _ _⟩
/-- A fact of no memory. -/
def factRes (K : Prop) : Res where
  foot := fun _ => False
  says := fun _ => K
  stable := fun _ _ _ h _ _ => h
theorem SXl.fact {P : Program} {n : Nat} {W : World} {R : Rg W} {L : List Blk} {O : List Own} {E : List Res} {f : List (Nat × Value)} {Q : Exit → Go.Act → World → Prop} {ops : Array Oper} {rest : List Oper} {K : Prop} (h : K → SXl P n W R ops L O E f rest Q) : SXl P n W R ops L O (factRes K :: E) f rest Q := ⟨fun a w hf hl => (h (hl.res _ (.head _)).1).run a w hf (hl.dropE)⟩

/-- The bytes of an argument, later. -/
theorem bytes_loc {W : World} {R : Rg W} {L : List Blk} {O : List Own} {E : List Res} {w : World} {a : Option Addr} {len : Nat} (hy : Bytes W.heap.size W a len) (hR : ∀ k, k < W.heap.size → ¬ R.p k) (hl : Loc W R L O E w) : Bytes w.heap.size w a len := by
  have := hy.same (w' := w) fun k hk => hl.mod.block k hk (hR k hk)
  rcases this with h | ⟨b, o, h1, h2, h3⟩
  · exact .inl h
  · exact .inr ⟨b, o, h1, Nat.lt_of_lt_of_le h2 hl.mod.size, h3⟩
end Go.Proofs.Ytdohglcjjlmhhaa
namespace Go.Proofs.Ytdohglcjjlmhhaa
open Go.RowKit
set_option linter.unusedVariables false
set_option linter.unusedSimpArgs false

theorem pick_e {W : World} {gc b : Nat} {L : List Blk} {O : List Own} {E : List Res} {w : World} {l : List Int} (hl : Loc W (Rg.none W) L O E w) (hc : Cur W.heap.size 116 w gc) (hE : curRes 116 W gc ∈ E) (hm : (⟨b, l.map (.int .i64), 3⟩ : Blk) ∈ L) (h0 : 0 < l.length) (h1 : l.length ≤ 1000) :
    Calls Try.prog 65 #[.pointer (some ⟨gc, 0, none⟩), .slice (some ⟨b, 0, none⟩) l.length l.length] w (DrewV 116 W.heap.size gc w (fun x : Int => .int .i64 x) (fun x => x ∈ l)) := by
  obtain ⟨hb, hcell⟩ := hl.blk _ hm
  have hne : b ≠ gc := fun e => (hl.res _ hE).2.2.1 _ hm (by simp only [e]; rfl)
  refine (l01PickInt_any W.heap.size gc w hc b l.length l (fun i hi => ?_) h0 h1 hne).mono fun e w' h => Drew.v h
  have := blk_cell (j := i) (v := .int .i64 (l.getD i 0)) hcell (by simp [List.getElem?_eq_getElem hi, List.getD, hi])
  rw [Nat.zero_add]
  exact this
theorem items_of {base : Nat} {w : World} {os : List Own} {q : ItemsQ} (h : Owns base w os) (hq : (⟨.slice q.a q.xs.length q.c, 36, 9, q.xs.length, (q.xs.map Item.cells).flatten⟩ : Own) ∈ os) : ItemSlice (fun k => base ≤ k) w q.a q.xs := own_slice (h.row _ hq) Item.cells_len (by decide)
abbrev FlexArgs := ItemsQ × Int × Int
def FlexArgs.v (q : FlexArgs) : Value := .tuple #[q.1.v, .int .i64 q.2.1, .int .i64 q.2.2]
def FlexArgs.ok (q : FlexArgs) : Prop := FitItems 13 q.1.xs ∧ (-1 ≤ q.2.1 ∧ q.2.1 ≤ 1048577) ∧ -9007199254740992 ≤ q.2.2 ∧ q.2.2 ≤ 9007199254740992
set_option maxRecDepth 100000 in
set_option maxHeartbeats 8000000 in
theorem l13Case_o (a : Option Addr) (len cap : Nat) (w : World) (hlen : len ≤ 1048576) (hy : Bytes w.heap.size w a len) :
    Calls Try.prog 60 #[.slice a len cap] w (NewO FlexArgs FlexArgs.v (fun q => q.1.os) FlexArgs.ok w) := by
  refine calls_sx Try.func60 rfl rfl (fun a h1 h2 h3 => ((Fr.nil h1 h2).arg (h3 0 _ rfl))) ?_
  repeat (first | refine SX.seq ?_ | refine SXl.nil ?_ | refine SX.region ?_ | refine SQ.thenNormal ?_ | (refine l_move ?_; (refine SXl.v (OpW.move rfl) rfl ?_ ?_ ?_); rfl; rfl) | (refine l_assign ?_; (refine SXl.v (OpW.assign rfl) rfl ?_ ?_ ?_); rfl; rfl))
  refine l_call ?_
  refine SXl.newCur rfl rfl rfl (fun w hl => l01New_loc hlen hy hl) (fun gc => ?_)
  repeat (first | refine SX.seq ?_ | refine SXl.nil ?_ | refine SX.region ?_ | refine SQ.thenNormal ?_ | (refine l_move ?_; (refine SXl.v (OpW.move rfl) rfl ?_ ?_ ?_); rfl; rfl) | (refine l_assign ?_; (refine SXl.v (OpW.assign rfl) rfl ?_ ?_ ?_); rfl; rfl))
  refine l_call ?_
  refine SXl.drawO 0 rfl rfl rfl rfl (fun w hl hc => l13Any_d _ _ w hc) (fun q hq => ?_)
  rw [List.append_nil]
  obtain ⟨xs, qa, qc⟩ := q
  have hq' : FitItems 13 xs := hq
  obtain ⟨hf, hl13⟩ := hq'
  simp only [ItemsQ.v, ItemsQ.os]
  repeat (first | refine SX.seq ?_ | refine SXl.nil ?_ | refine SX.region ?_ | refine SQ.thenNormal ?_ | (refine l_move ?_; (refine SXl.v (OpW.move rfl) rfl ?_ ?_ ?_); rfl; rfl) | (refine l_assign ?_; (refine SXl.v (OpW.assign rfl) rfl ?_ ?_ ?_); rfl; rfl))
  refine l_buildSlice ?_
  refine SXl.lit (cells := ([0, 0, 10, 64, -1, 1048577] : List Int).map (.int .i64)) (z := .int .i64 0) ?_ ?_ rfl (by decide) (by kernel_rfl) rfl (fun gl => ?_)
  rfl; rfl
  skip
  refine l_call ?_
  refine SXl.drawC (ξ := Int) (v := fun x : Int => .int .i64 x) 0 rfl rfl rfl rfl (fun x => x ∈ ([0, 0, 10, 64, -1, 1048577] : List Int)) (fun w hl hc => pick_e (l := [0, 0, 10, 64, -1, 1048577]) hl hc (.head _) (.head _) (by simp) (by simp)) (fun gap hg => ?_)
  have hg2 : -1 ≤ gap ∧ gap ≤ 1048577 := by simp at hg; omega
  clear hg
  have hnear := hyp_near hf
  have hH := fun (w' : World) (h : ItemSlice (fun k => w.heap.size ≤ k) w' qa xs) => shyps_any xs qa qc _ w' (by omega) h
  have hU := fun (S : Nat → Prop) (b : Option Addr) (d : Nat) (w' : World) (h : ItemSlice (fun k => w.heap.size ≤ k) w' qa xs) (h2 : IntSlice S w' b (xs.map hyp)) => souterOf_any xs (xs.map hyp) 0 qa b qc d _ S w' (by omega) (by rw [List.length_map]; omega) hf (hnear.mono (by decide)) (by decide) h h2
  have hV := outer_bd (gap := 0) hf (hnear.mono (by decide)) (by omega) (by rw [List.length_map]; omega) (by decide)
  generalize hvv : outerOf xs (xs.map hyp) 0 = V at *
  repeat ((refine l_move ?_; (refine SXl.v (OpW.move rfl) rfl ?_ ?_ ?_); rfl; rfl))
  refine l_call ?_
  refine SXl.calln1 (v := fun q => .slice q.a (xs.map hyp).length q.c) (F1 := ownRes icell 3 1 (xs.map hyp)) rfl rfl rfl (fun w' hl => (hH w' (items_of (q := ⟨xs, qa, qc⟩) hl.owns (.head _))).mono fun _ _ h => new_own h) (fun q2 => ?_)
  repeat ((refine l_call ?_; (refine SXl.v (OpW.call rfl (fun w hl => hU _ _ _ _ (items_of (q := ⟨xs, qa, qc⟩) hl.owns (.head _)) (intRes_in hl (.head _)))) rfl ?_ ?_ ?_); rfl; rfl))
  refine l_buildSlice ?_
  refine SXl.lit (cells := ([0, 640, 1000, 2000, 3333, V, 1048576, -1] : List Int).map (.int .i64)) (z := .int .i64 0) ?_ ?_ rfl (by decide) (by kernel_rfl) rfl (fun gl2 => ?_)
  rfl; rfl
  skip
  refine l_call ?_
  refine SXl.drawC (ξ := Int) (v := fun x : Int => .int .i64 x) 1 rfl rfl rfl rfl (fun x => x ∈ ([0, 640, 1000, 2000, 3333, V, 1048576, -1] : List Int)) (fun w hl hc => pick_e (l := [0, 640, 1000, 2000, 3333, V, 1048576, -1]) hl hc (.tail _ (.head _)) (.head _) (by simp) (by simp)) (fun inner hi => ?_)
  have hi2 : -9007199254740992 ≤ inner ∧ inner ≤ 9007199254740992 := by simp at hi; omega
  repeat (first | refine SXl.nil ?_ | refine SQ.thenNormal ?_ | (refine l_assign ?_; (refine SXl.v (OpW.assign rfl) rfl ?_ ?_ ?_); rfl; rfl) | refine SX.ret ?_)
  refine SQ.bodyT3 rfl rfl rfl rfl (fun w' hl => ⟨(⟨xs, qa, qc⟩, gap, inner), rfl, ⟨hq, hg2, hi2⟩, hl.owns, hl.mod⟩)
set_option maxRecDepth 100000 in
set_option maxHeartbeats 8000000 in
theorem drawFlexLine_o (a : Option Addr) (len cap : Nat) (w : World) (hlen : len ≤ 1048576) (hy : Bytes w.heap.size w a len) :
    Calls Try.prog 23 #[.slice a len cap] w (NewO FlexArgs FlexArgs.v (fun q => q.1.os) FlexArgs.ok w) := by
  refine calls_sx Try.func23 rfl rfl (fun a h1 h2 h3 => ((Fr.nil h1 h2).arg (h3 0 _ rfl))) ?_
  repeat (first | refine SX.seq ?_ | refine SXl.nil ?_ | refine SX.region ?_ | refine SQ.thenNormal ?_ | (refine l_move ?_; (refine SXl.v (OpW.move rfl) rfl ?_ ?_ ?_); rfl; rfl) | (refine l_assign ?_; (refine SXl.v (OpW.assign rfl) rfl ?_ ?_ ?_); rfl; rfl))
  refine l_call ?_
  refine SXl.callO rfl rfl rfl (fun w' hl => l13Case_o a len cap w' hlen (bytes_loc hy (fun _ _ f => f) hl)) (fun q hq => ?_)
  obtain ⟨q, gap, inner⟩ := q
  simp only [FlexArgs.v]
  repeat (first | refine SXl.nil ?_ | refine SQ.thenNormal ?_ | (refine l_assign ?_; (refine SXl.v (OpW.assign rfl) rfl ?_ ?_ ?_); rfl; rfl) | (refine l_extract ?_; (refine SXl.v (OpW.extract rfl rfl) rfl ?_ ?_ ?_); rfl; rfl) | refine SX.ret ?_)
  refine SQ.bodyT3 rfl rfl rfl rfl (fun w' hl => ⟨(q, gap, inner), rfl, hq, hl.owns.left, hl.mod⟩)
end Go.Proofs.Ytdohglcjjlmhhaa
namespace Go.Proofs.Ytdohglcjjlmhhaa
open Go.RowKit

theorem start_heavy {l : List Item} {g : Bool} (hr : ∀ x ∈ l, Right x) : Heavy g (startOf g l) := fun p hp hn => by
  obtain ⟨x, hx, rfl⟩ := List.mem_map.1 hp
  simp only at hn ⊢
  have hw := (hr x hx).weight g
  split at hn
  · cases hn
  · rename_i hf
    have : ¬ weightOf g x = 0 := fun h0 => hf (by unfold holdFirst; rw [decide_eq_true h0]; rfl)
    omega
theorem start_limits {l : List Item} {g : Bool} (hr : ∀ x ∈ l, Right x) : InLimits (startOf g l) := fun p hp s hs => by
  obtain ⟨x, hx, rfl⟩ := List.mem_map.1 hp
  simp only at hs ⊢
  split at hs
  · rw [← Option.some.inj hs]
    unfold hyp within upperOf
    refine ⟨by omega, fun h0 => ?_⟩
    rw [if_pos h0]
    omega
  · cases hs
theorem start_least {l : List Item} {g : Bool} (hr : ∀ x ∈ l, Right x) : LeastOk (startOf g l) := fun p hp => by
  obtain ⟨x, hx, rfl⟩ := List.mem_map.1 hp
  exact (hr x hx).least
theorem flexEnd_items (l : List Item) (gap inner : Int) : (flexEnd l gap inner).1.map (·.1) = l := by
  unfold flexEnd
  rw [flexRun_items, start_items]
theorem flexSizes_len (l : List Item) (gap inner : Int) : (flexSizes l gap inner).length = l.length := by
  unfold flexSizes
  split
  · rw [sizes_len, ← List.length_map (f := (·.1)), flexEnd_items]
  · exact List.length_map _
/-- Each size is within its limits. -/
theorem flex_limits {l : List Item} {gap inner : Int} (hok : flexOk l gap inner = true) {i : Nat} {x : Item} (hx : l[i]? = some x) : ∃ s, (flexSizes l gap inner)[i]? = some s ∧ x.least ≤ s ∧ (0 ≤ x.most → s ≤ upperOf x) := by
  obtain ⟨hr, -, -, -⟩ := flexOk_parts hok
  have h1 := flexEnd_items l gap inner
  have hL : InLimits (flexEnd l gap inner).1 := flexRun_limits _ _ (start_limits hr) (start_least hr) (start_heavy hr)
  have hD : freeN (flexEnd l gap inner).1 = 0 := flexRun_done _ _ (Nat.le_refl _)
  have e1 : flexSizes l gap inner = heldSizes (flexEnd l gap inner).1 := by unfold flexSizes; rw [hok]; rfl
  rw [e1]
  generalize (flexEnd l gap inner).1 = E at *
  have h2 : (E.map (·.1))[i]? = some x := by rw [h1]; exact hx
  rw [List.getElem?_map] at h2
  obtain ⟨⟨y, o⟩, hp, rfl⟩ := Option.map_eq_some_iff.1 h2
  have hpm := List.mem_of_getElem? hp
  cases o with
  | none =>
    have : (y, none) ∈ E.filter fun q => q.2.isNone := List.mem_filter.2 ⟨hpm, rfl⟩
    unfold freeN at hD
    rw [List.length_eq_zero_iff.1 hD] at this
    simp at this
  | some s =>
    obtain ⟨q1, q2⟩ := hL _ hpm s rfl
    exact ⟨s, by unfold heldSizes; rw [List.getElem?_map, hp]; rfl, q1, q2⟩
theorem flexCount_le (l : List Item) (gap inner : Int) : flexCount l gap inner ≤ l.length := by
  unfold flexCount
  split
  · exact count_le l _ gap inner _
  · exact Nat.zero_le _
theorem flexCount_bad {l : List Item} {gap inner : Int} (h : flexOk l gap inner = false) : flexCount l gap inner = 0 := by
  unfold flexCount; rw [h]; rfl
def ten : Item := ⟨10, 0, -1, 1, 0, 0, 0, false, false⟩
set_option maxRecDepth 100000 in
theorem flex_three : flexSizes [ten, ten, ten] 0 100 = [33, 33, 34] := by kernel_rfl
end Go.Proofs.Ytdohglcjjlmhhaa
namespace Go.Proofs.Ytdohglcjjlmhhaa
open Go.RowKit

set_option maxRecDepth 100000 in
theorem lsameInts_any (x y : List Int) (a b : Option Addr) (c c' : Nat) (R S : Nat → Prop) (w : World) (hx : x.length ≤ 1048576) (hy : y.length ≤ 1048576) (h : IntSlice R w a x) (h' : IntSlice S w b y) :
    Calls Try.prog 13 #[.slice a x.length c, .slice b y.length c'] w fun e w' => e = .returned (.bool (decide (x = y))) ∧ Mod (fun _ => False) w w' := by
  refine calls_sx Try.func13 rfl rfl (fun a h1 h2 h3 => ((Fr.nil h1 h2).arg (h3 1 _ rfl)).arg (h3 0 _ rfl)) ?_
  repeat (first | refine SX.seq ?_ | refine SXl.nil ?_ | refine SX.region ?_ | refine SQ.thenNormal ?_ | (refine l_move ?_; (refine SXl.v (OpW.move rfl) rfl ?_ ?_ ?_); rfl; rfl) | (refine l_assign ?_; (refine SXl.v (OpW.assign rfl) rfl ?_ ?_ ?_); rfl; rfl) | (refine l_len ?_; (refine SXl.v (OpW.len rfl) rfl ?_ ?_ ?_); rfl; rfl) | (refine l_neq ?_; (refine SXl.v (OpW.neq rfl rfl) rfl ?_ ?_ ?_); rfl; rfl))
  refine SX.cond rfl (fun hc => ?_) (fun hc => ?_)
  · (try simp only [Bool.not_eq_true', Bool.not_eq_false', decide_eq_true_eq, decide_eq_false_iff_not, Bool.and_eq_true, Bool.or_eq_true, Bool.or_eq_false_iff, Bool.and_eq_false_iff, Int.ofNat_inj, Int.ofNat_lt, Int.ofNat_le] at hc)
    repeat (first | refine SX.seq ?_ | refine SXl.nil ?_ | refine SX.region ?_ | refine SQ.thenNormal ?_ | (refine l_assign ?_; (refine SXl.v (OpW.assign rfl) rfl ?_ ?_ ?_); rfl; rfl) | refine SX.ret ?_ | refine SQ.thenRet ?_)
    refine SQ.body1 rfl rfl (fun w' hl => ⟨ret_bool (by symm; simp; rintro rfl; exact hc rfl), hl.mod⟩)
  · (try simp only [Bool.not_eq_true', Bool.not_eq_false', decide_eq_true_eq, decide_eq_false_iff_not, Bool.and_eq_true, Bool.or_eq_true, Bool.or_eq_false_iff, Bool.and_eq_false_iff, Int.ofNat_inj, Int.ofNat_lt, Int.ofNat_le] at hc)
    repeat (first | refine SX.seq ?_ | refine SXl.nil ?_ | refine SX.region ?_ | refine SQ.thenNormal ?_ | refine SX.block ?_ | refine SX.skip ?_ | (refine l_assign ?_; (refine SXl.v (OpW.assign rfl) rfl ?_ ?_ ?_); rfl; rfl))
    refine SX.loopi (fun k : Nat => k ≤ x.length ∧ SameTo x y k) (fun k => x.length - k) (fun _ => []) (fun _ => []) (fun _ => []) (fun k => [(0, .slice a x.length c), (1, .slice b y.length c'), (5, .int .i64 k)]) 0 ⟨Nat.zero_le _, rfl⟩ ?_ (fun _ hl => hl) ?_
    · (repeat (first | exact subF_nil _ | (refine subF_cons rfl ?_) | (refine subF_consv rfl (by rfl) ?_)))
    · rintro k ⟨hk, hs⟩
      by_cases hlt : k < x.length
      · obtain ⟨b1, o1, u, rfl, _, _, hxk, hc1⟩ := IntSlice.get h hlt
        obtain ⟨b2, o2, v, rfl, _, _, hyk, hc2⟩ := IntSlice.get h' (hc ▸ hlt)
        repeat (first | refine SX.seq ?_ | refine SXl.nil ?_ | refine SX.region ?_ | refine SQ.thenNormal ?_ | refine SX.block ?_ | refine SX.skip ?_ | refine SX.condT rfl ?_ | (refine l_move ?_; (refine SXl.v (OpW.move rfl) rfl ?_ ?_ ?_); rfl; rfl) | (refine l_len ?_; (refine SXl.v (OpW.len rfl) rfl ?_ ?_ ?_); rfl; rfl) | (refine l_lss ?_; (refine SXl.v (OpW.lssT rfl rfl (by omega)) rfl ?_ ?_ ?_); rfl; rfl) | refine SX.drawn (by kernel_rfl) (by kernel_rfl) ?_ | refine SXr.nil ?_ | (refine r_load ?_; (refine SXr.v (OpW.loadOld rfl (by assumption) (fun h => h)) rfl ?_ ?_ ?_); rfl; rfl) | (refine r_move ?_; (refine SXr.v (OpW.move rfl) rfl ?_ ?_ ?_); rfl; rfl) | (refine r_neq ?_; (refine SXr.v (OpW.neq rfl rfl) rfl ?_ ?_ ?_); rfl; rfl) | (refine r_indexAddr ?_; (refine SXr.v (OpW.indexAddr1 (by omega) rfl rfl) rfl ?_ ?_ ?_); rfl; rfl))
        refine SX.cond rfl (fun hq => ?_) (fun hq => ?_)
        · (try simp only [Bool.not_eq_true', Bool.not_eq_false', decide_eq_true_eq, decide_eq_false_iff_not, Bool.and_eq_true, Bool.or_eq_true, Bool.or_eq_false_iff, Bool.and_eq_false_iff, Int.ofNat_inj, Int.ofNat_lt, Int.ofNat_le] at hq)
          repeat (first | refine SX.seq ?_ | refine SXl.nil ?_ | refine SX.region ?_ | refine SQ.thenNormal ?_ | (refine l_assign ?_; (refine SXl.v (OpW.assign rfl) rfl ?_ ?_ ?_); rfl; rfl) | refine SX.ret ?_ | refine SQ.thenRet ?_ | refine SQ.blockRet ?_)
          refine SQ.body1 rfl rfl (fun w' hl => ⟨ret_bool (by symm; simp; exact ne_at hxk hyk hq), hl.mod⟩)
        · (try simp only [Bool.not_eq_true', Bool.not_eq_false', decide_eq_true_eq, decide_eq_false_iff_not, Bool.and_eq_true, Bool.or_eq_true, Bool.or_eq_false_iff, Bool.and_eq_false_iff, Int.ofNat_inj, Int.ofNat_lt, Int.ofNat_le] at hq)
          repeat (first | refine SXl.nil ?_ | refine SX.region ?_ | refine SQ.thenNormal ?_ | refine SX.skip ?_ | (refine l_move ?_; (refine SXl.v (OpW.move rfl) rfl ?_ ?_ ?_); rfl; rfl) | (refine l_assign ?_; (refine SXl.v (OpW.assign rfl) rfl ?_ ?_ ?_); rfl; rfl) | (refine l_add ?_; (refine SXl.v (OpW.succ rfl rfl (by omega)) rfl ?_ ?_ ?_); rfl; rfl) | refine SQ.blockNormal ?_)
          refine SQ.roundi (k + 1) ⟨by omega, hs.succ hxk (hq ▸ hyk)⟩ (by omega) ?_ (fun _ hl => hl)
          (repeat (first | exact subF_nil _ | (refine subF_cons rfl ?_) | (refine subF_consv rfl (by rfl) ?_)))
      · repeat (first | refine SX.seq ?_ | refine SXl.nil ?_ | refine SX.region ?_ | refine SQ.thenNormal ?_ | refine SX.condF rfl ?_ | (refine l_move ?_; (refine SXl.v (OpW.move rfl) rfl ?_ ?_ ?_); rfl; rfl) | (refine l_assign ?_; (refine SXl.v (OpW.assign rfl) rfl ?_ ?_ ?_); rfl; rfl) | (refine l_len ?_; (refine SXl.v (OpW.len rfl) rfl ?_ ?_ ?_); rfl; rfl) | (refine l_lss ?_; (refine SXl.v (OpW.lssF rfl rfl (by omega)) rfl ?_ ?_ ?_); rfl; rfl) | refine SX.ret ?_ | refine SX.exit ?_ | refine SQ.thenExit ?_ | refine SQ.blockExit ?_)
        refine SQ.body1 rfl rfl (fun w' hl => ⟨ret_bool (by symm; simp; exact hs.all (by omega) (by omega)), hl.mod⟩)

end Go.Proofs.Ytdohglcjjlmhhaa
