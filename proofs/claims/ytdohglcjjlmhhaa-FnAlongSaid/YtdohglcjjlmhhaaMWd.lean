/-
  PROVED: contracts of functions and words on memory, several texts put together: what each says stands at its theorems. Conditions: as told there.
-/
import Derived.Test.YtdohglcjjlmhhaaMWc
import Derived.Test.YtdohglcjjlmhhaaChecked
import Derived.ProofKit
set_option linter.unusedVariables false
set_option linter.unusedSimpArgs false
namespace Go.Proofs.Ytdohglcjjlmhhaa
open Go.RowKit
set_option linter.unusedVariables false
set_option linter.unusedSimpArgs false

def alongOf (l : List Item) (s : List Int) (gap inner justify : Int) : Along := ⟨l, s, gap, signedL (inner - outerOf l s gap), justify⟩
def alongPlaces (l : List Item) (s : List Int) (gap inner justify : Int) : List Int := if alongOk l s gap inner then (alongOf l s gap inner justify).placesTo l.length else []
def alongEnd (l : List Item) (s : List Int) (gap inner justify : Int) : Int := if alongOk l s gap inner then (alongOf l s gap inner justify).at_ l.length else 0
namespace Along
def givenL (c : Along) : List Int := if 0 < (c.autos : Int) ∧ 0 < c.free then evenly c.free c.autos else List.replicate c.autos 0
def spaceL (c : Along) : List Int := if c.autos = 0 then spaces c.free c.l.length c.justify else List.replicate c.l.length 0
theorem givenL_len (c : Along) (h : c.autos ≤ 64) : c.givenL.length = c.autos := by
  unfold givenL
  split
  · rw [evenly_len _ _ (by omega) (by omega)]
    omega
  · simp
theorem givenL_at (c : Along) (h : c.autos ≤ 64) {u : Nat} (hu : u < c.autos) : c.givenL[u]? = some (elemAt c.extra u) := by
  have hl := c.givenL_len h
  unfold givenL at *
  unfold extra extraL
  split
  · rename_i hc
    rw [if_pos hc] at hl
    have hlt : u < (evenly c.free c.autos).length := by omega
    obtain ⟨y, hy⟩ : ∃ y, (evenly c.free c.autos)[u]? = some y := ⟨_, List.getElem?_eq_getElem hlt⟩
    rw [elemAt_some hy, hy]
  · rw [List.getElem?_replicate, if_pos hu]
    rfl
theorem spaceL_len (c : Along) : c.spaceL.length = c.l.length := by
  unfold spaceL
  split
  · exact spTo_length _ _ _ _
  · simp
theorem spaceL_at (c : Along) {k : Nat} (hk : k + 1 < c.l.length) : c.spaceL[k]? = some (c.space k) := by
  unfold spaceL space
  split
  · unfold spaces
    rw [spTo_get _ _ _ _ _ (by omega), if_pos (by omega)]
  · rw [List.getElem?_replicate, if_pos (by omega)]
theorem used_next (c : Along) {k : Nat} {x : Item} (h : c.l[k]? = some x) : c.used (k + 1) = c.used k + (x.autoBefore.toNat + x.autoBehind.toNat) := autosIn_next h
theorem used_le (c : Along) (k : Nat) : c.used k ≤ c.autos := autosIn_mono c.l k
theorem item_at (c : Along) {k : Nat} {x : Item} (h : c.l[k]? = some x) : c.item k = x := by unfold item; rw [h]; rfl
theorem size_at (c : Along) {k : Nat} {x : Int} (h : c.sizes[k]? = some x) : c.size k = x := by unfold size; rw [h]; rfl
end Along
theorem lineV_n {p : List Int} {n : Nat} (h : p.length = n) (q : Option Addr × Nat) : lineV (p, q) = .slice q.1 n q.2 := by subst h; rfl
theorem lineO_n {p : List Int} {n : Nat} (h : p.length = n) (q : Option Addr × Nat) : lineO (p, q) = ⟨.slice q.1 n q.2, 3, 1, n, (p.map icell).flatten⟩ := by subst h; rfl
theorem space_bd (c : Along) (k : Nat) : -2097154 ≤ c.space k ∧ c.space k ≤ 2097154 := by
  have := betweenOf_bd c.free c.l.length c.justify k
  unfold Along.space
  split <;> omega
theorem givenL_cell (c : Along) (h : c.autos ≤ 64) {u : Nat} (hu : u < c.autos) : ((c.givenL.map icell).flatten)[0 + u]? = some (.int .i64 (elemAt c.extra u)) := by
  rw [ints_flat, Nat.zero_add, List.getElem?_map, c.givenL_at h hu]
  rfl
theorem spaceL_cell (c : Along) {k : Nat} (hk : k + 1 < c.l.length) : ((c.spaceL.map icell).flatten)[0 + k]? = some (.int .i64 (c.space k)) := by
  rw [ints_flat, Nat.zero_add, List.getElem?_map, c.spaceL_at hk]
  rfl
theorem ints_o {n : Nat} {l : List Int} {w w' : World} {en : Ending} (h : NewSlice 3 1 w n (l.map icell).flatten en w') : NewO (Option Addr × Nat) (fun q => .slice q.1 n q.2) (fun q => [⟨.slice q.1 n q.2, 3, 1, n, (l.map icell).flatten⟩]) (fun _ => True) w en w' := by
  obtain ⟨a, c, he, ho, hm⟩ := h
  exact ⟨(a, c), he, trivial, ⟨fun o ho' => by obtain rfl := List.mem_singleton.1 ho'; exact ho, List.pairwise_singleton _ _⟩, hm⟩
theorem zeros_own (n : Nat) : List.replicate n (Value.int .i64 0) = ((List.replicate n (0 : Int)).map icell).flatten := (zeros_cells n).symm
theorem along_flat (c : Along) (k : Nat) (v : Int) (h : v = c.place k) : ((c.placesTo k).map icell).flatten ++ [Value.int .i64 v] = ((c.placesTo (k + 1)).map icell).flatten := by
  subst h
  rw [c.placesTo_next, List.map_append, List.flatten_append]
  rfl
/-- What the test of a line's items says. -/
theorem alongOk_says {l : List Item} {s : List Int} {gap inner : Int} (h : alongOk l s gap inner = true) : l.length ≤ 12 ∧ s.length = l.length ∧ (∀ x ∈ l, Right x) ∧ (∀ y ∈ s, 0 ≤ y ∧ y ≤ 1048576) ∧ (0 ≤ gap ∧ gap ≤ 1048576) ∧ (0 ≤ inner ∧ inner ≤ 1048576) := by
  unfold alongOk itemsOk at h
  simp only [Bool.and_eq_true, decide_eq_true_eq, List.all_eq_true, inB] at h
  obtain ⟨⟨⟨⟨⟨h1, h2⟩, h3⟩, h4⟩, h5⟩, h6⟩ := h
  exact ⟨h2, h3, fun x hx => right_of (h1 x hx), h6, h4, h5⟩
set_option maxRecDepth 100000 in
set_option maxHeartbeats 8000000 in
theorem l15Places_any (l : List Item) (s : List Int) (gap inner justify : Int) (a b : Option Addr) (c d : Nat) (R S : Nat → Prop) (w : World) (hlen : l.length ≤ 1048576) (hslen : s.length ≤ 1048576) (h : ItemSlice R w a l) (h' : IntSlice S w b s) :
    Calls Try.prog 68 #[.slice a l.length c, .slice b s.length d, .int .i64 gap, .int .i64 inner, .int .i64 justify] w (NewO (Option Addr × Nat) (fun q => .tuple #[lineV (alongPlaces l s gap inner justify, q), .int .i64 (alongEnd l s gap inner justify)]) (fun q => [lineO (alongPlaces l s gap inner justify, q)]) (fun _ => True) w) := by
  refine calls_sx Try.func68 rfl rfl (fun a h1 h2 h3 => (((((Fr.nil h1 h2).arg (h3 4 _ rfl)).arg (h3 3 _ rfl)).arg (h3 2 _ rfl)).arg (h3 1 _ rfl)).arg (h3 0 _ rfl)) ?_
  have hO := fun (w' : World) (hm : Mod (fun _ => False) w w') => l15Ok_any l s gap inner a b c d R S w' hlen hslen (h.flatKeep hm) (SliceAt.flatKeep h' hm)
  unfold alongPlaces alongEnd
  cases hok : alongOk l s gap inner
  · rw [hok] at hO
    repeat (first | refine SX.seq ?_ | refine SXl.nil ?_ | refine SX.region ?_ | refine SQ.thenNormal ?_ | refine SX.condT rfl ?_ | (refine l_call ?_; (refine SXl.v (OpW.call rfl (fun w hl => hO _ hl.mod)) rfl ?_ ?_ ?_); rfl; rfl) | (refine l_move ?_; (refine SXl.v (OpW.move rfl) rfl ?_ ?_ ?_); rfl; rfl) | (refine l_assign ?_; (refine SXl.v (OpW.assign rfl) rfl ?_ ?_ ?_); rfl; rfl) | (refine l_not ?_; (refine SXl.v (OpW.not rfl) rfl ?_ ?_ ?_); rfl; rfl) | (refine l_buildSlice ?_; first | (refine SXl.lit1 ?_ ?_ rfl rfl rfl (fun g => ?_); rfl; rfl) | (refine SXl.lit0 ?_ ?_ (fun _ h => h) rfl (fun g => ?_); rfl; rfl)) | refine SX.ret ?_ | refine SQ.thenRet ?_)
    refine SQ.body2 rfl rfl rfl (fun w' hl => ⟨(some ⟨g, 0, none⟩, 0), rfl, trivial, hl.owns, hl.mod⟩)
  rw [hok] at hO
  rw [if_pos rfl, if_pos rfl]
  obtain ⟨hn, hsl, hri, hsb, hg, hin⟩ := alongOk_says hok
  have hf : ∀ x ∈ l, x.Fits := fun x hx => (hri x hx).fits
  have hF := fun (w' : World) (hm : Mod (fun _ => False) w w') => sfreeOf_any l s gap inner a b c d R S w' hlen hslen hf (fun y hy => by have := hsb y hy; omega) (by omega) (by omega) (h.flatKeep hm) (SliceAt.flatKeep h' hm)
  have hA := fun (w' : World) (hm : Mod (fun _ => False) w w') => sautosIn_any l a c R w' hlen (h.flatKeep hm)
  generalize hC : alongOf l s gap inner justify = C
  have e1 : C.l = l := by rw [← hC]; rfl
  have e2 : C.sizes = s := by rw [← hC]; rfl
  have e3 : C.gap = gap := by rw [← hC]; rfl
  have e4 : C.free = signedL (inner - outerOf l s gap) := by rw [← hC]; rfl
  have e5 : C.justify = justify := by rw [← hC]; rfl
  have e6 : C.autos = autosIn l := by rw [← hC]; rfl
  have hfb := signedL_bd (inner - outerOf l s gap)
  have hau := autosIn_le l
  clear hC
  repeat (first | refine SX.seq ?_ | refine SXl.nil ?_ | refine SX.region ?_ | refine SQ.thenNormal ?_ | refine SX.skip ?_ | refine SX.condF rfl ?_ | (refine l_call ?_; (first | refine SXl.v (OpW.call rfl (fun w hl => hO _ hl.mod)) rfl ?_ ?_ ?_ | refine SXl.v (OpW.call rfl (fun w hl => hF _ hl.mod)) rfl ?_ ?_ ?_ | refine SXl.v (OpW.call rfl (fun w hl => hA _ hl.mod)) rfl ?_ ?_ ?_ | refine SXl.v (OpW.calls rfl (fun w _ => l02Len_any _ _)) rfl ?_ ?_ ?_); rfl; rfl) | (refine l_move ?_; (refine SXl.v (OpW.move rfl) rfl ?_ ?_ ?_); rfl; rfl) | (refine l_assign ?_; (refine SXl.v (OpW.assign rfl) rfl ?_ ?_ ?_); rfl; rfl) | (refine l_not ?_; (refine SXl.v (OpW.not rfl) rfl ?_ ?_ ?_); rfl; rfl) | (refine l_buildSlice ?_; first | (refine SXl.lit1 ?_ ?_ rfl rfl rfl (fun g => ?_); rfl; rfl) | (refine SXl.lit0 ?_ ?_ (fun _ h => h) rfl (fun g => ?_); rfl; rfl)))
  refine l_makeSliceI ?_
  refine SXl.makeI (m := autosIn l) (z := .int .i64 0) rfl rfl rfl rfl rfl (by omega) (by omega) (fun g1 => ?_)
  repeat (first | refine SX.seq ?_ | refine SXl.nil ?_ | refine SX.region ?_ | refine SQ.thenNormal ?_ | (refine l_move ?_; (refine SXl.v (OpW.move rfl) rfl ?_ ?_ ?_); rfl; rfl) | (refine l_assign ?_; (refine SXl.v (OpW.assign rfl) rfl ?_ ?_ ?_); rfl; rfl) | (refine l_len ?_; (refine SXl.v (OpW.len rfl) rfl ?_ ?_ ?_); rfl; rfl))
  refine l_makeSliceI ?_
  refine SXl.makeI (m := l.length) (z := .int .i64 0) rfl rfl rfl rfl rfl (by omega) (by omega) (fun g2 => ?_)
  repeat (first | refine SXl.nil ?_ | refine SQ.thenNormal ?_ | (refine l_assign ?_; (refine SXl.v (OpW.assign rfl) rfl ?_ ?_ ?_); rfl; rfl))
  have hgl := C.givenL_len (by omega)
  have hsp := C.spaceL_len
  have hG : C.givenL = if 0 < (autosIn l : Int) ∧ 0 < signedL (inner - outerOf l s gap) then evenly (signedL (inner - outerOf l s gap)) (autosIn l) else List.replicate (autosIn l) 0 := by unfold Along.givenL; rw [e6, e4]
  have hP : C.spaceL = if autosIn l = 0 then spaces (signedL (inner - outerOf l s gap)) l.length justify else List.replicate l.length 0 := by unfold Along.spaceL; rw [e6, e4, e5, e1]
  have hS : C.start = if autosIn l = 0 then leadOf (signedL (inner - outerOf l s gap)) l.length justify else 0 := by unfold Along.start; rw [e6, e4, e5, e1]
  rw [e6] at hgl
  rw [e1] at hsp
  generalize hfr : signedL (inner - outerOf l s gap) = fr at *
  generalize hau2 : autosIn l = au at *
  refine SX.seq ?_
  refine SX.join (ι := Option Addr × Nat) (fun _ => True) (fun _ => [⟨g2, List.replicate l.length (Value.int .i64 0), 3⟩]) (fun q => [⟨.slice q.1 au q.2, 3, 1, au, (C.givenL.map icell).flatten⟩, ⟨.slice (some ⟨g, 0, none⟩) 0 0, 3, 1, 0, []⟩]) (fun _ => []) (fun q => [(0, .slice a l.length c), (1, .slice b s.length d), (2, .int .i64 gap), (4, .int .i64 justify), (12, .slice (some ⟨g, 0, none⟩) 0 0), (13, .int .i64 fr), (14, .int .i64 au), (15, .slice q.1 au q.2), (16, .int .i64 0), (17, .slice (some ⟨g2, 0, none⟩) l.length l.length)]) ?_ ?_
  · by_cases h1 : 0 < au
    · by_cases h2 : 0 < fr
      · rw [if_pos ⟨by omega, h2⟩] at hG
        have hE := sevenly_any fr au
        rw [sevenly_eq, ← hG, hgl] at hE
        repeat (first | refine SX.seq ?_ | refine SXl.nil ?_ | refine SX.region ?_ | refine SQ.thenNormal ?_ | refine SX.condT rfl ?_ | (refine l_move ?_; (refine SXl.v (OpW.move rfl) rfl ?_ ?_ ?_); rfl; rfl) | (refine l_gtr ?_; (refine SXl.v (OpW.gtrT rfl rfl (by omega)) rfl ?_ ?_ ?_); rfl; rfl) | (refine l_pick ?_; (refine SXl.v (OpW.pick rfl rfl rfl) rfl ?_ ?_ ?_); rfl; rfl))
        refine l_call ?_
        refine SXl.callO rfl rfl rfl (fun w' hl => (hE w').mono fun _ _ h => ints_o h) (fun q _ => ?_)
        simp only [List.cons_append, List.nil_append]
        repeat (first | refine SXl.nil ?_ | (refine l_assign ?_; (refine SXl.v (OpW.assign rfl) rfl ?_ ?_ ?_); rfl; rfl))
        refine SQ.join q trivial ?_ (fun w hl => hl.blkSub (List.cons_sublist_cons.2 (List.nil_sublist _)))
        (repeat (first | exact subF_nil _ | (refine subF_cons rfl ?_) | (refine subF_consv rfl (by rfl) ?_)))
      · rw [if_neg (fun hc => h2 hc.2)] at hG
        repeat (first | refine SX.seq ?_ | refine SXl.nil ?_ | refine SX.region ?_ | refine SQ.thenNormal ?_ | refine SX.skip ?_ | refine SX.condF rfl ?_ | (refine l_move ?_; (refine SXl.v (OpW.move rfl) rfl ?_ ?_ ?_); rfl; rfl) | (refine l_gtr ?_; (first | refine SXl.v (OpW.gtrT rfl rfl (by omega)) rfl ?_ ?_ ?_ | refine SXl.v (OpW.gtrF rfl rfl (by omega)) rfl ?_ ?_ ?_); rfl; rfl) | (refine l_pick ?_; (refine SXl.v (OpW.pick rfl rfl rfl) rfl ?_ ?_ ?_); rfl; rfl))
        refine SQ.join (some ⟨g1, 0, none⟩, au) trivial ?_ (fun w hl => ?_)
        · (repeat (first | exact subF_nil _ | (refine subF_cons rfl ?_) | (refine subF_consv rfl (by rfl) ?_)))
        · rw [hG, ← zeros_own]
          exact (hl.blkPerm (List.Perm.swap _ _ _)).toOwn (m := au) (sz := 1) id (by simp) (by unfold maxLen; omega)
    · rw [if_neg (fun hc => by omega)] at hG
      repeat (first | refine SX.seq ?_ | refine SXl.nil ?_ | refine SX.region ?_ | refine SQ.thenNormal ?_ | refine SX.skip ?_ | refine SX.condF rfl ?_ | (refine SXl.no rfl rfl rfl ?_) | (refine l_move ?_; (refine SXl.v (OpW.move rfl) rfl ?_ ?_ ?_); rfl; rfl) | (refine l_gtr ?_; (refine SXl.v (OpW.gtrF rfl rfl (by omega)) rfl ?_ ?_ ?_); rfl; rfl) | (refine l_pick ?_; (refine SXl.v (OpW.pick rfl rfl rfl) rfl ?_ ?_ ?_); rfl; rfl))
      refine SQ.join (some ⟨g1, 0, none⟩, au) trivial ?_ (fun w hl => ?_)
      · (repeat (first | exact subF_nil _ | (refine subF_cons rfl ?_) | (refine subF_consv rfl (by rfl) ?_)))
      · rw [hG, ← zeros_own]
        exact (hl.blkPerm (List.Perm.swap _ _ _)).toOwn (m := au) (sz := 1) id (by simp) (by unfold maxLen; omega)
  rintro ⟨ga, gc⟩ _
  simp only
  refine SX.seq ?_
  refine SX.join (ι := Option Addr × Nat) (fun _ => True) (fun _ => []) (fun q => [⟨.slice q.1 l.length q.2, 3, 1, l.length, (C.spaceL.map icell).flatten⟩, ⟨.slice ga au gc, 3, 1, au, (C.givenL.map icell).flatten⟩, ⟨.slice (some ⟨g, 0, none⟩) 0 0, 3, 1, 0, []⟩]) (fun _ => []) (fun q => [(0, .slice a l.length c), (1, .slice b s.length d), (2, .int .i64 gap), (12, .slice (some ⟨g, 0, none⟩) 0 0), (15, .slice ga au gc), (16, .int .i64 C.start), (17, .slice q.1 l.length q.2)]) ?_ ?_
  · by_cases h1 : au = 0
    · rw [if_pos h1] at hP hS
      have hE := fun (w' : World) => l15Spaces_any fr l.length justify w' (by omega) (by omega) hn
      rw [← hP] at hE
      repeat (first | refine SX.seq ?_ | refine SXl.nil ?_ | refine SX.region ?_ | refine SQ.thenNormal ?_ | refine SX.condT rfl ?_ | (refine l_call ?_; (refine SXl.v (OpW.call rfl (fun w hl => sleadOf_any fr l.length justify _ (by omega) (by omega))) rfl ?_ ?_ ?_); rfl; rfl) | (refine l_move ?_; (refine SXl.v (OpW.move rfl) rfl ?_ ?_ ?_); rfl; rfl) | (refine l_assign ?_; (refine SXl.v (OpW.assign rfl) rfl ?_ ?_ ?_); rfl; rfl) | (refine l_len ?_; (refine SXl.v (OpW.len rfl) rfl ?_ ?_ ?_); rfl; rfl) | (refine l_eql ?_; (refine SXl.v (OpW.eqlT rfl rfl (by omega)) rfl ?_ ?_ ?_); rfl; rfl))
      refine l_call ?_
      refine SXl.callO rfl rfl rfl (fun w' hl => (hE w').mono fun _ _ h => ints_o h) (fun q _ => ?_)
      simp only [List.cons_append, List.nil_append]
      repeat (first | refine SXl.nil ?_ | (refine l_assign ?_; (refine SXl.v (OpW.assign rfl) rfl ?_ ?_ ?_); rfl; rfl))
      refine SQ.join q trivial ?_ (fun w hl => hl.drop1)
      (repeat (first | exact subF_nil _ | (refine subF_cons rfl ?_) | (refine subF_consv rfl (by rw [hS]) ?_)))
    · rw [if_neg h1] at hP hS
      repeat (first | refine SX.seq ?_ | refine SXl.nil ?_ | refine SX.region ?_ | refine SQ.thenNormal ?_ | refine SX.skip ?_ | refine SX.condF rfl ?_ | (refine l_move ?_; (refine SXl.v (OpW.move rfl) rfl ?_ ?_ ?_); rfl; rfl) | (refine l_eql ?_; (refine SXl.v (OpW.eqlF rfl rfl (by omega)) rfl ?_ ?_ ?_); rfl; rfl))
      refine SQ.join (some ⟨g2, 0, none⟩, l.length) trivial ?_ (fun w hl => ?_)
      · (repeat (first | exact subF_nil _ | (refine subF_cons rfl ?_) | (refine subF_consv rfl (by rw [hS]) ?_)))
      · rw [hP, ← zeros_own]
        exact hl.toOwn (m := l.length) (sz := 1) id (by simp) (by unfold maxLen; omega)
  rintro ⟨pa, pc⟩ _
  simp only
  refine SX.seq ?_
  repeat (first | refine SX.seq ?_ | refine SXl.nil ?_ | refine SX.region ?_ | refine SQ.thenNormal ?_ | refine SX.block ?_ | (refine l_assign ?_; (refine SXl.v (OpW.assign rfl) rfl ?_ ?_ ?_); rfl; rfl))
  have hgv := fun (u : Nat) (hu : u < au) => givenL_cell C (by omega) (u := u) (by omega)
  have hsv := fun (k : Nat) (hk : k + 1 < l.length) => spaceL_cell C (k := k) (by rw [e1]; exact hk)
  have hAt := fun k => at_bd (c := C) (by rw [e1]; exact hf) (by rw [e2]; exact hsb) (by rw [e3]; exact hg) (by omega) k
  refine SX.loop3 (fun (k : Nat) (_ : Option Addr × Nat) (_ : Unit) => k ≤ l.length) (fun k _ _ => l.length - k) (fun _ _ _ => []) (fun k q _ => [⟨.slice pa l.length pc, 3, 1, l.length, (C.spaceL.map icell).flatten⟩, ⟨.slice ga au gc, 3, 1, au, (C.givenL.map icell).flatten⟩, ⟨.slice q.1 k q.2, 3, 1, k, ((C.placesTo k).map icell).flatten⟩]) (fun _ _ _ => []) (fun k q _ => [(0, .slice a l.length c), (1, .slice b s.length d), (2, .int .i64 gap), (12, .slice q.1 k q.2), (15, .slice ga au gc), (16, .int .i64 (C.at_ k)), (17, .slice pa l.length pc), (18, .int .i64 (C.used k : Nat)), (19, .int .i64 k)]) 0 (some ⟨g, 0, none⟩, 0) () (Nat.zero_le _) ?_ (fun _ hl => hl) ?_
  · (repeat (first | exact subF_nil _ | (refine subF_cons rfl ?_) | (refine subF_consv rfl (by rfl) ?_)))
  rintro k ⟨qa, qc⟩ _ hk
  by_cases hlt : k < l.length
  rotate_left
  · obtain rfl : k = l.length := by omega
    repeat (first | refine SX.seq ?_ | refine SXl.nil ?_ | refine SX.region ?_ | refine SQ.thenNormal ?_ | refine SX.condF rfl ?_ | (refine l_move ?_; (refine SXl.v (OpW.move rfl) rfl ?_ ?_ ?_); rfl; rfl) | (refine l_assign ?_; (refine SXl.v (OpW.assign rfl) rfl ?_ ?_ ?_); rfl; rfl) | (refine l_len ?_; (refine SXl.v (OpW.len rfl) rfl ?_ ?_ ?_); rfl; rfl) | (refine l_lss ?_; (refine SXl.v (OpW.lssF rfl rfl (by omega)) rfl ?_ ?_ ?_); rfl; rfl) | refine SX.ret ?_ | refine SX.exit ?_ | refine SQ.thenExit ?_ | refine SQ.blockExit ?_)
    refine SQ.body2 rfl rfl rfl (fun w' hl => ⟨(qa, qc), (congrArg (fun v => Ending.returned (.tuple #[v, _])) (lineV_n (C.placesTo_len _) _)).symm, trivial, ?_, hl.mod⟩)
    have := hl.dropO.dropO.owns
    show Owns _ w' [lineO (C.placesTo l.length, (qa, qc))]
    rw [lineO_n (C.placesTo_len _)]
    exact this
  simp only
  obtain ⟨b1, o1, x, e11, hR1, hb1, hxk, hc1⟩ := h.get hlt
  subst e11
  obtain ⟨b2, o2, y, e21, hR2, hb2, hyk, hc2⟩ := IntSlice.get h' (k := k) (by omega)
  subst e21
  have hxC : C.l[k]? = some x := by rw [e1]; exact hxk
  have n1 : C.at_ (k + 1) = C.at_ k + C.ahead k + C.behind k + C.gapAt k := rfl
  have n2 : C.place k = C.at_ k + C.ahead k := rfl
  have hu := C.used_next hxC
  have hul := C.used_le (k + 1)
  have hfl := along_flat C k
  have hx := hri x (List.mem_of_getElem? hxk)
  have hy := hsb y (List.mem_of_getElem? hyk.out)
  have hb := hAt k
  unfold Along.behind at n1
  unfold Along.gapAt at n1
  unfold Along.ahead at n1 n2
  rw [C.item_at hxC, C.size_at (by rw [e2]; exact hyk.out), e1, e3] at n1
  rw [C.item_at hxC] at n2
  have b0 := extra_bd C.free C.autos (C.used k)
  have b3 := extra_bd C.free C.autos ((C.used k + 1 : Nat) : Int)
  have b4 := space_bd C k
  change -1048577 ≤ elemAt C.extra (C.used k) ∧ elemAt C.extra (C.used k) ≤ 1048577 at b0
  change -1048577 ≤ elemAt C.extra ((C.used k + 1 : Nat) : Int) ∧ elemAt C.extra ((C.used k + 1 : Nat) : Int) ≤ 1048577 at b3
  obtain ⟨-, -, -, -, -, hx6, hx7⟩ := hx
  have c5 := hc1 5 _ rfl
  have c6 := hc1 6 _ rfl
  have c7 := hc1 7 _ rfl
  have c8 := hc1 8 _ rfl
  obtain ⟨x1, x2, x3, x4, x5, x6, x7, x8, x9⟩ := x
  simp only at *
  by_cases h2 : k + 1 < l.length
  · have hsk := hsv k h2
    rw [if_pos h2] at n1
    cases x8 <;> cases x9 <;> simp only [autoV, Bool.toNat_true, Bool.toNat_false, if_true, Bool.false_eq_true, if_false, Nat.add_zero, Nat.zero_add] at n1 n2 hu
    · refine SX.knowI (fun w' hl' => own_addr (hl'.own _ (.head _)).1 (by omega)) (fun ⟨gs, es⟩ => ?_)
      subst es
      repeat (first | refine SX.seq ?_ | refine SXl.nil ?_ | refine SX.region ?_ | refine SQ.thenNormal ?_ | refine SX.block ?_ | refine SX.skip ?_ | refine SX.condT rfl ?_ | refine SX.condF rfl ?_ | (refine l_load ?_; (refine SXl.v (OpW.loadOld rfl (by assumption) (fun h => h)) rfl ?_ ?_ ?_); rfl; rfl) | (refine l_fieldAddr ?_; (refine SXl.v (OpW.fieldAddr rfl) rfl ?_ ?_ ?_); rfl; rfl) | (refine l_move ?_; (refine SXl.v (OpW.move rfl) rfl ?_ ?_ ?_); rfl; rfl) | (refine l_assign ?_; (refine SXl.v (OpW.assign rfl) rfl ?_ ?_ ?_); rfl; rfl) | (refine l_len ?_; (refine SXl.v (OpW.len rfl) rfl ?_ ?_ ?_); rfl; rfl) | (refine l_add ?_; (refine SXl.v (OpW.addi rfl rfl (by omega) (by omega)) rfl ?_ ?_ ?_); rfl; rfl) | (refine l_lss ?_; (refine SXl.v (OpW.lssT rfl rfl (by omega)) rfl ?_ ?_ ?_); rfl; rfl) | (refine l_indexAddr ?_; (refine SXl.v (OpW.indexAddr (by omega) rfl rfl) rfl ?_ ?_ ?_); rfl; rfl) | (refine l_buildSlice ?_; first | (refine SXl.lit1 ?_ ?_ rfl rfl rfl (fun g => ?_); rfl; rfl) | (refine SXl.lit0 ?_ ?_ (fun _ h => h) rfl (fun g => ?_); rfl; rfl)))
      refine l_append ?_
      refine SXl.append 2 0 rfl rfl rfl rfl rfl rfl rfl rfl (by omega) (by omega) (fun a3 c3 => ?_)
      simp only [List.set_cons_zero, List.set_cons_succ]
      rw [hfl _ (by omega)]
      repeat (first | refine SX.seq ?_ | refine SXl.nil ?_ | refine SQ.thenNormal ?_ | (refine l_assign ?_; (refine SXl.v (OpW.assign rfl) rfl ?_ ?_ ?_); rfl; rfl))
      refine SX.drawnTail 12 (by kernel_rfl) (by kernel_rfl) (by kernel_rfl) ?_
      repeat (first | (refine SXr.tail ?_) | refine SX.seq ?_ | refine SXl.nil ?_ | refine SX.region ?_ | refine SQ.thenNormal ?_ | refine SX.skip ?_ | refine SX.condT rfl ?_ | refine SX.condF rfl ?_ | (refine l_load ?_; (first | refine SXl.v (OpW.loadOwn (xs := (C.spaceL.map icell).flatten) 0 rfl rfl hsk) rfl ?_ ?_ ?_ | refine SXl.v (OpW.loadOld rfl (by assumption) (fun h => h)) rfl ?_ ?_ ?_); rfl; rfl) | (refine l_fieldAddr ?_; (refine SXl.v (OpW.fieldAddr rfl) rfl ?_ ?_ ?_); rfl; rfl) | (refine l_move ?_; (refine SXl.v (OpW.move rfl) rfl ?_ ?_ ?_); rfl; rfl) | (refine l_assign ?_; (refine SXl.v (OpW.assign rfl) rfl ?_ ?_ ?_); rfl; rfl) | (refine l_len ?_; (refine SXl.v (OpW.len rfl) rfl ?_ ?_ ?_); rfl; rfl) | (refine l_add ?_; (first | refine SXl.v (OpW.succ rfl rfl (by omega)) rfl ?_ ?_ ?_ | refine SXl.v (OpW.addi rfl rfl (by omega) (by omega)) rfl ?_ ?_ ?_); rfl; rfl) | (refine l_lss ?_; (refine SXl.v (OpW.lssT rfl rfl (by omega)) rfl ?_ ?_ ?_); rfl; rfl) | (refine l_indexAddr ?_; (first | refine SXl.v (OpW.indexAddr1 (by omega) rfl rfl) rfl ?_ ?_ ?_ | refine SXl.v (OpW.indexAddr (by omega) rfl rfl) rfl ?_ ?_ ?_); rfl; rfl) | (refine r_load ?_; (refine SXr.v (OpW.loadOld rfl (by assumption) (fun h => h)) rfl ?_ ?_ ?_); rfl; rfl) | (refine r_fieldAddr ?_; (refine SXr.v (OpW.fieldAddr rfl) rfl ?_ ?_ ?_); rfl; rfl) | (refine r_move ?_; (refine SXr.v (OpW.move rfl) rfl ?_ ?_ ?_); rfl; rfl) | (refine r_add ?_; (refine SXr.v (OpW.addi rfl rfl (by omega) (by omega)) rfl ?_ ?_ ?_); rfl; rfl) | (refine r_indexAddr ?_; (first | refine SXr.v (OpW.indexAddr1 (by omega) rfl rfl) rfl ?_ ?_ ?_ | refine SXr.v (OpW.indexAddr (by omega) rfl rfl) rfl ?_ ?_ ?_); rfl; rfl) | refine SQ.blockNormal ?_)
      refine SQ.round3 (k + 1) (a3, c3) () (by omega) (by omega) ?_ (fun w hl => hl.drop1)
      (repeat (first | exact subF_nil _ | (refine subF_cons rfl ?_) | (refine subF_consv rfl (by congr 1; omega) ?_)))
    · have hua : C.used k < au := by omega
      refine SX.knowI (fun w' hl' => own_addr (hl'.own _ (.tail _ (.head _))).1 (by omega)) (fun ⟨gg, eg⟩ => ?_)
      subst eg
      refine SX.knowI (fun w' hl' => own_addr (hl'.own _ (.head _)).1 (by omega)) (fun ⟨gs, es⟩ => ?_)
      subst es
      repeat (first | refine SX.seq ?_ | refine SXl.nil ?_ | refine SX.region ?_ | refine SQ.thenNormal ?_ | refine SX.block ?_ | refine SX.skip ?_ | refine SX.condT rfl ?_ | refine SX.condF rfl ?_ | (refine l_load ?_; (refine SXl.v (OpW.loadOld rfl (by assumption) (fun h => h)) rfl ?_ ?_ ?_); rfl; rfl) | (refine l_fieldAddr ?_; (refine SXl.v (OpW.fieldAddr rfl) rfl ?_ ?_ ?_); rfl; rfl) | (refine l_move ?_; (refine SXl.v (OpW.move rfl) rfl ?_ ?_ ?_); rfl; rfl) | (refine l_assign ?_; (refine SXl.v (OpW.assign rfl) rfl ?_ ?_ ?_); rfl; rfl) | (refine l_len ?_; (refine SXl.v (OpW.len rfl) rfl ?_ ?_ ?_); rfl; rfl) | (refine l_add ?_; (refine SXl.v (OpW.addi rfl rfl (by omega) (by omega)) rfl ?_ ?_ ?_); rfl; rfl) | (refine l_lss ?_; (refine SXl.v (OpW.lssT rfl rfl (by omega)) rfl ?_ ?_ ?_); rfl; rfl) | (refine l_indexAddr ?_; (refine SXl.v (OpW.indexAddr (by omega) rfl rfl) rfl ?_ ?_ ?_); rfl; rfl) | (refine l_buildSlice ?_; first | (refine SXl.lit1 ?_ ?_ rfl rfl rfl (fun g => ?_); rfl; rfl) | (refine SXl.lit0 ?_ ?_ (fun _ h => h) rfl (fun g => ?_); rfl; rfl)))
      refine l_append ?_
      refine SXl.append 2 0 rfl rfl rfl rfl rfl rfl rfl rfl (by omega) (by omega) (fun a3 c3 => ?_)
      simp only [List.set_cons_zero, List.set_cons_succ]
      rw [hfl _ (by omega)]
      repeat (first | refine SX.seq ?_ | refine SXl.nil ?_ | refine SQ.thenNormal ?_ | (refine l_assign ?_; (refine SXl.v (OpW.assign rfl) rfl ?_ ?_ ?_); rfl; rfl))
      refine SX.drawnTail 12 (by kernel_rfl) (by kernel_rfl) (by kernel_rfl) ?_
      repeat (first | (refine SXr.tail ?_) | refine SX.seq ?_ | refine SXl.nil ?_ | refine SX.region ?_ | refine SQ.thenNormal ?_ | refine SX.condT rfl ?_ | (refine l_load ?_; (first | refine SXl.v (OpW.loadOwn (xs := (C.givenL.map icell).flatten) 1 rfl rfl (hgv _ hua)) rfl ?_ ?_ ?_ | refine SXl.v (OpW.loadOwn (xs := (C.spaceL.map icell).flatten) 0 rfl rfl hsk) rfl ?_ ?_ ?_ | refine SXl.v (OpW.loadOld rfl (by assumption) (fun h => h)) rfl ?_ ?_ ?_); rfl; rfl) | (refine l_fieldAddr ?_; (refine SXl.v (OpW.fieldAddr rfl) rfl ?_ ?_ ?_); rfl; rfl) | (refine l_move ?_; (refine SXl.v (OpW.move rfl) rfl ?_ ?_ ?_); rfl; rfl) | (refine l_assign ?_; (refine SXl.v (OpW.assign rfl) rfl ?_ ?_ ?_); rfl; rfl) | (refine l_len ?_; (refine SXl.v (OpW.len rfl) rfl ?_ ?_ ?_); rfl; rfl) | (refine l_add ?_; (first | refine SXl.v (OpW.succ rfl rfl (by omega)) rfl ?_ ?_ ?_ | refine SXl.v (OpW.addi rfl rfl (by omega) (by omega)) rfl ?_ ?_ ?_); rfl; rfl) | (refine l_lss ?_; (refine SXl.v (OpW.lssT rfl rfl (by omega)) rfl ?_ ?_ ?_); rfl; rfl) | (refine l_indexAddr ?_; (first | refine SXl.v (OpW.indexAddr1 (by omega) rfl rfl) rfl ?_ ?_ ?_ | refine SXl.v (OpW.indexAddr (by omega) rfl rfl) rfl ?_ ?_ ?_); rfl; rfl) | (refine r_load ?_; (refine SXr.v (OpW.loadOld rfl (by assumption) (fun h => h)) rfl ?_ ?_ ?_); rfl; rfl) | (refine r_fieldAddr ?_; (refine SXr.v (OpW.fieldAddr rfl) rfl ?_ ?_ ?_); rfl; rfl) | (refine r_move ?_; (refine SXr.v (OpW.move rfl) rfl ?_ ?_ ?_); rfl; rfl) | (refine r_add ?_; (refine SXr.v (OpW.addi rfl rfl (by omega) (by omega)) rfl ?_ ?_ ?_); rfl; rfl) | (refine r_indexAddr ?_; (first | refine SXr.v (OpW.indexAddr1 (by omega) rfl rfl) rfl ?_ ?_ ?_ | refine SXr.v (OpW.indexAddr (by omega) rfl rfl) rfl ?_ ?_ ?_); rfl; rfl) | refine SQ.blockNormal ?_)
      refine SQ.round3 (k + 1) (a3, c3) () (by omega) (by omega) ?_ (fun w hl => hl.drop1)
      (repeat (first | exact subF_nil _ | (refine subF_cons rfl ?_) | (refine subF_consv rfl (by congr 1; omega) ?_)))
    · have hua : C.used k < au := by omega
      refine SX.knowI (fun w' hl' => own_addr (hl'.own _ (.tail _ (.head _))).1 (by omega)) (fun ⟨gg, eg⟩ => ?_)
      subst eg
      refine SX.knowI (fun w' hl' => own_addr (hl'.own _ (.head _)).1 (by omega)) (fun ⟨gs, es⟩ => ?_)
      subst es
      repeat (first | refine SX.seq ?_ | refine SXl.nil ?_ | refine SX.region ?_ | refine SQ.thenNormal ?_ | refine SX.block ?_ | refine SX.skip ?_ | refine SX.condT rfl ?_ | (refine l_load ?_; (first | refine SXl.v (OpW.loadOwn (xs := (C.givenL.map icell).flatten) 1 rfl rfl (hgv _ hua)) rfl ?_ ?_ ?_ | refine SXl.v (OpW.loadOld rfl (by assumption) (fun h => h)) rfl ?_ ?_ ?_); rfl; rfl) | (refine l_fieldAddr ?_; (refine SXl.v (OpW.fieldAddr rfl) rfl ?_ ?_ ?_); rfl; rfl) | (refine l_move ?_; (refine SXl.v (OpW.move rfl) rfl ?_ ?_ ?_); rfl; rfl) | (refine l_assign ?_; (refine SXl.v (OpW.assign rfl) rfl ?_ ?_ ?_); rfl; rfl) | (refine l_len ?_; (refine SXl.v (OpW.len rfl) rfl ?_ ?_ ?_); rfl; rfl) | (refine l_add ?_; (first | refine SXl.v (OpW.succ rfl rfl (by omega)) rfl ?_ ?_ ?_ | refine SXl.v (OpW.addi rfl rfl (by omega) (by omega)) rfl ?_ ?_ ?_); rfl; rfl) | (refine l_lss ?_; (refine SXl.v (OpW.lssT rfl rfl (by omega)) rfl ?_ ?_ ?_); rfl; rfl) | (refine l_indexAddr ?_; (first | refine SXl.v (OpW.indexAddr1 (by omega) rfl rfl) rfl ?_ ?_ ?_ | refine SXl.v (OpW.indexAddr (by omega) rfl rfl) rfl ?_ ?_ ?_); rfl; rfl) | (refine l_buildSlice ?_; first | (refine SXl.lit1 ?_ ?_ rfl rfl rfl (fun g => ?_); rfl; rfl) | (refine SXl.lit0 ?_ ?_ (fun _ h => h) rfl (fun g => ?_); rfl; rfl)))
      refine l_append ?_
      refine SXl.append 2 0 rfl rfl rfl rfl rfl rfl rfl rfl (by omega) (by omega) (fun a3 c3 => ?_)
      simp only [List.set_cons_zero, List.set_cons_succ]
      rw [hfl _ (by omega)]
      repeat (first | refine SX.seq ?_ | refine SXl.nil ?_ | refine SQ.thenNormal ?_ | (refine l_assign ?_; (refine SXl.v (OpW.assign rfl) rfl ?_ ?_ ?_); rfl; rfl))
      refine SX.drawnTail 12 (by kernel_rfl) (by kernel_rfl) (by kernel_rfl) ?_
      repeat (first | (refine SXr.tail ?_) | refine SX.seq ?_ | refine SXl.nil ?_ | refine SX.region ?_ | refine SQ.thenNormal ?_ | refine SX.skip ?_ | refine SX.condT rfl ?_ | refine SX.condF rfl ?_ | (refine l_load ?_; (first | refine SXl.v (OpW.loadOwn (xs := (C.spaceL.map icell).flatten) 0 rfl rfl hsk) rfl ?_ ?_ ?_ | refine SXl.v (OpW.loadOld rfl (by assumption) (fun h => h)) rfl ?_ ?_ ?_); rfl; rfl) | (refine l_fieldAddr ?_; (refine SXl.v (OpW.fieldAddr rfl) rfl ?_ ?_ ?_); rfl; rfl) | (refine l_move ?_; (refine SXl.v (OpW.move rfl) rfl ?_ ?_ ?_); rfl; rfl) | (refine l_assign ?_; (refine SXl.v (OpW.assign rfl) rfl ?_ ?_ ?_); rfl; rfl) | (refine l_len ?_; (refine SXl.v (OpW.len rfl) rfl ?_ ?_ ?_); rfl; rfl) | (refine l_add ?_; (first | refine SXl.v (OpW.succ rfl rfl (by omega)) rfl ?_ ?_ ?_ | refine SXl.v (OpW.addi rfl rfl (by omega) (by omega)) rfl ?_ ?_ ?_); rfl; rfl) | (refine l_lss ?_; (refine SXl.v (OpW.lssT rfl rfl (by omega)) rfl ?_ ?_ ?_); rfl; rfl) | (refine l_indexAddr ?_; (first | refine SXl.v (OpW.indexAddr1 (by omega) rfl rfl) rfl ?_ ?_ ?_ | refine SXl.v (OpW.indexAddr (by omega) rfl rfl) rfl ?_ ?_ ?_); rfl; rfl) | (refine r_load ?_; (refine SXr.v (OpW.loadOld rfl (by assumption) (fun h => h)) rfl ?_ ?_ ?_); rfl; rfl) | (refine r_fieldAddr ?_; (refine SXr.v (OpW.fieldAddr rfl) rfl ?_ ?_ ?_); rfl; rfl) | (refine r_move ?_; (refine SXr.v (OpW.move rfl) rfl ?_ ?_ ?_); rfl; rfl) | (refine r_add ?_; (refine SXr.v (OpW.addi rfl rfl (by omega) (by omega)) rfl ?_ ?_ ?_); rfl; rfl) | (refine r_indexAddr ?_; (first | refine SXr.v (OpW.indexAddr1 (by omega) rfl rfl) rfl ?_ ?_ ?_ | refine SXr.v (OpW.indexAddr (by omega) rfl rfl) rfl ?_ ?_ ?_); rfl; rfl) | refine SQ.blockNormal ?_)
      refine SQ.round3 (k + 1) (a3, c3) () (by omega) (by omega) ?_ (fun w hl => hl.drop1)
      (repeat (first | exact subF_nil _ | (refine subF_cons rfl ?_) | (refine subF_consv rfl (by congr 1; omega) ?_)))
    · have hua : C.used k < au := by omega
      refine SX.knowI (fun w' hl' => own_addr (hl'.own _ (.tail _ (.head _))).1 (by omega)) (fun ⟨gg, eg⟩ => ?_)
      subst eg
      have hub : C.used k + 1 < au := by omega
      refine SX.knowI (fun w' hl' => own_addr (hl'.own _ (.head _)).1 (by omega)) (fun ⟨gs, es⟩ => ?_)
      subst es
      repeat (first | refine SX.seq ?_ | refine SXl.nil ?_ | refine SX.region ?_ | refine SQ.thenNormal ?_ | refine SX.block ?_ | refine SX.skip ?_ | refine SX.condT rfl ?_ | (refine l_load ?_; (first | refine SXl.v (OpW.loadOwn (xs := (C.givenL.map icell).flatten) 1 rfl rfl (hgv _ hua)) rfl ?_ ?_ ?_ | refine SXl.v (OpW.loadOld rfl (by assumption) (fun h => h)) rfl ?_ ?_ ?_); rfl; rfl) | (refine l_fieldAddr ?_; (refine SXl.v (OpW.fieldAddr rfl) rfl ?_ ?_ ?_); rfl; rfl) | (refine l_move ?_; (refine SXl.v (OpW.move rfl) rfl ?_ ?_ ?_); rfl; rfl) | (refine l_assign ?_; (refine SXl.v (OpW.assign rfl) rfl ?_ ?_ ?_); rfl; rfl) | (refine l_len ?_; (refine SXl.v (OpW.len rfl) rfl ?_ ?_ ?_); rfl; rfl) | (refine l_add ?_; (first | refine SXl.v (OpW.succ rfl rfl (by omega)) rfl ?_ ?_ ?_ | refine SXl.v (OpW.addi rfl rfl (by omega) (by omega)) rfl ?_ ?_ ?_); rfl; rfl) | (refine l_lss ?_; (refine SXl.v (OpW.lssT rfl rfl (by omega)) rfl ?_ ?_ ?_); rfl; rfl) | (refine l_indexAddr ?_; (first | refine SXl.v (OpW.indexAddr1 (by omega) rfl rfl) rfl ?_ ?_ ?_ | refine SXl.v (OpW.indexAddr (by omega) rfl rfl) rfl ?_ ?_ ?_); rfl; rfl) | (refine l_buildSlice ?_; first | (refine SXl.lit1 ?_ ?_ rfl rfl rfl (fun g => ?_); rfl; rfl) | (refine SXl.lit0 ?_ ?_ (fun _ h => h) rfl (fun g => ?_); rfl; rfl)))
      refine l_append ?_
      refine SXl.append 2 0 rfl rfl rfl rfl rfl rfl rfl rfl (by omega) (by omega) (fun a3 c3 => ?_)
      simp only [List.set_cons_zero, List.set_cons_succ]
      rw [hfl _ (by omega)]
      repeat (first | refine SX.seq ?_ | refine SXl.nil ?_ | refine SQ.thenNormal ?_ | (refine l_assign ?_; (refine SXl.v (OpW.assign rfl) rfl ?_ ?_ ?_); rfl; rfl))
      refine SX.drawnTail 12 (by kernel_rfl) (by kernel_rfl) (by kernel_rfl) ?_
      repeat (first | (refine SXr.tail ?_) | refine SX.seq ?_ | refine SXl.nil ?_ | refine SX.region ?_ | refine SQ.thenNormal ?_ | refine SX.condT rfl ?_ | (refine l_load ?_; (first | refine SXl.v (OpW.loadOwn (xs := (C.givenL.map icell).flatten) 1 rfl rfl (hgv _ hub)) rfl ?_ ?_ ?_ | refine SXl.v (OpW.loadOwn (xs := (C.spaceL.map icell).flatten) 0 rfl rfl hsk) rfl ?_ ?_ ?_ | refine SXl.v (OpW.loadOld rfl (by assumption) (fun h => h)) rfl ?_ ?_ ?_); rfl; rfl) | (refine l_indexAddr ?_; (first | refine SXl.v ((OpW.indexAddr1 (i := C.used k + 1) (by omega) rfl (congrArg (fun i : Int => some (Value.int .i64 i)) (by omega : ((C.used k : Nat) : Int) + 1 = ((C.used k + 1 : Nat) : Int))))) rfl ?_ ?_ ?_ | refine SXl.v (OpW.indexAddr1 (by omega) rfl rfl) rfl ?_ ?_ ?_ | refine SXl.v (OpW.indexAddr (by omega) rfl rfl) rfl ?_ ?_ ?_); rfl; rfl) | (refine l_fieldAddr ?_; (refine SXl.v (OpW.fieldAddr rfl) rfl ?_ ?_ ?_); rfl; rfl) | (refine l_move ?_; (refine SXl.v (OpW.move rfl) rfl ?_ ?_ ?_); rfl; rfl) | (refine l_assign ?_; (refine SXl.v (OpW.assign rfl) rfl ?_ ?_ ?_); rfl; rfl) | (refine l_len ?_; (refine SXl.v (OpW.len rfl) rfl ?_ ?_ ?_); rfl; rfl) | (refine l_add ?_; (first | refine SXl.v (OpW.succ rfl rfl (by omega)) rfl ?_ ?_ ?_ | refine SXl.v (OpW.addi rfl rfl (by omega) (by omega)) rfl ?_ ?_ ?_); rfl; rfl) | (refine l_lss ?_; (refine SXl.v (OpW.lssT rfl rfl (by omega)) rfl ?_ ?_ ?_); rfl; rfl) | (refine r_load ?_; (refine SXr.v (OpW.loadOld rfl (by assumption) (fun h => h)) rfl ?_ ?_ ?_); rfl; rfl) | (refine r_indexAddr ?_; (first | refine SXr.v (OpW.indexAddr1 (by omega) rfl rfl) rfl ?_ ?_ ?_ | refine SXr.v (OpW.indexAddr (by omega) rfl rfl) rfl ?_ ?_ ?_); rfl; rfl) | (refine r_fieldAddr ?_; (refine SXr.v (OpW.fieldAddr rfl) rfl ?_ ?_ ?_); rfl; rfl) | (refine r_move ?_; (refine SXr.v (OpW.move rfl) rfl ?_ ?_ ?_); rfl; rfl) | (refine r_add ?_; (refine SXr.v (OpW.addi rfl rfl (by omega) (by omega)) rfl ?_ ?_ ?_); rfl; rfl) | refine SQ.blockNormal ?_)
      refine SQ.round3 (k + 1) (a3, c3) () (by omega) (by omega) ?_ (fun w hl => hl.drop1)
      (repeat (first | exact subF_nil _ | (refine subF_cons rfl ?_) | (refine subF_consv rfl (by congr 1; omega) ?_)))
  · rw [if_neg h2] at n1
    cases x8 <;> cases x9 <;> simp only [autoV, Bool.toNat_true, Bool.toNat_false, if_true, Bool.false_eq_true, if_false, Nat.add_zero, Nat.zero_add] at n1 n2 hu
    · repeat (first | refine SX.seq ?_ | refine SXl.nil ?_ | refine SX.region ?_ | refine SQ.thenNormal ?_ | refine SX.block ?_ | refine SX.skip ?_ | refine SX.condT rfl ?_ | refine SX.condF rfl ?_ | (refine l_load ?_; (refine SXl.v (OpW.loadOld rfl (by assumption) (fun h => h)) rfl ?_ ?_ ?_); rfl; rfl) | (refine l_fieldAddr ?_; (refine SXl.v (OpW.fieldAddr rfl) rfl ?_ ?_ ?_); rfl; rfl) | (refine l_move ?_; (refine SXl.v (OpW.move rfl) rfl ?_ ?_ ?_); rfl; rfl) | (refine l_assign ?_; (refine SXl.v (OpW.assign rfl) rfl ?_ ?_ ?_); rfl; rfl) | (refine l_len ?_; (refine SXl.v (OpW.len rfl) rfl ?_ ?_ ?_); rfl; rfl) | (refine l_add ?_; (refine SXl.v (OpW.addi rfl rfl (by omega) (by omega)) rfl ?_ ?_ ?_); rfl; rfl) | (refine l_lss ?_; (refine SXl.v (OpW.lssT rfl rfl (by omega)) rfl ?_ ?_ ?_); rfl; rfl) | (refine l_indexAddr ?_; (refine SXl.v (OpW.indexAddr (by omega) rfl rfl) rfl ?_ ?_ ?_); rfl; rfl) | (refine l_buildSlice ?_; first | (refine SXl.lit1 ?_ ?_ rfl rfl rfl (fun g => ?_); rfl; rfl) | (refine SXl.lit0 ?_ ?_ (fun _ h => h) rfl (fun g => ?_); rfl; rfl)))
      refine l_append ?_
      refine SXl.append 2 0 rfl rfl rfl rfl rfl rfl rfl rfl (by omega) (by omega) (fun a3 c3 => ?_)
      simp only [List.set_cons_zero, List.set_cons_succ]
      rw [hfl _ (by omega)]
      repeat (first | refine SX.seq ?_ | refine SXl.nil ?_ | refine SQ.thenNormal ?_ | (refine l_assign ?_; (refine SXl.v (OpW.assign rfl) rfl ?_ ?_ ?_); rfl; rfl))
      refine SX.drawnTail 12 (by kernel_rfl) (by kernel_rfl) (by kernel_rfl) ?_
      repeat (first | (refine SXr.tail ?_) | refine SX.seq ?_ | refine SXl.nil ?_ | refine SX.region ?_ | refine SQ.thenNormal ?_ | refine SX.skip ?_ | refine SX.condF rfl ?_ | (refine l_load ?_; (refine SXl.v (OpW.loadOld rfl (by assumption) (fun h => h)) rfl ?_ ?_ ?_); rfl; rfl) | (refine l_fieldAddr ?_; (refine SXl.v (OpW.fieldAddr rfl) rfl ?_ ?_ ?_); rfl; rfl) | (refine l_move ?_; (refine SXl.v (OpW.move rfl) rfl ?_ ?_ ?_); rfl; rfl) | (refine l_assign ?_; (refine SXl.v (OpW.assign rfl) rfl ?_ ?_ ?_); rfl; rfl) | (refine l_len ?_; (refine SXl.v (OpW.len rfl) rfl ?_ ?_ ?_); rfl; rfl) | (refine l_add ?_; (refine SXl.v (OpW.succ rfl rfl (by omega)) rfl ?_ ?_ ?_); rfl; rfl) | (refine l_lss ?_; (refine SXl.v (OpW.lssF rfl rfl (by omega)) rfl ?_ ?_ ?_); rfl; rfl) | (refine l_indexAddr ?_; (refine SXl.v (OpW.indexAddr (by omega) rfl rfl) rfl ?_ ?_ ?_); rfl; rfl) | (refine r_load ?_; (refine SXr.v (OpW.loadOld rfl (by assumption) (fun h => h)) rfl ?_ ?_ ?_); rfl; rfl) | (refine r_fieldAddr ?_; (refine SXr.v (OpW.fieldAddr rfl) rfl ?_ ?_ ?_); rfl; rfl) | (refine r_move ?_; (refine SXr.v (OpW.move rfl) rfl ?_ ?_ ?_); rfl; rfl) | (refine r_add ?_; (refine SXr.v (OpW.addi rfl rfl (by omega) (by omega)) rfl ?_ ?_ ?_); rfl; rfl) | (refine r_indexAddr ?_; (first | refine SXr.v (OpW.indexAddr1 (by omega) rfl rfl) rfl ?_ ?_ ?_ | refine SXr.v (OpW.indexAddr (by omega) rfl rfl) rfl ?_ ?_ ?_); rfl; rfl) | refine SQ.blockNormal ?_)
      refine SQ.round3 (k + 1) (a3, c3) () (by omega) (by omega) ?_ (fun w hl => hl.drop1)
      (repeat (first | exact subF_nil _ | (refine subF_cons rfl ?_) | (refine subF_consv rfl (by congr 1; omega) ?_)))
    · have hua : C.used k < au := by omega
      refine SX.knowI (fun w' hl' => own_addr (hl'.own _ (.tail _ (.head _))).1 (by omega)) (fun ⟨gg, eg⟩ => ?_)
      subst eg
      repeat (first | refine SX.seq ?_ | refine SXl.nil ?_ | refine SX.region ?_ | refine SQ.thenNormal ?_ | refine SX.block ?_ | refine SX.skip ?_ | refine SX.condT rfl ?_ | refine SX.condF rfl ?_ | (refine l_load ?_; (refine SXl.v (OpW.loadOld rfl (by assumption) (fun h => h)) rfl ?_ ?_ ?_); rfl; rfl) | (refine l_fieldAddr ?_; (refine SXl.v (OpW.fieldAddr rfl) rfl ?_ ?_ ?_); rfl; rfl) | (refine l_move ?_; (refine SXl.v (OpW.move rfl) rfl ?_ ?_ ?_); rfl; rfl) | (refine l_assign ?_; (refine SXl.v (OpW.assign rfl) rfl ?_ ?_ ?_); rfl; rfl) | (refine l_len ?_; (refine SXl.v (OpW.len rfl) rfl ?_ ?_ ?_); rfl; rfl) | (refine l_add ?_; (refine SXl.v (OpW.addi rfl rfl (by omega) (by omega)) rfl ?_ ?_ ?_); rfl; rfl) | (refine l_lss ?_; (refine SXl.v (OpW.lssT rfl rfl (by omega)) rfl ?_ ?_ ?_); rfl; rfl) | (refine l_indexAddr ?_; (refine SXl.v (OpW.indexAddr (by omega) rfl rfl) rfl ?_ ?_ ?_); rfl; rfl) | (refine l_buildSlice ?_; first | (refine SXl.lit1 ?_ ?_ rfl rfl rfl (fun g => ?_); rfl; rfl) | (refine SXl.lit0 ?_ ?_ (fun _ h => h) rfl (fun g => ?_); rfl; rfl)))
      refine l_append ?_
      refine SXl.append 2 0 rfl rfl rfl rfl rfl rfl rfl rfl (by omega) (by omega) (fun a3 c3 => ?_)
      simp only [List.set_cons_zero, List.set_cons_succ]
      rw [hfl _ (by omega)]
      repeat (first | refine SX.seq ?_ | refine SXl.nil ?_ | refine SQ.thenNormal ?_ | (refine l_assign ?_; (refine SXl.v (OpW.assign rfl) rfl ?_ ?_ ?_); rfl; rfl))
      refine SX.drawnTail 12 (by kernel_rfl) (by kernel_rfl) (by kernel_rfl) ?_
      repeat (first | (refine SXr.tail ?_) | refine SX.seq ?_ | refine SXl.nil ?_ | refine SX.region ?_ | refine SQ.thenNormal ?_ | refine SX.skip ?_ | refine SX.condT rfl ?_ | refine SX.condF rfl ?_ | (refine l_load ?_; (first | refine SXl.v (OpW.loadOwn (xs := (C.givenL.map icell).flatten) 1 rfl rfl (hgv _ hua)) rfl ?_ ?_ ?_ | refine SXl.v (OpW.loadOld rfl (by assumption) (fun h => h)) rfl ?_ ?_ ?_); rfl; rfl) | (refine l_fieldAddr ?_; (refine SXl.v (OpW.fieldAddr rfl) rfl ?_ ?_ ?_); rfl; rfl) | (refine l_move ?_; (refine SXl.v (OpW.move rfl) rfl ?_ ?_ ?_); rfl; rfl) | (refine l_assign ?_; (refine SXl.v (OpW.assign rfl) rfl ?_ ?_ ?_); rfl; rfl) | (refine l_len ?_; (refine SXl.v (OpW.len rfl) rfl ?_ ?_ ?_); rfl; rfl) | (refine l_add ?_; (first | refine SXl.v (OpW.succ rfl rfl (by omega)) rfl ?_ ?_ ?_ | refine SXl.v (OpW.addi rfl rfl (by omega) (by omega)) rfl ?_ ?_ ?_); rfl; rfl) | (refine l_lss ?_; (refine SXl.v (OpW.lssF rfl rfl (by omega)) rfl ?_ ?_ ?_); rfl; rfl) | (refine l_indexAddr ?_; (first | refine SXl.v (OpW.indexAddr1 (by omega) rfl rfl) rfl ?_ ?_ ?_ | refine SXl.v (OpW.indexAddr (by omega) rfl rfl) rfl ?_ ?_ ?_); rfl; rfl) | (refine r_load ?_; (refine SXr.v (OpW.loadOld rfl (by assumption) (fun h => h)) rfl ?_ ?_ ?_); rfl; rfl) | (refine r_fieldAddr ?_; (refine SXr.v (OpW.fieldAddr rfl) rfl ?_ ?_ ?_); rfl; rfl) | (refine r_move ?_; (refine SXr.v (OpW.move rfl) rfl ?_ ?_ ?_); rfl; rfl) | (refine r_add ?_; (refine SXr.v (OpW.addi rfl rfl (by omega) (by omega)) rfl ?_ ?_ ?_); rfl; rfl) | (refine r_indexAddr ?_; (first | refine SXr.v (OpW.indexAddr1 (by omega) rfl rfl) rfl ?_ ?_ ?_ | refine SXr.v (OpW.indexAddr (by omega) rfl rfl) rfl ?_ ?_ ?_); rfl; rfl) | refine SQ.blockNormal ?_)
      refine SQ.round3 (k + 1) (a3, c3) () (by omega) (by omega) ?_ (fun w hl => hl.drop1)
      (repeat (first | exact subF_nil _ | (refine subF_cons rfl ?_) | (refine subF_consv rfl (by congr 1; omega) ?_)))
    · have hua : C.used k < au := by omega
      refine SX.knowI (fun w' hl' => own_addr (hl'.own _ (.tail _ (.head _))).1 (by omega)) (fun ⟨gg, eg⟩ => ?_)
      subst eg
      repeat (first | refine SX.seq ?_ | refine SXl.nil ?_ | refine SX.region ?_ | refine SQ.thenNormal ?_ | refine SX.block ?_ | refine SX.skip ?_ | refine SX.condT rfl ?_ | (refine l_load ?_; (first | refine SXl.v (OpW.loadOwn (xs := (C.givenL.map icell).flatten) 1 rfl rfl (hgv _ hua)) rfl ?_ ?_ ?_ | refine SXl.v (OpW.loadOld rfl (by assumption) (fun h => h)) rfl ?_ ?_ ?_); rfl; rfl) | (refine l_fieldAddr ?_; (refine SXl.v (OpW.fieldAddr rfl) rfl ?_ ?_ ?_); rfl; rfl) | (refine l_move ?_; (refine SXl.v (OpW.move rfl) rfl ?_ ?_ ?_); rfl; rfl) | (refine l_assign ?_; (refine SXl.v (OpW.assign rfl) rfl ?_ ?_ ?_); rfl; rfl) | (refine l_len ?_; (refine SXl.v (OpW.len rfl) rfl ?_ ?_ ?_); rfl; rfl) | (refine l_add ?_; (first | refine SXl.v (OpW.succ rfl rfl (by omega)) rfl ?_ ?_ ?_ | refine SXl.v (OpW.addi rfl rfl (by omega) (by omega)) rfl ?_ ?_ ?_); rfl; rfl) | (refine l_lss ?_; (refine SXl.v (OpW.lssT rfl rfl (by omega)) rfl ?_ ?_ ?_); rfl; rfl) | (refine l_indexAddr ?_; (first | refine SXl.v (OpW.indexAddr1 (by omega) rfl rfl) rfl ?_ ?_ ?_ | refine SXl.v (OpW.indexAddr (by omega) rfl rfl) rfl ?_ ?_ ?_); rfl; rfl) | (refine l_buildSlice ?_; first | (refine SXl.lit1 ?_ ?_ rfl rfl rfl (fun g => ?_); rfl; rfl) | (refine SXl.lit0 ?_ ?_ (fun _ h => h) rfl (fun g => ?_); rfl; rfl)))
      refine l_append ?_
      refine SXl.append 2 0 rfl rfl rfl rfl rfl rfl rfl rfl (by omega) (by omega) (fun a3 c3 => ?_)
      simp only [List.set_cons_zero, List.set_cons_succ]
      rw [hfl _ (by omega)]
      repeat (first | refine SX.seq ?_ | refine SXl.nil ?_ | refine SQ.thenNormal ?_ | (refine l_assign ?_; (refine SXl.v (OpW.assign rfl) rfl ?_ ?_ ?_); rfl; rfl))
      refine SX.drawnTail 12 (by kernel_rfl) (by kernel_rfl) (by kernel_rfl) ?_
      repeat (first | (refine SXr.tail ?_) | refine SX.seq ?_ | refine SXl.nil ?_ | refine SX.region ?_ | refine SQ.thenNormal ?_ | refine SX.skip ?_ | refine SX.condF rfl ?_ | (refine l_load ?_; (refine SXl.v (OpW.loadOld rfl (by assumption) (fun h => h)) rfl ?_ ?_ ?_); rfl; rfl) | (refine l_fieldAddr ?_; (refine SXl.v (OpW.fieldAddr rfl) rfl ?_ ?_ ?_); rfl; rfl) | (refine l_move ?_; (refine SXl.v (OpW.move rfl) rfl ?_ ?_ ?_); rfl; rfl) | (refine l_assign ?_; (refine SXl.v (OpW.assign rfl) rfl ?_ ?_ ?_); rfl; rfl) | (refine l_len ?_; (refine SXl.v (OpW.len rfl) rfl ?_ ?_ ?_); rfl; rfl) | (refine l_add ?_; (refine SXl.v (OpW.succ rfl rfl (by omega)) rfl ?_ ?_ ?_); rfl; rfl) | (refine l_lss ?_; (refine SXl.v (OpW.lssF rfl rfl (by omega)) rfl ?_ ?_ ?_); rfl; rfl) | (refine l_indexAddr ?_; (refine SXl.v (OpW.indexAddr (by omega) rfl rfl) rfl ?_ ?_ ?_); rfl; rfl) | (refine r_load ?_; (refine SXr.v (OpW.loadOld rfl (by assumption) (fun h => h)) rfl ?_ ?_ ?_); rfl; rfl) | (refine r_fieldAddr ?_; (refine SXr.v (OpW.fieldAddr rfl) rfl ?_ ?_ ?_); rfl; rfl) | (refine r_move ?_; (refine SXr.v (OpW.move rfl) rfl ?_ ?_ ?_); rfl; rfl) | (refine r_add ?_; (refine SXr.v (OpW.addi rfl rfl (by omega) (by omega)) rfl ?_ ?_ ?_); rfl; rfl) | (refine r_indexAddr ?_; (first | refine SXr.v (OpW.indexAddr1 (by omega) rfl rfl) rfl ?_ ?_ ?_ | refine SXr.v (OpW.indexAddr (by omega) rfl rfl) rfl ?_ ?_ ?_); rfl; rfl) | refine SQ.blockNormal ?_)
      refine SQ.round3 (k + 1) (a3, c3) () (by omega) (by omega) ?_ (fun w hl => hl.drop1)
      (repeat (first | exact subF_nil _ | (refine subF_cons rfl ?_) | (refine subF_consv rfl (by congr 1; omega) ?_)))
    · have hua : C.used k < au := by omega
      refine SX.knowI (fun w' hl' => own_addr (hl'.own _ (.tail _ (.head _))).1 (by omega)) (fun ⟨gg, eg⟩ => ?_)
      subst eg
      have hub : C.used k + 1 < au := by omega
      repeat (first | refine SX.seq ?_ | refine SXl.nil ?_ | refine SX.region ?_ | refine SQ.thenNormal ?_ | refine SX.block ?_ | refine SX.skip ?_ | refine SX.condT rfl ?_ | (refine l_load ?_; (first | refine SXl.v (OpW.loadOwn (xs := (C.givenL.map icell).flatten) 1 rfl rfl (hgv _ hua)) rfl ?_ ?_ ?_ | refine SXl.v (OpW.loadOld rfl (by assumption) (fun h => h)) rfl ?_ ?_ ?_); rfl; rfl) | (refine l_fieldAddr ?_; (refine SXl.v (OpW.fieldAddr rfl) rfl ?_ ?_ ?_); rfl; rfl) | (refine l_move ?_; (refine SXl.v (OpW.move rfl) rfl ?_ ?_ ?_); rfl; rfl) | (refine l_assign ?_; (refine SXl.v (OpW.assign rfl) rfl ?_ ?_ ?_); rfl; rfl) | (refine l_len ?_; (refine SXl.v (OpW.len rfl) rfl ?_ ?_ ?_); rfl; rfl) | (refine l_add ?_; (first | refine SXl.v (OpW.succ rfl rfl (by omega)) rfl ?_ ?_ ?_ | refine SXl.v (OpW.addi rfl rfl (by omega) (by omega)) rfl ?_ ?_ ?_); rfl; rfl) | (refine l_lss ?_; (refine SXl.v (OpW.lssT rfl rfl (by omega)) rfl ?_ ?_ ?_); rfl; rfl) | (refine l_indexAddr ?_; (first | refine SXl.v (OpW.indexAddr1 (by omega) rfl rfl) rfl ?_ ?_ ?_ | refine SXl.v (OpW.indexAddr (by omega) rfl rfl) rfl ?_ ?_ ?_); rfl; rfl) | (refine l_buildSlice ?_; first | (refine SXl.lit1 ?_ ?_ rfl rfl rfl (fun g => ?_); rfl; rfl) | (refine SXl.lit0 ?_ ?_ (fun _ h => h) rfl (fun g => ?_); rfl; rfl)))
      refine l_append ?_
      refine SXl.append 2 0 rfl rfl rfl rfl rfl rfl rfl rfl (by omega) (by omega) (fun a3 c3 => ?_)
      simp only [List.set_cons_zero, List.set_cons_succ]
      rw [hfl _ (by omega)]
      repeat (first | refine SX.seq ?_ | refine SXl.nil ?_ | refine SQ.thenNormal ?_ | (refine l_assign ?_; (refine SXl.v (OpW.assign rfl) rfl ?_ ?_ ?_); rfl; rfl))
      refine SX.drawnTail 12 (by kernel_rfl) (by kernel_rfl) (by kernel_rfl) ?_
      repeat (first | (refine SXr.tail ?_) | refine SX.seq ?_ | refine SXl.nil ?_ | refine SX.region ?_ | refine SQ.thenNormal ?_ | refine SX.skip ?_ | refine SX.condT rfl ?_ | refine SX.condF rfl ?_ | (refine l_load ?_; (first | refine SXl.v (OpW.loadOwn (xs := (C.givenL.map icell).flatten) 1 rfl rfl (hgv _ hub)) rfl ?_ ?_ ?_ | refine SXl.v (OpW.loadOld rfl (by assumption) (fun h => h)) rfl ?_ ?_ ?_); rfl; rfl) | (refine l_indexAddr ?_; (first | refine SXl.v ((OpW.indexAddr1 (i := C.used k + 1) (by omega) rfl (congrArg (fun i : Int => some (Value.int .i64 i)) (by omega : ((C.used k : Nat) : Int) + 1 = ((C.used k + 1 : Nat) : Int))))) rfl ?_ ?_ ?_ | refine SXl.v (OpW.indexAddr (by omega) rfl rfl) rfl ?_ ?_ ?_); rfl; rfl) | (refine l_fieldAddr ?_; (refine SXl.v (OpW.fieldAddr rfl) rfl ?_ ?_ ?_); rfl; rfl) | (refine l_move ?_; (refine SXl.v (OpW.move rfl) rfl ?_ ?_ ?_); rfl; rfl) | (refine l_assign ?_; (refine SXl.v (OpW.assign rfl) rfl ?_ ?_ ?_); rfl; rfl) | (refine l_len ?_; (refine SXl.v (OpW.len rfl) rfl ?_ ?_ ?_); rfl; rfl) | (refine l_add ?_; (first | refine SXl.v (OpW.succ rfl rfl (by omega)) rfl ?_ ?_ ?_ | refine SXl.v (OpW.addi rfl rfl (by omega) (by omega)) rfl ?_ ?_ ?_); rfl; rfl) | (refine l_lss ?_; (refine SXl.v (OpW.lssF rfl rfl (by omega)) rfl ?_ ?_ ?_); rfl; rfl) | (refine r_load ?_; (refine SXr.v (OpW.loadOld rfl (by assumption) (fun h => h)) rfl ?_ ?_ ?_); rfl; rfl) | (refine r_indexAddr ?_; (first | refine SXr.v (OpW.indexAddr1 (by omega) rfl rfl) rfl ?_ ?_ ?_ | refine SXr.v (OpW.indexAddr (by omega) rfl rfl) rfl ?_ ?_ ?_); rfl; rfl) | (refine r_fieldAddr ?_; (refine SXr.v (OpW.fieldAddr rfl) rfl ?_ ?_ ?_); rfl; rfl) | (refine r_move ?_; (refine SXr.v (OpW.move rfl) rfl ?_ ?_ ?_); rfl; rfl) | (refine r_add ?_; (refine SXr.v (OpW.addi rfl rfl (by omega) (by omega)) rfl ?_ ?_ ?_); rfl; rfl) | refine SQ.blockNormal ?_)
      refine SQ.round3 (k + 1) (a3, c3) () (by omega) (by omega) ?_ (fun w hl => hl.drop1)
      (repeat (first | exact subF_nil _ | (refine subF_cons rfl ?_) | (refine subF_consv rfl (by congr 1; omega) ?_)))
end Go.Proofs.Ytdohglcjjlmhhaa
namespace Go.Proofs.Ytdohglcjjlmhhaa
open Go.RowKit
set_option linter.unusedVariables false
set_option linter.unusedSimpArgs false

theorem alongEnd_nil {l : List Item} {s : List Int} {gap inner justify : Int} (h : l.length = 0) : alongEnd l s gap inner justify = 0 := by
  obtain rfl := List.length_eq_zero_iff.1 h
  unfold alongEnd
  split
  · show (alongOf [] s gap inner justify).start = 0
    unfold Along.start
    split
    · unfold leadOf
      rw [if_pos (fun hc => by simp [alongOf] at hc)]
    · rfl
  · rfl
theorem alongPlaces_len {l : List Item} {s : List Int} {gap inner justify : Int} (h : alongOk l s gap inner = true) : (alongPlaces l s gap inner justify).length = l.length := by
  unfold alongPlaces
  rw [if_pos h, Along.placesTo_len]
theorem alongEnd_none {l : List Item} {s : List Int} {gap inner justify : Int} (h : (alongPlaces l s gap inner justify).length = 0) : alongEnd l s gap inner justify = 0 := by
  cases hok : alongOk l s gap inner
  · unfold alongEnd
    rw [hok]
    rfl
  · exact alongEnd_nil (by rw [← alongPlaces_len hok (justify := justify)]; exact h)
theorem alongPlaces_le {l : List Item} {s : List Int} {gap inner justify : Int} : (alongPlaces l s gap inner justify).length ≤ 12 := by
  cases hok : alongOk l s gap inner
  · unfold alongPlaces
    rw [hok]
    simp
  · rw [alongPlaces_len hok]
    exact (alongOk_says hok).1
set_option maxRecDepth 100000 in
set_option maxHeartbeats 8000000 in
theorem splacesAlong_any (l : List Item) (s : List Int) (gap inner justify : Int) (a b : Option Addr) (c d : Nat) (R S : Nat → Prop) (w : World) (hlen : l.length ≤ 1048576) (hslen : s.length ≤ 1048576) (h : ItemSlice R w a l) (h' : IntSlice S w b s) :
    Calls Try.prog 36 #[.slice a l.length c, .slice b s.length d, .int .i64 gap, .int .i64 inner, .int .i64 justify] w (NewO (Option Addr × Nat) (fun q => lineV (alongPlaces l s gap inner justify, q)) (fun q => [lineO (alongPlaces l s gap inner justify, q)]) (fun _ => True) w) := by
  refine calls_sx Try.func36 rfl rfl (fun a h1 h2 h3 => (((((Fr.nil h1 h2).arg (h3 4 _ rfl)).arg (h3 3 _ rfl)).arg (h3 2 _ rfl)).arg (h3 1 _ rfl)).arg (h3 0 _ rfl)) ?_
  have hL := fun (w' : World) (hm : Mod (fun _ => False) w w') => l15Places_any l s gap inner justify a b c d R S w' hlen hslen (h.flatKeep hm) (SliceAt.flatKeep h' hm)
  repeat (first | refine SX.seq ?_ | refine SXl.nil ?_ | refine SX.region ?_ | refine SQ.thenNormal ?_ | refine SX.block ?_ | refine SX.skip ?_ | refine SX.condT rfl ?_ | refine SX.condF rfl ?_ | (refine l_move ?_; (first | refine SXl.v (OpW.move rfl) rfl ?_ ?_ ?_); rfl; rfl) | (refine l_assign ?_; (first | refine SXl.v (OpW.assign rfl) rfl ?_ ?_ ?_); rfl; rfl) | (refine l_extract ?_; (first | refine SXl.v (OpW.extract rfl rfl) rfl ?_ ?_ ?_); rfl; rfl) | refine SX.ret ?_ | refine SX.exit ?_ | refine SQ.thenRet ?_ | refine SQ.thenExit ?_ | refine SQ.blockNormal ?_ | refine SQ.blockRet ?_ | refine SQ.blockExit ?_ | refine SQ.blockOther rfl ?_)
  refine l_call ?_
  refine SXl.callO rfl rfl rfl (fun w' hl => hL w' hl.mod) (fun q _ => ?_)
  simp only [List.cons_append, List.nil_append]
  repeat (first | refine SX.seq ?_ | refine SXl.nil ?_ | refine SX.region ?_ | refine SQ.thenNormal ?_ | refine SX.block ?_ | refine SX.skip ?_ | refine SX.condT rfl ?_ | refine SX.condF rfl ?_ | (refine l_move ?_; (first | refine SXl.v (OpW.move rfl) rfl ?_ ?_ ?_); rfl; rfl) | (refine l_assign ?_; (first | refine SXl.v (OpW.assign rfl) rfl ?_ ?_ ?_); rfl; rfl) | (refine l_extract ?_; (first | refine SXl.v (OpW.extract rfl rfl) rfl ?_ ?_ ?_); rfl; rfl) | refine SX.ret ?_ | refine SX.exit ?_ | refine SQ.thenRet ?_ | refine SQ.thenExit ?_ | refine SQ.blockNormal ?_ | refine SQ.blockRet ?_ | refine SQ.blockExit ?_ | refine SQ.blockOther rfl ?_)
  refine SQ.body1 rfl rfl (fun w' hl => ⟨q, rfl, trivial, hl.owns, hl.mod⟩)
set_option maxRecDepth 100000 in
set_option maxHeartbeats 8000000 in
theorem sendsAlong_any (l : List Item) (s : List Int) (gap inner justify : Int) (a b : Option Addr) (c d : Nat) (R S : Nat → Prop) (w : World) (hlen : l.length ≤ 1048576) (hslen : s.length ≤ 1048576) (h : ItemSlice R w a l) (h' : IntSlice S w b s) :
    Calls Try.prog 37 #[.slice a l.length c, .slice b s.length d, .int .i64 gap, .int .i64 inner, .int .i64 justify] w fun e w' => e = .returned (.int .i64 (alongEnd l s gap inner justify)) ∧ Mod (fun _ => False) w w' := by
  refine calls_sx Try.func37 rfl rfl (fun a h1 h2 h3 => (((((Fr.nil h1 h2).arg (h3 4 _ rfl)).arg (h3 3 _ rfl)).arg (h3 2 _ rfl)).arg (h3 1 _ rfl)).arg (h3 0 _ rfl)) ?_
  have hL := fun (w' : World) (hm : Mod (fun _ => False) w w') => l15Places_any l s gap inner justify a b c d R S w' hlen hslen (h.flatKeep hm) (SliceAt.flatKeep h' hm)
  repeat (first | refine SX.seq ?_ | refine SXl.nil ?_ | refine SX.region ?_ | refine SQ.thenNormal ?_ | refine SX.block ?_ | refine SX.skip ?_ | refine SX.condT rfl ?_ | refine SX.condF rfl ?_ | (refine l_move ?_; (first | refine SXl.v (OpW.move rfl) rfl ?_ ?_ ?_); rfl; rfl) | (refine l_assign ?_; (first | refine SXl.v (OpW.assign rfl) rfl ?_ ?_ ?_); rfl; rfl) | (refine l_len ?_; (first | refine SXl.v (OpW.len rfl) rfl ?_ ?_ ?_); rfl; rfl) | (refine l_eql ?_; (first | refine SXl.v (OpW.eqlT rfl rfl (by omega)) rfl ?_ ?_ ?_ | refine SXl.v (OpW.eqlF rfl rfl (by omega)) rfl ?_ ?_ ?_ | refine SXl.v (OpW.eql rfl rfl) rfl ?_ ?_ ?_); rfl; rfl) | (refine l_extract ?_; (first | refine SXl.v (OpW.extract rfl rfl) rfl ?_ ?_ ?_); rfl; rfl) | refine SX.ret ?_ | refine SX.exit ?_ | refine SQ.thenRet ?_ | refine SQ.thenExit ?_ | refine SQ.blockNormal ?_ | refine SQ.blockRet ?_ | refine SQ.blockExit ?_ | refine SQ.blockOther rfl ?_)
  refine l_call ?_
  refine SXl.callO rfl rfl rfl (fun w' hl => hL w' hl.mod) (fun q _ => ?_)
  simp only [List.cons_append, List.nil_append]
  by_cases h0 : l.length = 0
  · rw [alongEnd_nil h0]
    repeat (first | refine SX.seq ?_ | refine SXl.nil ?_ | refine SX.region ?_ | refine SQ.thenNormal ?_ | refine SX.block ?_ | refine SX.skip ?_ | refine SX.condT rfl ?_ | refine SX.condF rfl ?_ | (refine l_move ?_; (first | refine SXl.v (OpW.move rfl) rfl ?_ ?_ ?_); rfl; rfl) | (refine l_assign ?_; (first | refine SXl.v (OpW.assign rfl) rfl ?_ ?_ ?_); rfl; rfl) | (refine l_len ?_; (first | refine SXl.v (OpW.len rfl) rfl ?_ ?_ ?_); rfl; rfl) | (refine l_eql ?_; (first | refine SXl.v (OpW.eqlT rfl rfl (by omega)) rfl ?_ ?_ ?_ | refine SXl.v (OpW.eqlF rfl rfl (by omega)) rfl ?_ ?_ ?_ | refine SXl.v (OpW.eql rfl rfl) rfl ?_ ?_ ?_); rfl; rfl) | (refine l_extract ?_; (first | refine SXl.v (OpW.extract rfl rfl) rfl ?_ ?_ ?_); rfl; rfl) | refine SX.ret ?_ | refine SX.exit ?_ | refine SQ.thenRet ?_ | refine SQ.thenExit ?_ | refine SQ.blockNormal ?_ | refine SQ.blockRet ?_ | refine SQ.blockExit ?_ | refine SQ.blockOther rfl ?_)
    refine SQ.body1 rfl rfl (fun w' hl => ⟨rfl, hl.mod⟩)
  · repeat (first | refine SX.seq ?_ | refine SXl.nil ?_ | refine SX.region ?_ | refine SQ.thenNormal ?_ | refine SX.block ?_ | refine SX.skip ?_ | refine SX.condT rfl ?_ | refine SX.condF rfl ?_ | (refine l_move ?_; (first | refine SXl.v (OpW.move rfl) rfl ?_ ?_ ?_); rfl; rfl) | (refine l_assign ?_; (first | refine SXl.v (OpW.assign rfl) rfl ?_ ?_ ?_); rfl; rfl) | (refine l_len ?_; (first | refine SXl.v (OpW.len rfl) rfl ?_ ?_ ?_); rfl; rfl) | (refine l_eql ?_; (first | refine SXl.v (OpW.eqlT rfl rfl (by omega)) rfl ?_ ?_ ?_ | refine SXl.v (OpW.eqlF rfl rfl (by omega)) rfl ?_ ?_ ?_ | refine SXl.v (OpW.eql rfl rfl) rfl ?_ ?_ ?_); rfl; rfl) | (refine l_extract ?_; (first | refine SXl.v (OpW.extract rfl rfl) rfl ?_ ?_ ?_); rfl; rfl) | refine SX.ret ?_ | refine SX.exit ?_ | refine SQ.thenRet ?_ | refine SQ.thenExit ?_ | refine SQ.blockNormal ?_ | refine SQ.blockRet ?_ | refine SQ.blockExit ?_ | refine SQ.blockOther rfl ?_)
    refine SQ.body1 rfl rfl (fun w' hl => ⟨rfl, hl.mod⟩)
end Go.Proofs.Ytdohglcjjlmhhaa
namespace Go.Proofs.Ytdohglcjjlmhhaa
open Go.RowKit
set_option linter.unusedVariables false
set_option linter.unusedSimpArgs false

section
variable {P : Program} {n : Nat} {W : World} {R : Rg W} {L : List Blk} {O : List Own} {E : List Res} {f : List (Nat × Value)} {Q : Exit → Act → World → Prop} {ops : Array Oper} {rest : List Oper} {d : Option Tmp} {ty T : TypeId} {pos : String} {af : Array Edge} {gd : Option (Nat × Bool)} {dn : Nat}
theorem l_makeFuncA {fn : Fn} {a b : Array Operand} (h : SXl P n W R ops L O E f (⟨d, .makeFunc fn a b, ty, pos, af, gd⟩ :: rest) Q) : SXl P n W R ops L O E f (⟨d, .makeFunc fn a b, ty, pos, af, gd⟩ :: rest) Q := h
theorem OpW.makeFuncA {fn : Fn} {bound : List Operand} {vs : List Value} (hb : evL f bound = some vs) : OpW P n W R L O E f ⟨d, .makeFunc fn #[] bound.toArray, ty, pos, af, gd⟩ (.func fn #[] vs.toArray) :=
  OpW.of (fun a w hf hl => by
    have e := evL_map hf bound vs hb
    simp [execOp, Instr.makeFunc, e])
theorem run_callA {x : Operand} {fn : FuncId} {bound : List Value} {ars : List Operand} {args : List Value} {aT : Array TypeId} {a : Act} (hf : Fr n f a) (hx : evO f x = some (.func (.func fn) #[] bound.toArray)) (ha : evL f ars = some args) (w : World) (dd : Option Tmp) (g : Option (Nat × Bool)) :
    (execOp a.eval ⟨dd, .call ⟨.value x, ars.toArray, aT⟩, ty, pos, af, g⟩).run P w = (callFunc fn (args ++ bound).toArray).run P w := by
  have e := evL_map hf ars args ha
  simp [execOp, resolve, hf.eval hx, Deferred.ofValue, invoke, e]
/-- A call through a function value that turns one block of the call's own. -/
theorem SXl.callA {v : Value} {g : Nat} {cells cells' : List Value} {T : TypeId} {L' : List Blk} {x : Operand} {fn : FuncId} {bound : List Value} {ars : List Operand} {args : List Value} {aT : Array TypeId} [TFun P fn] (i : Nat) (hw : wantO ops f ⟨some dn, .call ⟨.value x, ars.toArray, aT⟩, ty, pos, af, gd⟩ = some true) (hd : Nat.blt dn n = true) (hx : evO f x = some (.func (.func fn) #[] bound.toArray)) (ha : evL f ars = some args) (hi : L[i]? = some ⟨g, cells, T⟩)
    (hc : ∀ w, Loc W R L O E w → Calls P fn (args ++ bound).toArray w fun e w' => e = .returned v ∧ Mod (fun k => k = g) w w' ∧ w'.heap[g]? = some (.cells cells'.toArray T (0, 0))) (hL : L.set i ⟨g, cells', T⟩ = L')
    (h : SXl P n W R ops L' O E ((dn, v) :: f) rest Q) : SXl P n W R ops L O E f (⟨some dn, .call ⟨.value x, ars.toArray, aT⟩, ty, pos, af, gd⟩ :: rest) Q := ⟨fun a w hf hl => by
  unfold wpList
  rw [if_pos (wanted_of hf hw)]
  refine .inl ?_
  unfold Oper.wp
  rw [run_callA hf hx ha w _ _, run_call, Oper.upon_enter]
  refine (hc w hl).mono ?_
  rintro e w' ⟨rfl, hm, hb⟩
  exact h.run _ _ (hf.put hd _) (hL ▸ hl.turned hi hm hb)⟩
end
theorem ownsRow_ints {w : World} {base c : Nat} {a : Option Addr} {l : List Int} (h : w.ownsRow base 3 1 (.slice a l.length c) l.length (l.map icell).flatten) : IntSlice (fun k => (Value.slice a l.length c).ownBlock = some k) w a l := by
  obtain ⟨rows, h2, h3, h4⟩ := own_slice h (fun _ => rfl) (by decide)
  refine ⟨rows, ?_, h3, h4⟩
  rcases h2 with h2 | ⟨b, o, e, hb, hlt, hc⟩
  · exact .inl h2
  · refine .inr ⟨b, o, e, ?_, hlt, hc⟩
    rw [e]; rfl
set_option maxRecDepth 100000 in
set_option maxHeartbeats 4000000 in
theorem alongGive_any (b : Bool) (e : List Int) (u gu ge : Nat) (a : Option Addr) (c : Nat) (R : Nat → Prop) (w : World) (hel : e.length ≤ 1048576) (hu : u ≤ 1000) (hcu : w.heap[gu]? = some (.cells [Value.int .i64 (u : Nat)].toArray 3 (0, 0))) (hce : w.cell? ⟨ge, 0, none⟩ = some (.slice a e.length c)) (hne : ge ≠ gu) (h : IntSlice R w a e) (hR : ¬ R gu) :
    Calls Try.prog 99 #[.bool b, .pointer (some ⟨gu, 0, none⟩), .pointer (some ⟨ge, 0, none⟩)] w fun en w' => en = .returned (.int .i64 (autoV b e u)) ∧ Mod (fun k => k = gu) w w' ∧ w'.heap[gu]? = some (.cells [Value.int .i64 (u + b.toNat : Nat)].toArray 3 (0, 0)) := by
  have hlt : gu < w.heap.size := (Array.getElem?_eq_some_iff.1 hcu).1
  have hE := fun (w' : World) (hm : Mod (fun k => k = gu) w w') (i : Int) => (elementAt_any e i a c R w' hel (SliceAt.flatMod h hm fun k hk hs => hR (hs ▸ hk))).mono (R' := fun en w2 => en = .returned (.int .i64 (elemAt e i)) ∧ Mod (fun _ => False) w' w2) (fun _ _ h => ⟨h.1, h.2 ▸ Mod.refl _ _⟩)
  refine calls_sxB [⟨gu, [.int .i64 (u : Nat)], 3⟩] (fun b hb => by obtain rfl := List.mem_singleton.1 hb; exact hcu) (List.pairwise_singleton _ _) (fun g hg => by obtain rfl := List.mem_singleton.1 hg; exact hlt) Try.func99 rfl rfl (fun a h1 h2 h3 => (((Fr.nil h1 h2).arg (h3 2 _ rfl)).arg (h3 1 _ rfl)).arg (h3 0 _ rfl)) ?_
  unfold autoV
  cases b
  · repeat (first | refine SX.seq ?_ | refine SXl.nil ?_ | refine SX.region ?_ | refine SQ.thenNormal ?_ | refine SX.block ?_ | refine SX.skip ?_ | refine SX.condT rfl ?_ | refine SX.condF rfl ?_ | (refine l_load ?_; (first | refine SXl.v (OpW.load 0 rfl rfl rfl) rfl ?_ ?_ ?_ | refine SXl.v (OpW.load 1 rfl rfl rfl) rfl ?_ ?_ ?_ | refine SXl.v (OpW.load 2 rfl rfl rfl) rfl ?_ ?_ ?_ | refine SXl.v (OpW.load 3 rfl rfl rfl) rfl ?_ ?_ ?_ | refine SXl.v (OpW.loadOld rfl (by assumption) (fun h => h)) rfl ?_ ?_ ?_); rfl; rfl) | (refine l_move ?_; (first | refine SXl.v (OpW.move rfl) rfl ?_ ?_ ?_); rfl; rfl) | (refine l_assign ?_; (first | refine SXl.v (OpW.assign rfl) rfl ?_ ?_ ?_); rfl; rfl) | (refine l_add ?_; (first | refine SXl.v (OpW.succ rfl rfl (by omega)) rfl ?_ ?_ ?_ | refine SXl.v (OpW.addi rfl rfl (by omega) (by omega)) rfl ?_ ?_ ?_ | refine SXl.v (OpW.add rfl rfl) rfl ?_ ?_ ?_); rfl; rfl) | (refine l_not ?_; (first | refine SXl.v (OpW.not rfl) rfl ?_ ?_ ?_); rfl; rfl) | (refine l_sub ?_; (first | refine SXl.v (OpW.subi rfl rfl (by omega) (by omega)) rfl ?_ ?_ ?_ | refine SXl.v (OpW.sub rfl rfl) rfl ?_ ?_ ?_); rfl; rfl) | (refine l_store ?_; first | (refine SXl.store 0 ?_ rfl rfl rfl rfl rfl rfl ?_; rfl; simp only [List.set_cons_zero, List.set_cons_succ]) | (refine SXl.store 1 ?_ rfl rfl rfl rfl rfl rfl ?_; rfl; simp only [List.set_cons_zero, List.set_cons_succ]) | (refine SXl.store 2 ?_ rfl rfl rfl rfl rfl rfl ?_; rfl; simp only [List.set_cons_zero, List.set_cons_succ])) | refine SX.ret ?_ | refine SX.exit ?_ | refine SQ.thenRet ?_ | refine SQ.thenExit ?_ | refine SQ.blockNormal ?_ | refine SQ.blockRet ?_ | refine SQ.blockExit ?_ | refine SQ.blockOther rfl ?_)
    refine SQ.body1 rfl rfl (fun w' hl => ⟨rfl, hl.mod.mono (fun k _ hk => List.mem_singleton.1 (show k ∈ [gu] from hk)), (hl.blk _ (.head _)).2⟩)
  · repeat (first | refine SX.seq ?_ | refine SXl.nil ?_ | refine SX.region ?_ | refine SQ.thenNormal ?_ | refine SX.block ?_ | refine SX.skip ?_ | refine SX.condT rfl ?_ | refine SX.condF rfl ?_ | (refine l_load ?_; (first | refine SXl.v (OpW.loadOld rfl hce (fun hc => hne (List.mem_singleton.1 hc))) rfl ?_ ?_ ?_ | refine SXl.v (OpW.load 0 rfl rfl rfl) rfl ?_ ?_ ?_ | refine SXl.v (OpW.load 1 rfl rfl rfl) rfl ?_ ?_ ?_ | refine SXl.v (OpW.load 2 rfl rfl rfl) rfl ?_ ?_ ?_ | refine SXl.v (OpW.load 3 rfl rfl rfl) rfl ?_ ?_ ?_ | refine SXl.v (OpW.loadOld rfl (by assumption) (fun h => h)) rfl ?_ ?_ ?_); rfl; rfl) | (refine l_call ?_; (first | refine SXl.v (OpW.call rfl (fun w hl => hE _ (hl.mod.mono (fun k _ hk => List.mem_singleton.1 (show k ∈ [gu] from hk))) _)) rfl ?_ ?_ ?_); rfl; rfl) | (refine l_move ?_; (first | refine SXl.v (OpW.move rfl) rfl ?_ ?_ ?_); rfl; rfl) | (refine l_assign ?_; (first | refine SXl.v (OpW.assign rfl) rfl ?_ ?_ ?_); rfl; rfl) | (refine l_add ?_; (first | refine SXl.v (OpW.succ rfl rfl (by omega)) rfl ?_ ?_ ?_ | refine SXl.v (OpW.addi rfl rfl (by omega) (by omega)) rfl ?_ ?_ ?_ | refine SXl.v (OpW.add rfl rfl) rfl ?_ ?_ ?_); rfl; rfl) | (refine l_not ?_; (first | refine SXl.v (OpW.not rfl) rfl ?_ ?_ ?_); rfl; rfl) | (refine l_sub ?_; (first | refine SXl.v (OpW.subi rfl rfl (by omega) (by omega)) rfl ?_ ?_ ?_ | refine SXl.v (OpW.sub rfl rfl) rfl ?_ ?_ ?_); rfl; rfl) | (refine l_store ?_; first | (refine SXl.store 0 ?_ rfl rfl rfl rfl rfl rfl ?_; rfl; simp only [List.set_cons_zero, List.set_cons_succ]) | (refine SXl.store 1 ?_ rfl rfl rfl rfl rfl rfl ?_; rfl; simp only [List.set_cons_zero, List.set_cons_succ]) | (refine SXl.store 2 ?_ rfl rfl rfl rfl rfl rfl ?_; rfl; simp only [List.set_cons_zero, List.set_cons_succ])) | refine SX.ret ?_ | refine SX.exit ?_ | refine SQ.thenRet ?_ | refine SQ.thenExit ?_ | refine SQ.blockNormal ?_ | refine SQ.blockRet ?_ | refine SQ.blockExit ?_ | refine SQ.blockOther rfl ?_)
    refine SQ.body1 rfl rfl (fun w' hl => ⟨congrArg (fun i : Int => Ending.returned (.int .i64 (elemAt e i))) (by omega), hl.mod.mono (fun k _ hk => List.mem_singleton.1 (show k ∈ [gu] from hk)), (hl.blk _ (.head _)).2⟩)
end Go.Proofs.Ytdohglcjjlmhhaa
namespace Go.Proofs.Ytdohglcjjlmhhaa
open Go.RowKit
set_option linter.unusedVariables false
set_option linter.unusedSimpArgs false

theorem SQ.body3 {P : Program} {n : Nat} {W : World} {R : Rg W} {L : List Blk} {O : List Own} {E : List Res} {f : List (Nat × Value)} {fn : Func} {R' : Ending → World → Prop} {t u r : Tmp} {v z y : Value} (hr : fn.results = #[.tmp t, .tmp u, .tmp r]) (ht : look f t = some v) (hu : look f u = some z) (hv : look f r = some y) (h : ∀ w, Loc W R L O E w → R' (.returned (.tuple #[v, z, y])) w) : SQ n W R L O E f .ret (bodyPost P fn R') :=
  ⟨fun a w hf hl => ⟨hf.defers, .tuple #[v, z, y], by
    have e1 := hf.at_ t v ht
    have e2 := hf.at_ u z hu
    have e3 := hf.at_ r y hv
    simp [results, hr, Array.getD_eq_getD_getElem?, e1, e2, e3], h w hl⟩⟩
theorem along_no {l : List Item} {s : List Int} {gap inner justify : Int} (h : alongOk l s gap inner = false) : alongPlaces l s gap inner justify = [] ∧ alongEnd l s gap inner justify = 0 := by
  unfold alongPlaces alongEnd
  rw [h]
  exact ⟨rfl, rfl⟩
theorem extraL_len (free : Int) (autos : Nat) : (extraL free autos).length ≤ 64 := by
  unfold extraL
  split
  · exact evenly_length _ _
  · simp
set_option maxRecDepth 100000 in
set_option maxHeartbeats 16000000 in
theorem along_any (l : List Item) (s : List Int) (gap inner justify : Int) (a b : Option Addr) (c d : Nat) (R S : Nat → Prop) (w : World) (hlen : l.length ≤ 1048576) (hslen : s.length ≤ 1048576) (h : ItemSlice R w a l) (h' : IntSlice S w b s) :
    Calls Try.prog 67 #[.slice a l.length c, .slice b s.length d, .int .i64 gap, .int .i64 inner, .int .i64 justify] w (NewO (Option Addr × Nat) (fun q => .tuple #[lineV (alongPlaces l s gap inner justify, q), .int .i64 (alongEnd l s gap inner justify), .bool (alongOk l s gap inner)]) (fun q => [lineO (alongPlaces l s gap inner justify, q)]) (fun _ => True) w) := by
  refine calls_sx Try.func67 rfl rfl (fun a h1 h2 h3 => (((((Fr.nil h1 h2).arg (h3 4 _ rfl)).arg (h3 3 _ rfl)).arg (h3 2 _ rfl)).arg (h3 1 _ rfl)).arg (h3 0 _ rfl)) ?_
  have hO := fun (w' : World) (hm : Mod (fun _ => False) w w') => itemsOk_any l a c R w' hlen (h.flatKeep hm)
  refine SX.ownNil 3 1 ?_
  cases h1 : itemsOk l
  · have hok : alongOk l s gap inner = false := by unfold alongOk; rw [h1]; rfl
    rw [hok, (along_no hok).1, (along_no hok).2]
    rw [h1] at hO
    repeat (first | refine SX.seq ?_ | refine SXl.nil ?_ | refine SX.region ?_ | refine SQ.thenNormal ?_ | refine SX.condT rfl ?_ | (refine SXl.no rfl rfl rfl ?_) | (refine l_call ?_; (refine SXl.v (OpW.call rfl (fun w hl => hO _ hl.mod)) rfl ?_ ?_ ?_); rfl; rfl) | (refine l_move ?_; (refine SXl.v (OpW.move rfl) rfl ?_ ?_ ?_); rfl; rfl) | (refine l_assign ?_; (refine SXl.v (OpW.assign rfl) rfl ?_ ?_ ?_); rfl; rfl) | (refine l_not ?_; (refine SXl.v (OpW.not rfl) rfl ?_ ?_ ?_); rfl; rfl) | (refine l_pick ?_; (refine SXl.v (OpW.pick rfl rfl rfl) rfl ?_ ?_ ?_); rfl; rfl) | refine SX.ret ?_ | refine SQ.thenRet ?_)
    refine SQ.body3 rfl rfl rfl rfl (fun w' hl => ⟨(none, 0), rfl, trivial, hl.owns, hl.mod⟩)
  rw [h1] at hO
  by_cases h2 : s.length = l.length
  rotate_left
  · have hok : alongOk l s gap inner = false := by unfold alongOk; rw [decide_eq_false h2, Bool.and_false]; rfl
    rw [hok, (along_no hok).1, (along_no hok).2]
    repeat (first | refine SX.seq ?_ | refine SXl.nil ?_ | refine SX.region ?_ | refine SQ.thenNormal ?_ | refine SX.condT rfl ?_ | (refine SXl.no rfl rfl rfl ?_) | (refine l_call ?_; (refine SXl.v (OpW.call rfl (fun w hl => hO _ hl.mod)) rfl ?_ ?_ ?_); rfl; rfl) | (refine l_move ?_; (refine SXl.v (OpW.move rfl) rfl ?_ ?_ ?_); rfl; rfl) | (refine l_assign ?_; (refine SXl.v (OpW.assign rfl) rfl ?_ ?_ ?_); rfl; rfl) | (refine l_len ?_; (refine SXl.v (OpW.len rfl) rfl ?_ ?_ ?_); rfl; rfl) | (refine l_neq ?_; (refine SXl.v (OpW.neqT rfl rfl (by omega)) rfl ?_ ?_ ?_); rfl; rfl) | (refine l_not ?_; (refine SXl.v (OpW.not rfl) rfl ?_ ?_ ?_); rfl; rfl) | (refine l_pick ?_; (refine SXl.v (OpW.pick rfl rfl rfl) rfl ?_ ?_ ?_); rfl; rfl) | refine SX.ret ?_ | refine SQ.thenRet ?_)
    refine SQ.body3 rfl rfl rfl rfl (fun w' hl => ⟨(none, 0), rfl, trivial, hl.owns, hl.mod⟩)
  cases h3 : inB gap 0 1048576
  · have hok : alongOk l s gap inner = false := by unfold alongOk; rw [h3, Bool.and_false]; rfl
    rw [hok, (along_no hok).1, (along_no hok).2]
    repeat (first | refine SX.seq ?_ | refine SXl.nil ?_ | refine SX.region ?_ | refine SQ.thenNormal ?_ | refine SX.condT rfl ?_ | (refine SXl.no rfl rfl rfl ?_) | (refine l_call ?_; (first | refine SXl.v (OpW.call rfl (fun w hl => hO _ hl.mod)) rfl ?_ ?_ ?_ | refine SXl.v (OpW.calls rfl (fun w _ => in_any _ _ _ _)) rfl ?_ ?_ ?_); rfl; rfl) | (refine l_move ?_; (refine SXl.v (OpW.move rfl) rfl ?_ ?_ ?_); rfl; rfl) | (refine l_assign ?_; (refine SXl.v (OpW.assign rfl) rfl ?_ ?_ ?_); rfl; rfl) | (refine l_len ?_; (refine SXl.v (OpW.len rfl) rfl ?_ ?_ ?_); rfl; rfl) | (refine l_neq ?_; (refine SXl.v (OpW.neqF rfl rfl (by omega)) rfl ?_ ?_ ?_); rfl; rfl) | (refine l_not ?_; (refine SXl.v (OpW.not rfl) rfl ?_ ?_ ?_); rfl; rfl) | (refine l_pick ?_; (refine SXl.v (OpW.pick rfl rfl rfl) rfl ?_ ?_ ?_); rfl; rfl) | (rw [h3]) | refine SX.ret ?_ | refine SQ.thenRet ?_)
    refine SQ.body3 rfl rfl rfl rfl (fun w' hl => ⟨(none, 0), rfl, trivial, hl.owns, hl.mod⟩)
  cases h4 : inB inner 0 1048576
  · have hok : alongOk l s gap inner = false := by unfold alongOk; rw [h4, Bool.and_false]; rfl
    rw [hok, (along_no hok).1, (along_no hok).2]
    repeat (first | refine SX.seq ?_ | refine SXl.nil ?_ | refine SX.region ?_ | refine SQ.thenNormal ?_ | refine SX.condT rfl ?_ | (refine l_call ?_; (first | refine SXl.v (OpW.call rfl (fun w hl => hO _ hl.mod)) rfl ?_ ?_ ?_ | refine SXl.v (OpW.calls rfl (fun w _ => in_any _ _ _ _)) rfl ?_ ?_ ?_); rfl; rfl) | (refine l_move ?_; (refine SXl.v (OpW.move rfl) rfl ?_ ?_ ?_); rfl; rfl) | (refine l_assign ?_; (refine SXl.v (OpW.assign rfl) rfl ?_ ?_ ?_); rfl; rfl) | (refine l_len ?_; (refine SXl.v (OpW.len rfl) rfl ?_ ?_ ?_); rfl; rfl) | (refine l_neq ?_; (refine SXl.v (OpW.neqF rfl rfl (by omega)) rfl ?_ ?_ ?_); rfl; rfl) | (refine l_not ?_; (refine SXl.v (OpW.not rfl) rfl ?_ ?_ ?_); rfl; rfl) | (refine l_pick ?_; (refine SXl.v (OpW.pick rfl rfl rfl) rfl ?_ ?_ ?_); rfl; rfl) | (rw [h3]) | (rw [h4]) | refine SX.ret ?_ | refine SQ.thenRet ?_)
    refine SQ.body3 rfl rfl rfl rfl (fun w' hl => ⟨(none, 0), rfl, trivial, hl.owns, hl.mod⟩)
  repeat (first | refine SX.seq ?_ | refine SXl.nil ?_ | refine SX.region ?_ | refine SQ.thenNormal ?_ | refine SX.block ?_ | refine SX.skip ?_ | refine SX.condF rfl ?_ | (refine l_call ?_; (first | refine SXl.v (OpW.call rfl (fun w hl => hO _ hl.mod)) rfl ?_ ?_ ?_ | refine SXl.v (OpW.calls rfl (fun w _ => in_any _ _ _ _)) rfl ?_ ?_ ?_); rfl; rfl) | (refine l_move ?_; (refine SXl.v (OpW.move rfl) rfl ?_ ?_ ?_); rfl; rfl) | (refine l_assign ?_; (refine SXl.v (OpW.assign rfl) rfl ?_ ?_ ?_); rfl; rfl) | (refine l_len ?_; (refine SXl.v (OpW.len rfl) rfl ?_ ?_ ?_); rfl; rfl) | (refine l_neq ?_; (refine SXl.v (OpW.neqF rfl rfl (by omega)) rfl ?_ ?_ ?_); rfl; rfl) | (refine l_not ?_; (refine SXl.v (OpW.not rfl) rfl ?_ ?_ ?_); rfl; rfl) | (refine l_pick ?_; (refine SXl.v (OpW.pick rfl rfl rfl) rfl ?_ ?_ ?_); rfl; rfl) | (rw [h3]) | (rw [h4]))
  refine SX.loopi (fun k : Nat => k ≤ s.length ∧ (s.take k).all (fun y => inB y 0 1048576) = true) (fun k => s.length - k) (fun _ => []) (fun _ => [⟨.slice none 0 0, 3, 1, 0, []⟩]) (fun _ => []) (fun k => [(0, .slice a l.length c), (1, .slice b s.length d), (2, .int .i64 gap), (3, .int .i64 inner), (4, .int .i64 justify), (44, .slice b s.length d), (45, .int .i64 s.length), (46, .int .i64 k)]) 0 ⟨Nat.zero_le _, rfl⟩ ?_ (fun _ hl => hl) ?_
  · (repeat (first | exact subF_nil _ | (refine subF_cons rfl ?_) | (refine subF_consv rfl (by rfl) ?_)))
  rintro k ⟨hk, ha⟩
  by_cases hlt : k < s.length
  · obtain ⟨b1, o1, y, e1, hR1, hb1, hyk, hc1⟩ := IntSlice.get h' hlt
    subst e1
    cases hy : inB y 0 1048576
    · have hok : alongOk l s gap inner = false := by unfold alongOk; rw [all_noI hyk.out hy, Bool.and_false]
      rw [hok, (along_no hok).1, (along_no hok).2]
      repeat (first | refine SX.seq ?_ | refine SXl.nil ?_ | refine SX.region ?_ | refine SQ.thenNormal ?_ | refine SX.block ?_ | refine SX.skip ?_ | refine SX.condT rfl ?_ | (refine l_call ?_; (refine SXl.v (OpW.calls rfl (fun w _ => in_any _ _ _ _)) rfl ?_ ?_ ?_); rfl; rfl) | (refine l_load ?_; (refine SXl.v (OpW.loadOld rfl (by assumption) (fun h => h)) rfl ?_ ?_ ?_); rfl; rfl) | (refine l_move ?_; (refine SXl.v (OpW.move rfl) rfl ?_ ?_ ?_); rfl; rfl) | (refine l_assign ?_; (refine SXl.v (OpW.assign rfl) rfl ?_ ?_ ?_); rfl; rfl) | (refine l_lss ?_; (refine SXl.v (OpW.lssT rfl rfl (by omega)) rfl ?_ ?_ ?_); rfl; rfl) | (refine l_not ?_; (refine SXl.v (OpW.not rfl) rfl ?_ ?_ ?_); rfl; rfl) | (refine l_indexAddr ?_; (refine SXl.v (OpW.indexAddr1 (by omega) rfl rfl) rfl ?_ ?_ ?_); rfl; rfl) | (rw [hy]) | refine SX.ret ?_ | refine SQ.thenRet ?_ | refine SQ.blockRet ?_)
      refine SQ.body3 rfl rfl rfl rfl (fun w' hl => ⟨(none, 0), rfl, trivial, hl.owns, hl.mod⟩)
    · repeat (first | refine SX.seq ?_ | refine SXl.nil ?_ | refine SX.region ?_ | refine SQ.thenNormal ?_ | refine SX.block ?_ | refine SX.skip ?_ | refine SX.condT rfl ?_ | refine SX.condF rfl ?_ | (refine l_call ?_; (refine SXl.v (OpW.calls rfl (fun w _ => in_any _ _ _ _)) rfl ?_ ?_ ?_); rfl; rfl) | (refine l_load ?_; (refine SXl.v (OpW.loadOld rfl (by assumption) (fun h => h)) rfl ?_ ?_ ?_); rfl; rfl) | (refine l_move ?_; (refine SXl.v (OpW.move rfl) rfl ?_ ?_ ?_); rfl; rfl) | (refine l_assign ?_; (refine SXl.v (OpW.assign rfl) rfl ?_ ?_ ?_); rfl; rfl) | (refine l_add ?_; (refine SXl.v (OpW.succ rfl rfl (by omega)) rfl ?_ ?_ ?_); rfl; rfl) | (refine l_lss ?_; (refine SXl.v (OpW.lssT rfl rfl (by omega)) rfl ?_ ?_ ?_); rfl; rfl) | (refine l_not ?_; (refine SXl.v (OpW.not rfl) rfl ?_ ?_ ?_); rfl; rfl) | (refine l_indexAddr ?_; (refine SXl.v (OpW.indexAddr1 (by omega) rfl rfl) rfl ?_ ?_ ?_); rfl; rfl) | (rw [hy]) | refine SQ.blockNormal ?_)
      refine SQ.roundi (k + 1) ⟨by omega, all_nextI (p := fun y => inB y 0 1048576) hyk.out ha hy⟩ (by omega) ?_ (fun _ hl => hl)
      (repeat (first | exact subF_nil _ | (refine subF_cons rfl ?_) | (refine subF_consv rfl (by rfl) ?_)))
  obtain rfl : k = s.length := by omega
  rw [List.take_length] at ha
  have hok : alongOk l s gap inner = true := by unfold alongOk; rw [h1, decide_eq_true h2, h3, h4, ha]; rfl
  unfold alongPlaces alongEnd
  rw [hok, if_pos rfl, if_pos rfl]
  clear ha h1 h3 h4 hO hk
  obtain ⟨hn, hsl, hri, hsb, hg, hin⟩ := alongOk_says hok
  have hf : ∀ x ∈ l, x.Fits := fun x hx => (hri x hx).fits
  have hns : Near 2147483648 s := fun y hy => by have := hsb y hy; omega
  have hU := fun (w' : World) (hm : Mod (fun _ => False) w w') => outerOf_any l s gap a b c d R S w' hlen hslen hf hns (by omega) (h.flatKeep hm) (SliceAt.flatKeep h' hm)
  have hub := outer_bd (gap := gap) hf hns hlen hslen (by omega)
  have hA := fun (w' : World) (hm : Mod (fun _ => False) w w') => autosIn_any l a c R w' hlen (h.flatKeep hm)
  generalize hC : alongOf l s gap inner justify = C
  have e1 : C.l = l := by rw [← hC]; rfl
  have e2 : C.sizes = s := by rw [← hC]; rfl
  have e3 : C.gap = gap := by rw [← hC]; rfl
  have e4 : C.free = signedL (inner - outerOf l s gap) := by rw [← hC]; rfl
  have e5 : C.justify = justify := by rw [← hC]; rfl
  have e6 : C.autos = autosIn l := by rw [← hC]; rfl
  have hfb := signedL_bd (inner - outerOf l s gap)
  have hau := autosIn_le l
  have hEx : C.extra = extraL (signedL (inner - outerOf l s gap)) (autosIn l) := by unfold Along.extra; rw [e6, e4]
  have hSt : C.start = if autosIn l = 0 then leadOf (signedL (inner - outerOf l s gap)) l.length justify else 0 := by unfold Along.start; rw [e6, e4, e5, e1]
  clear hC
  have hxl := extraL_len (signedL (inner - outerOf l s gap)) (autosIn l)
  rw [← hEx] at hxl
  generalize hvo : outerOf l s gap = V at *
  skip
  refine SX.seq ?_
  repeat (first | refine SXl.nil ?_ | refine SX.region ?_ | refine SQ.thenNormal ?_ | (refine l_lss ?_; (refine SXl.v (OpW.lssF rfl rfl (by omega)) rfl ?_ ?_ ?_); rfl; rfl))
  refine SX.seq ?_
  repeat (first | refine SQ.thenNormal ?_ | refine SX.condF rfl ?_ | refine SX.exit ?_ | refine SQ.thenExit ?_ | refine SQ.blockExit ?_)
  refine SX.seq ?_
  repeat (first | refine SXl.nil ?_ | refine SX.region ?_ | refine SQ.thenNormal ?_ | (refine l_call ?_; (first | refine SXl.v (OpW.call rfl (fun w hl => hU _ hl.mod)) rfl ?_ ?_ ?_ | refine SXl.v (OpW.calls rfl (fun w _ => signed_any _ _)) rfl ?_ ?_ ?_); rfl; rfl) | (refine l_move ?_; (refine SXl.v (OpW.move rfl) rfl ?_ ?_ ?_); rfl; rfl) | (refine l_assign ?_; (refine SXl.v (OpW.assign rfl) rfl ?_ ?_ ?_); rfl; rfl) | (refine l_sub ?_; (refine SXl.v (OpW.subi rfl rfl (by omega) (by omega)) rfl ?_ ?_ ?_); rfl; rfl))
  refine SX.seq ?_
  repeat (first | refine SXl.nil ?_ | refine SX.region ?_ | refine SQ.thenNormal ?_ | (refine l_call ?_; (refine SXl.v (OpW.call rfl (fun w hl => hA _ hl.mod)) rfl ?_ ?_ ?_); rfl; rfl) | (refine l_move ?_; (refine SXl.v (OpW.move rfl) rfl ?_ ?_ ?_); rfl; rfl) | (refine l_assign ?_; (refine SXl.v (OpW.assign rfl) rfl ?_ ?_ ?_); rfl; rfl))
  refine SX.seq ?_
  repeat (first | refine SXl.nil ?_ | refine SX.region ?_ | refine SQ.thenNormal ?_ | (refine l_alloc ?_; refine SXl.alloc ?_ ?_ (fun g => ?_); rfl; rfl))
  generalize hfr : signedL (inner - V) = fr at *
  generalize hau2 : autosIn l = au at *
  refine SX.seq ?_
  refine SX.join (ι := Option Addr × Nat) (fun _ => True) (fun q => [⟨g, [.slice q.1 C.extra.length q.2], 29⟩]) (fun q => [⟨.slice q.1 C.extra.length q.2, 3, 1, C.extra.length, (C.extra.map icell).flatten⟩, ⟨.slice none 0 0, 3, 1, 0, []⟩]) (fun _ => []) (fun q => [(0, .slice a l.length c), (1, .slice b s.length d), (2, .int .i64 gap), (4, .int .i64 justify), (15, .int .i64 fr), (16, .int .i64 au), (17, .pointer (some ⟨g, 0, none⟩))]) ?_ ?_
  · by_cases h1 : 0 < au
    · by_cases h2 : 0 < fr
      · have hx : C.extra = evenly fr au := by rw [hEx]; unfold extraL; rw [if_pos ⟨by omega, h2⟩]
        have hE := evenly_any fr au
        rw [← hx] at hE
        repeat (first | refine SX.seq ?_ | refine SXl.nil ?_ | refine SX.region ?_ | refine SQ.thenNormal ?_ | refine SX.condT rfl ?_ | (refine l_move ?_; (refine SXl.v (OpW.move rfl) rfl ?_ ?_ ?_); rfl; rfl) | (refine l_gtr ?_; (refine SXl.v (OpW.gtrT rfl rfl (by omega)) rfl ?_ ?_ ?_); rfl; rfl) | (refine l_pick ?_; (refine SXl.v (OpW.pick rfl rfl rfl) rfl ?_ ?_ ?_); rfl; rfl))
        refine l_call ?_
        refine SXl.callO rfl rfl rfl (fun w' hl => (hE w').mono fun _ _ h => ints_o h) (fun q _ => ?_)
        simp only [List.cons_append, List.nil_append]
        repeat (first | refine SXl.nil ?_ | (refine l_store ?_; first | (refine SXl.store 0 ?_ rfl rfl rfl rfl rfl rfl ?_; rfl; simp only [List.set_cons_zero, List.set_cons_succ]) | (refine SXl.store 1 ?_ rfl rfl rfl rfl rfl rfl ?_; rfl; simp only [List.set_cons_zero, List.set_cons_succ]) | (refine SXl.store 2 ?_ rfl rfl rfl rfl rfl rfl ?_; rfl; simp only [List.set_cons_zero, List.set_cons_succ]) | (refine SXl.storeAll 0 ?_ rfl rfl rfl rfl rfl rfl rfl ?_; rfl; simp only [List.set_cons_zero, List.set_cons_succ]) | (refine SXl.storeAll 1 ?_ rfl rfl rfl rfl rfl rfl rfl ?_; rfl; simp only [List.set_cons_zero, List.set_cons_succ]) | (refine SXl.storeAll 2 ?_ rfl rfl rfl rfl rfl rfl rfl ?_; rfl; simp only [List.set_cons_zero, List.set_cons_succ]) | (refine SXl.storeRow 0 ?_ rfl rfl rfl rfl rfl rfl rfl ?_; rfl; simp only [over, List.set_cons_zero, List.set_cons_succ]) | (refine SXl.storeRow 1 ?_ rfl rfl rfl rfl rfl rfl rfl ?_; rfl; simp only [over, List.set_cons_zero, List.set_cons_succ]) | (refine SXl.storeRow 2 ?_ rfl rfl rfl rfl rfl rfl rfl ?_; rfl; simp only [over, List.set_cons_zero, List.set_cons_succ])))
        refine SQ.join q trivial ?_ (fun w hl => hl)
        (repeat (first | exact subF_nil _ | (refine subF_cons rfl ?_) | (refine subF_consv rfl (by rfl) ?_)))
      · have hx : C.extra = [] := by rw [hEx]; unfold extraL; rw [if_neg (fun hc => h2 hc.2)]
        rw [hx]
        refine SX.ownNil 3 1 ?_
        repeat (first | refine SX.seq ?_ | refine SXl.nil ?_ | refine SX.region ?_ | refine SQ.thenNormal ?_ | refine SX.skip ?_ | refine SX.condF rfl ?_ | (refine l_move ?_; (refine SXl.v (OpW.move rfl) rfl ?_ ?_ ?_); rfl; rfl) | (refine l_gtr ?_; (first | refine SXl.v (OpW.gtrT rfl rfl (by omega)) rfl ?_ ?_ ?_ | refine SXl.v (OpW.gtrF rfl rfl (by omega)) rfl ?_ ?_ ?_); rfl; rfl) | (refine l_pick ?_; (refine SXl.v (OpW.pick rfl rfl rfl) rfl ?_ ?_ ?_); rfl; rfl))
        refine SQ.join (none, 0) trivial ?_ (fun w hl => hl)
        (repeat (first | exact subF_nil _ | (refine subF_cons rfl ?_) | (refine subF_consv rfl (by rfl) ?_)))
    · have hx : C.extra = [] := by rw [hEx]; unfold extraL; rw [if_neg (fun hc => by omega)]
      rw [hx]
      refine SX.ownNil 3 1 ?_
      repeat (first | refine SX.seq ?_ | refine SXl.nil ?_ | refine SX.region ?_ | refine SQ.thenNormal ?_ | refine SX.skip ?_ | refine SX.condF rfl ?_ | (refine SXl.no rfl rfl rfl ?_) | (refine l_move ?_; (refine SXl.v (OpW.move rfl) rfl ?_ ?_ ?_); rfl; rfl) | (refine l_gtr ?_; (refine SXl.v (OpW.gtrF rfl rfl (by omega)) rfl ?_ ?_ ?_); rfl; rfl) | (refine l_pick ?_; (refine SXl.v (OpW.pick rfl rfl rfl) rfl ?_ ?_ ?_); rfl; rfl))
      refine SQ.join (none, 0) trivial ?_ (fun w hl => hl)
      (repeat (first | exact subF_nil _ | (refine subF_cons rfl ?_) | (refine subF_consv rfl (by rfl) ?_)))
  rintro ⟨ea, ec⟩ _
  simp only
  revert g
  intro gE
  refine SX.seq ?_
  repeat (first | refine SXl.nil ?_ | refine SX.region ?_ | refine SQ.thenNormal ?_ | (refine l_alloc ?_; refine SXl.alloc ?_ ?_ (fun g => ?_); rfl; rfl) | (refine l_store ?_; first | (refine SXl.store 0 ?_ rfl rfl rfl rfl rfl rfl ?_; rfl; simp only [List.set_cons_zero, List.set_cons_succ]) | (refine SXl.store 1 ?_ rfl rfl rfl rfl rfl rfl ?_; rfl; simp only [List.set_cons_zero, List.set_cons_succ]) | (refine SXl.store 2 ?_ rfl rfl rfl rfl rfl rfl ?_; rfl; simp only [List.set_cons_zero, List.set_cons_succ]) | (refine SXl.storeAll 0 ?_ rfl rfl rfl rfl rfl rfl rfl ?_; rfl; simp only [List.set_cons_zero, List.set_cons_succ]) | (refine SXl.storeAll 1 ?_ rfl rfl rfl rfl rfl rfl rfl ?_; rfl; simp only [List.set_cons_zero, List.set_cons_succ]) | (refine SXl.storeAll 2 ?_ rfl rfl rfl rfl rfl rfl rfl ?_; rfl; simp only [List.set_cons_zero, List.set_cons_succ]) | (refine SXl.storeRow 0 ?_ rfl rfl rfl rfl rfl rfl rfl ?_; rfl; simp only [over, List.set_cons_zero, List.set_cons_succ]) | (refine SXl.storeRow 1 ?_ rfl rfl rfl rfl rfl rfl rfl ?_; rfl; simp only [over, List.set_cons_zero, List.set_cons_succ]) | (refine SXl.storeRow 2 ?_ rfl rfl rfl rfl rfl rfl rfl ?_; rfl; simp only [over, List.set_cons_zero, List.set_cons_succ])))
  refine SX.seq ?_
  repeat (first | refine SXl.nil ?_ | refine SX.region ?_ | refine SQ.thenNormal ?_ | (refine l_makeFuncA ?_; (refine SXl.v (OpW.makeFuncA rfl) rfl ?_ ?_ ?_); rfl; rfl) | (refine l_assign ?_; (refine SXl.v (OpW.assign rfl) rfl ?_ ?_ ?_); rfl; rfl))
  refine SX.seq ?_
  repeat (first | refine SXl.nil ?_ | refine SX.region ?_ | refine SQ.thenNormal ?_ | (refine l_assign ?_; (refine SXl.v (OpW.assign rfl) rfl ?_ ?_ ?_); rfl; rfl))
  refine SX.seq ?_
  skip
  have hL0 := leadOf_any fr l.length justify
  refine SX.join (ι := Unit) (fun _ => True) (fun _ => [⟨g, [.int .i64 0], 3⟩, ⟨gE, [.slice ea C.extra.length ec], 29⟩]) (fun _ => [⟨.slice ea C.extra.length ec, 3, 1, C.extra.length, (C.extra.map icell).flatten⟩, ⟨.slice none 0 0, 3, 1, 0, []⟩]) (fun _ => []) (fun _ => [(0, .slice a l.length c), (1, .slice b s.length d), (2, .int .i64 gap), (4, .int .i64 justify), (15, .int .i64 fr), (16, .int .i64 au), (19, .func (.func 99) #[] #[.pointer (some ⟨g, 0, none⟩), .pointer (some ⟨gE, 0, none⟩)]), (20, .int .i64 C.start)]) ?_ ?_
  · by_cases h1 : au = 0
    · rw [if_pos h1] at hSt
      repeat (first | refine SX.seq ?_ | refine SXl.nil ?_ | refine SX.region ?_ | refine SQ.thenNormal ?_ | refine SX.condT rfl ?_ | (refine l_call ?_; (refine SXl.v (OpW.call rfl (fun w hl => hL0 _ (by omega) (by omega))) rfl ?_ ?_ ?_); rfl; rfl) | (refine l_move ?_; (refine SXl.v (OpW.move rfl) rfl ?_ ?_ ?_); rfl; rfl) | (refine l_assign ?_; (refine SXl.v (OpW.assign rfl) rfl ?_ ?_ ?_); rfl; rfl) | (refine l_len ?_; (refine SXl.v (OpW.len rfl) rfl ?_ ?_ ?_); rfl; rfl) | (refine l_eql ?_; (refine SXl.v (OpW.eqlT rfl rfl (by omega)) rfl ?_ ?_ ?_); rfl; rfl))
      refine SQ.join () trivial ?_ (fun w hl => hl)
      (repeat (first | exact subF_nil _ | (refine subF_cons rfl ?_) | (refine subF_consv rfl (by rw [hSt]) ?_)))
    · rw [if_neg h1] at hSt
      repeat (first | refine SX.seq ?_ | refine SXl.nil ?_ | refine SX.region ?_ | refine SQ.thenNormal ?_ | refine SX.skip ?_ | refine SX.condF rfl ?_ | (refine l_move ?_; (refine SXl.v (OpW.move rfl) rfl ?_ ?_ ?_); rfl; rfl) | (refine l_eql ?_; (refine SXl.v (OpW.eqlF rfl rfl (by omega)) rfl ?_ ?_ ?_); rfl; rfl))
      refine SQ.join () trivial ?_ (fun w hl => hl)
      (repeat (first | exact subF_nil _ | (refine subF_cons rfl ?_) | (refine subF_consv rfl (by rw [hSt]) ?_)))
  rintro _ _
  refine SX.knowI (fun w' hl' => (List.pairwise_cons.1 hl'.apart).1 _ (.head _)) (fun hne => ?_)
  simp only at hne
  revert g
  intro gU hne
  repeat (first | refine SX.seq ?_ | refine SXl.nil ?_ | refine SX.region ?_ | refine SQ.thenNormal ?_ | refine SX.block ?_ | (refine l_move ?_; (refine SXl.v (OpW.move rfl) rfl ?_ ?_ ?_); rfl; rfl) | (refine l_assign ?_; (refine SXl.v (OpW.assign rfl) rfl ?_ ?_ ?_); rfl; rfl) | (refine l_len ?_; (refine SXl.v (OpW.len rfl) rfl ?_ ?_ ?_); rfl; rfl))
  have hG : ∀ (bb : Bool) (u : Nat) (L : List Blk) (O : List Own) (E : List Res) (w' : World), u ≤ 1000 → Loc w (Rg.none w) L O E w' → (⟨gU, [.int .i64 (u : Nat)], 3⟩ : Blk) ∈ L → (⟨gE, [.slice ea C.extra.length ec], 29⟩ : Blk) ∈ L → (⟨.slice ea C.extra.length ec, 3, 1, C.extra.length, (C.extra.map icell).flatten⟩ : Own) ∈ O →
      Calls Try.prog 99 #[.bool bb, .pointer (some ⟨gU, 0, none⟩), .pointer (some ⟨gE, 0, none⟩)] w' fun e w2 => e = .returned (.int .i64 (autoV bb C.extra u)) ∧ Mod (fun k => k = gU) w' w2 ∧ w2.heap[gU]? = some (.cells [Value.int .i64 (u + bb.toNat : Nat)].toArray 3 (0, 0)) := fun bb u L O E w' hu' hl' m1 m2 m3 => by
    exact alongGive_any bb C.extra u gU gE ea ec _ w' (by omega) hu' (hl'.blk _ m1).2 (blk_cell (hl'.blk _ m2).2 rfl) (fun e => hne e.symm) (ownsRow_ints (hl'.own _ m3).1) ((hl'.own _ m3).2 _ m1)
  have hAt := fun k => at_bd (c := C) (by rw [e1]; exact hf) (by rw [e2]; exact hsb) (by rw [e3]; exact hg) (by omega) k
  refine SX.loop3 (fun (k : Nat) (_ : Option Addr × Nat) (_ : Unit) => k ≤ l.length) (fun k _ _ => l.length - k) (fun k _ _ => [⟨gU, [.int .i64 (C.used k : Nat)], 3⟩, ⟨gE, [.slice ea C.extra.length ec], 29⟩]) (fun k q _ => [⟨.slice ea C.extra.length ec, 3, 1, C.extra.length, (C.extra.map icell).flatten⟩, ⟨.slice q.1 k q.2, 3, 1, k, ((C.placesTo k).map icell).flatten⟩]) (fun _ _ _ => []) (fun k q _ => [(0, .slice a l.length c), (1, .slice b s.length d), (2, .int .i64 gap), (4, .int .i64 justify), (15, .int .i64 fr), (16, .int .i64 au), (19, .func (.func 99) #[] #[.pointer (some ⟨gU, 0, none⟩), .pointer (some ⟨gE, 0, none⟩)]), (20, .int .i64 (C.at_ k)), (21, .slice q.1 k q.2), (80, .slice a l.length c), (81, .int .i64 l.length), (82, .int .i64 k)]) 0 (none, 0) () (Nat.zero_le _) ?_ (fun _ hl => hl) ?_
  · (repeat (first | exact subF_nil _ | (refine subF_cons rfl ?_) | (refine subF_consv rfl (by rfl) ?_)))
  rintro k ⟨qa, qc⟩ _ hk
  by_cases hlt : k < l.length
  rotate_left
  · obtain rfl : k = l.length := by omega
    repeat (first | refine SX.seq ?_ | refine SXl.nil ?_ | refine SX.region ?_ | refine SQ.thenNormal ?_ | refine SX.condF rfl ?_ | (refine l_move ?_; (refine SXl.v (OpW.move rfl) rfl ?_ ?_ ?_); rfl; rfl) | (refine l_assign ?_; (refine SXl.v (OpW.assign rfl) rfl ?_ ?_ ?_); rfl; rfl) | (refine l_lss ?_; (refine SXl.v (OpW.lssF rfl rfl (by omega)) rfl ?_ ?_ ?_); rfl; rfl) | refine SX.ret ?_ | refine SX.exit ?_ | refine SQ.thenExit ?_ | refine SQ.blockExit ?_)
    refine SQ.body3 rfl rfl rfl rfl (fun w' hl => ⟨(qa, qc), (congrArg (fun v => Ending.returned (.tuple #[v, _, _])) (lineV_n (C.placesTo_len _) _)).symm, trivial, ?_, hl.mod⟩)
    have := hl.dropO.owns
    show Owns _ w' [lineO (C.placesTo l.length, (qa, qc))]
    rw [lineO_n (C.placesTo_len _)]
    exact this
  simp only
  obtain ⟨b1, o1, x, e11, hR1, hb1, hxk, hc1⟩ := h.get hlt
  subst e11
  obtain ⟨b2, o2, y, e21, hR2, hb2, hyk, hc2⟩ := IntSlice.get h' (k := k) (by omega)
  subst e21
  have hxC : C.l[k]? = some x := by rw [e1]; exact hxk
  have n1 : C.at_ (k + 1) = C.at_ k + C.ahead k + C.behind k + C.gapAt k := rfl
  have n2 : C.place k = C.at_ k + C.ahead k := rfl
  have hu := C.used_next hxC
  have hul := C.used_le (k + 1)
  have hfl := along_flat C k
  have hx := hri x (List.mem_of_getElem? hxk)
  have hy := hsb y (List.mem_of_getElem? hyk.out)
  have hb := hAt k
  have b4 := space_bd C k
  unfold Along.behind at n1
  unfold Along.gapAt at n1
  unfold Along.ahead at n1 n2
  unfold Along.space at n1 b4
  rw [C.item_at hxC, C.size_at (by rw [e2]; exact hyk.out), e1, e3] at n1
  rw [C.item_at hxC] at n2
  rw [e1] at b4
  obtain ⟨-, -, -, -, -, hx6, hx7⟩ := hx
  have b0 := autoV_bd x.autoBefore C.free C.autos (C.used k)
  have b3 := autoV_bd x.autoBehind C.free C.autos (C.used k + x.autoBefore.toNat)
  change -1048577 ≤ autoV x.autoBefore C.extra (C.used k) ∧ autoV x.autoBefore C.extra (C.used k) ≤ 1048577 at b0
  change -1048577 ≤ autoV x.autoBehind C.extra (C.used k + x.autoBefore.toNat) ∧ autoV x.autoBehind C.extra (C.used k + x.autoBefore.toNat) ≤ 1048577 at b3
  have t8 := toNat_le x.autoBefore
  have t9 := toNat_le x.autoBehind
  rw [e6, e4, e5] at n1 b4
  repeat (first | refine SX.seq ?_ | refine SXl.nil ?_ | refine SX.region ?_ | refine SQ.thenNormal ?_ | refine SX.block ?_ | refine SX.skip ?_ | refine SX.condT rfl ?_ | (refine l_load ?_; (refine SXl.v (OpW.loadRowOld rfl hc1 (Item.cells_len x) (Nat.succ_pos _) (fun h => h)) rfl ?_ ?_ ?_); rfl; rfl) | (refine l_move ?_; (refine SXl.v (OpW.move rfl) rfl ?_ ?_ ?_); rfl; rfl) | (refine l_assign ?_; (refine SXl.v (OpW.assign rfl) rfl ?_ ?_ ?_); rfl; rfl) | (refine l_lss ?_; (refine SXl.v (OpW.lssT rfl rfl (by omega)) rfl ?_ ?_ ?_); rfl; rfl) | (refine l_indexAddr ?_; (refine SXl.v (OpW.indexAddr (by omega) rfl rfl) rfl ?_ ?_ ?_); rfl; rfl) | (refine l_alloc ?_; refine SXl.alloc ?_ ?_ (fun g => ?_); rfl; rfl) | (refine l_store ?_; first | (refine SXl.store 0 ?_ rfl rfl rfl rfl rfl rfl ?_; rfl; simp only [List.set_cons_zero, List.set_cons_succ]) | (refine SXl.store 1 ?_ rfl rfl rfl rfl rfl rfl ?_; rfl; simp only [List.set_cons_zero, List.set_cons_succ]) | (refine SXl.store 2 ?_ rfl rfl rfl rfl rfl rfl ?_; rfl; simp only [List.set_cons_zero, List.set_cons_succ]) | (refine SXl.storeAll 0 ?_ rfl rfl rfl rfl rfl rfl rfl ?_; rfl; simp only [List.set_cons_zero, List.set_cons_succ]) | (refine SXl.storeAll 1 ?_ rfl rfl rfl rfl rfl rfl rfl ?_; rfl; simp only [List.set_cons_zero, List.set_cons_succ]) | (refine SXl.storeAll 2 ?_ rfl rfl rfl rfl rfl rfl rfl ?_; rfl; simp only [List.set_cons_zero, List.set_cons_succ]) | (refine SXl.storeRow 0 ?_ rfl rfl rfl rfl rfl rfl rfl ?_; rfl; simp only [over, List.set_cons_zero, List.set_cons_succ]) | (refine SXl.storeRow 1 ?_ rfl rfl rfl rfl rfl rfl rfl ?_; rfl; simp only [over, List.set_cons_zero, List.set_cons_succ]) | (refine SXl.storeRow 2 ?_ rfl rfl rfl rfl rfl rfl rfl ?_; rfl; simp only [over, List.set_cons_zero, List.set_cons_succ])))
  revert g
  intro gI
  obtain ⟨z1, z2, z3, z4, z5, z6, z7, z8, z9⟩ := x
  simp only [Item.cells] at *
  refine SX.drawnG (ζ := Unit) 9 (fun d _ => [⟨gI, [.int .i64 z1, .int .i64 z2, .int .i64 z3, .int .i64 z4, .int .i64 z5, .int .i64 z6, .int .i64 z7, .bool z8, .bool z9], 36⟩, ⟨gU, [.int .i64 ((bif d 6 then C.used k + z8.toNat else C.used k : Nat) : Int)], 3⟩, ⟨gE, [.slice ea C.extra.length ec], 29⟩]) (fun _ _ => [⟨.slice ea C.extra.length ec, 3, 1, C.extra.length, (C.extra.map icell).flatten⟩, ⟨.slice qa k qc, 3, 1, k, ((C.placesTo k).map icell).flatten⟩]) (fun _ _ => []) [(6, fun _ v => v = .int .i64 (autoV z8 C.extra (C.used k))), (7, fun _ v => v = .int .i64 (z6 + autoV z8 C.extra (C.used k))), (8, fun _ v => v = .int .i64 (C.at_ k + (z6 + autoV z8 C.extra (C.used k))))] () (by kernel_rfl) (by kernel_rfl) (by kernel_rfl) ⟨rfl, rfl, rfl⟩ ?_
  repeat (first | (refine SXg.v0 (fun dn x p ha hK => (OpW.load 0 rfl rfl rfl)) rfl (fun _ => rfl) rfl (fun _ _ => ⟨rfl, rfl, rfl⟩) rfl ?_) | (refine SXg.v0 (fun dn x p ha hK => (OpW.fieldAddr rfl)) rfl (fun _ => rfl) rfl (fun _ _ => ⟨rfl, rfl, rfl⟩) rfl ?_) | (refine SXg.v0 (fun dn x p ha hK => (OpW.move rfl)) rfl (fun _ => rfl) rfl (fun _ _ => ⟨rfl, rfl, rfl⟩) rfl ?_))
  refine SXg.l rfl (fun _ => rfl) rfl (fun dn x p ha hk => ?_) ?_
  · have d6 : dn 6 = false := ha.not
    have u6 : upd dn 6 6 = true := rfl
    simp only [d6, cond_true, cond_false, List.append_nil, List.nil_append]
    refine SXl.callA (cells' := [.int .i64 ((C.used k + z8.toNat : Nat) : Int)]) 1 rfl rfl rfl rfl rfl (fun w' hl => hG z8 _ _ _ _ w' (by omega) hl (.tail _ (.head _)) (.tail _ (.tail _ (.head _))) (.head _)) rfl ?_
    refine SXl.nil (SQ.g p _ rfl (fun w hl => ?_) ⟨fun _ => rfl, hk.2.1, hk.2.2.1, trivial⟩)
    simp only [u6, cond_true, cond_false, List.append_nil, List.nil_append]
    exact hl
  refine SXg.l rfl (fun _ => rfl) rfl (fun dn x p ha hk => ?_) ?_
  · have d6 : dn 6 = true := ha.done 6 (by kernel_rfl)
    have u6 : upd dn 7 6 = true := d6
    have d7 : dn 7 = false := ha.not
    have u7 : upd dn 7 7 = true := rfl
    simp only [d6, d7, cond_true, cond_false, List.append_nil, List.nil_append]
    have y6 : x 6 = .int .i64 (autoV z8 C.extra (C.used k)) := hk.1 d6
    simp only [y6]
    repeat (first | refine SXl.nil ?_ | (refine l_add ?_; (refine SXl.v (OpW.addi rfl rfl (by omega) (by omega)) rfl ?_ ?_ ?_); rfl; rfl))
    refine SQ.g p _ rfl (fun w hl => ?_) ⟨hk.1, fun _ => rfl, hk.2.2.1, trivial⟩
    simp only [u6, u7, cond_true, cond_false, List.append_nil, List.nil_append]
    exact hl
  refine SXg.l rfl (fun _ => rfl) rfl (fun dn x p ha hk => ?_) ?_
  · have d7 : dn 7 = true := ha.done 7 (by kernel_rfl)
    have u7 : upd dn 8 7 = true := d7
    have d6 : dn 6 = true := ha.done 6 (by kernel_rfl)
    have u6 : upd dn 8 6 = true := d6
    have d8 : dn 8 = false := ha.not
    have u8 : upd dn 8 8 = true := rfl
    simp only [d7, d6, d8, cond_true, cond_false, List.append_nil, List.nil_append]
    have y7 : x 7 = .int .i64 (z6 + autoV z8 C.extra (C.used k)) := hk.2.1 d7
    simp only [y7]
    repeat (first | refine SXl.nil ?_ | (refine l_add ?_; (refine SXl.v (OpW.addi rfl rfl (by omega) (by omega)) rfl ?_ ?_ ?_); rfl; rfl))
    refine SQ.g p _ rfl (fun w hl => ?_) ⟨hk.1, hk.2.1, fun _ => rfl, trivial⟩
    simp only [u7, u6, u8, cond_true, cond_false, List.append_nil, List.nil_append]
    exact hl
  refine SXg.tail (fun xq p2 hkq => ?_)
  have y8 : xq 8 = .int .i64 (C.at_ k + (z6 + autoV z8 C.extra (C.used k))) := hkq.2.2.1 rfl
  simp only [y8]
  change SXl _ _ _ _ _ [⟨gI, [.int .i64 z1, .int .i64 z2, .int .i64 z3, .int .i64 z4, .int .i64 z5, .int .i64 z6, .int .i64 z7, .bool z8, .bool z9], 36⟩, ⟨gU, [.int .i64 ((C.used k + z8.toNat : Nat) : Int)], 3⟩, ⟨gE, [.slice ea C.extra.length ec], 29⟩] [⟨.slice ea C.extra.length ec, 3, 1, C.extra.length, (C.extra.map icell).flatten⟩, ⟨.slice qa k qc, 3, 1, k, ((C.placesTo k).map icell).flatten⟩] [] _ _ _
  repeat (first | refine SX.seq ?_ | refine SXl.nil ?_ | refine SX.region ?_ | refine SQ.thenNormal ?_ | (refine l_move ?_; (refine SXl.v (OpW.move rfl) rfl ?_ ?_ ?_); rfl; rfl) | (refine l_assign ?_; (refine SXl.v (OpW.assign rfl) rfl ?_ ?_ ?_); rfl; rfl) | (refine l_buildSlice ?_; first | (refine SXl.lit1 ?_ ?_ rfl rfl rfl (fun g => ?_); rfl; rfl) | (refine SXl.lit0 ?_ ?_ (fun _ h => h) rfl (fun g => ?_); rfl; rfl)) | (refine l_append ?_; first | (refine SXl.append 0 0 rfl rfl rfl rfl rfl rfl rfl rfl (by omega) (by omega) (fun a c => ?_); simp only [List.set_cons_zero, List.set_cons_succ]) | (refine SXl.append 1 0 rfl rfl rfl rfl rfl rfl rfl rfl (by omega) (by omega) (fun a c => ?_); simp only [List.set_cons_zero, List.set_cons_succ])))
  rw [hfl _ n2.symm]
  revert g
  intro gL
  revert a c
  intro pa pc
  refine SX.drawnG (ζ := Unit) 14 (fun d _ => [⟨gL, [.int .i64 (C.at_ k + (z6 + autoV z8 C.extra (C.used k)))], 3⟩, ⟨gI, [.int .i64 z1, .int .i64 z2, .int .i64 z3, .int .i64 z4, .int .i64 z5, .int .i64 z6, .int .i64 z7, .bool z8, .bool z9], 36⟩, ⟨gU, [.int .i64 ((bif d 11 then C.used k + z8.toNat + z9.toNat else C.used k + z8.toNat : Nat) : Int)], 3⟩, ⟨gE, [.slice ea C.extra.length ec], 29⟩]) (fun _ _ => [⟨.slice ea C.extra.length ec, 3, 1, C.extra.length, (C.extra.map icell).flatten⟩, ⟨.slice pa (k + 1) pc, 3, 1, (k + 1), ((C.placesTo (k + 1)).map icell).flatten⟩]) (fun _ _ => []) [(11, fun _ v => v = .int .i64 (autoV z9 C.extra (C.used k + z8.toNat))), (12, fun _ v => v = .int .i64 (y + z7 + autoV z9 C.extra (C.used k + z8.toNat))), (13, fun _ v => v = .int .i64 (C.at_ k + (z6 + autoV z8 C.extra (C.used k)) + (y + z7 + autoV z9 C.extra (C.used k + z8.toNat))))] () (by kernel_rfl) (by kernel_rfl) (by kernel_rfl) ⟨rfl, rfl, rfl⟩ ?_
  repeat (first | (refine SXg.v0 (fun dn x p ha hK => (OpW.load 1 rfl rfl rfl)) rfl (fun _ => rfl) rfl (fun _ _ => ⟨rfl, rfl, rfl⟩) rfl ?_) | (refine SXg.v0 (fun dn x p ha hK => (OpW.loadOld rfl (by assumption) (fun h => h))) rfl (fun _ => rfl) rfl (fun _ _ => ⟨rfl, rfl, rfl⟩) rfl ?_) | (refine SXg.v0 (fun dn x p ha hK => (OpW.fieldAddr rfl)) rfl (fun _ => rfl) rfl (fun _ _ => ⟨rfl, rfl, rfl⟩) rfl ?_) | (refine SXg.v0 (fun dn x p ha hK => (OpW.move rfl)) rfl (fun _ => rfl) rfl (fun _ _ => ⟨rfl, rfl, rfl⟩) rfl ?_) | (refine SXg.v0 (fun dn x p ha hK => (OpW.addi rfl rfl (by omega) (by omega))) rfl (fun _ => rfl) rfl (fun _ _ => ⟨rfl, rfl, rfl⟩) rfl ?_) | (refine SXg.v0 (fun dn x p ha hK => (OpW.indexAddr1 (by omega) rfl rfl)) rfl (fun _ => rfl) rfl (fun _ _ => ⟨rfl, rfl, rfl⟩) rfl ?_))
  refine SXg.l rfl (fun _ => rfl) rfl (fun dn x p ha hk => ?_) ?_
  · have d11 : dn 11 = false := ha.not
    have u11 : upd dn 11 11 = true := rfl
    simp only [d11, cond_true, cond_false, List.append_nil, List.nil_append]
    refine SXl.callA (cells' := [.int .i64 ((C.used k + z8.toNat + z9.toNat : Nat) : Int)]) 2 rfl rfl rfl rfl rfl (fun w' hl => hG z9 _ _ _ _ w' (by omega) hl (.tail _ (.tail _ (.head _))) (.tail _ (.tail _ (.tail _ (.head _)))) (.head _)) rfl ?_
    refine SXl.nil (SQ.g p _ rfl (fun w hl => ?_) ⟨fun _ => rfl, hk.2.1, hk.2.2.1, trivial⟩)
    simp only [u11, cond_true, cond_false, List.append_nil, List.nil_append]
    exact hl
  refine SXg.l rfl (fun _ => rfl) rfl (fun dn x p ha hk => ?_) ?_
  · have d11 : dn 11 = true := ha.done 11 (by kernel_rfl)
    have u11 : upd dn 12 11 = true := d11
    have d12 : dn 12 = false := ha.not
    have u12 : upd dn 12 12 = true := rfl
    simp only [d11, d12, cond_true, cond_false, List.append_nil, List.nil_append]
    have y6 : x 11 = .int .i64 (autoV z9 C.extra (C.used k + z8.toNat)) := hk.1 d11
    simp only [y6]
    repeat (first | refine SXl.nil ?_ | (refine l_add ?_; (refine SXl.v (OpW.addi rfl rfl (by omega) (by omega)) rfl ?_ ?_ ?_); rfl; rfl))
    refine SQ.g p _ rfl (fun w hl => ?_) ⟨hk.1, fun _ => rfl, hk.2.2.1, trivial⟩
    simp only [u11, u12, cond_true, cond_false, List.append_nil, List.nil_append]
    exact hl
  refine SXg.l rfl (fun _ => rfl) rfl (fun dn x p ha hk => ?_) ?_
  · have d12 : dn 12 = true := ha.done 12 (by kernel_rfl)
    have u12 : upd dn 13 12 = true := d12
    have d11 : dn 11 = true := ha.done 11 (by kernel_rfl)
    have u11 : upd dn 13 11 = true := d11
    have d13 : dn 13 = false := ha.not
    have u13 : upd dn 13 13 = true := rfl
    simp only [d12, d11, d13, cond_true, cond_false, List.append_nil, List.nil_append]
    have y7 : x 12 = .int .i64 (y + z7 + autoV z9 C.extra (C.used k + z8.toNat)) := hk.2.1 d12
    simp only [y7]
    repeat (first | refine SXl.nil ?_ | (refine l_add ?_; (refine SXl.v (OpW.addi rfl rfl (by omega) (by omega)) rfl ?_ ?_ ?_); rfl; rfl))
    refine SQ.g p _ rfl (fun w hl => ?_) ⟨hk.1, hk.2.1, fun _ => rfl, trivial⟩
    simp only [u12, u11, u13, cond_true, cond_false, List.append_nil, List.nil_append]
    exact hl
  refine SXg.tail (fun xq2 p3 hkq2 => ?_)
  have y8 : xq2 13 = .int .i64 (C.at_ k + (z6 + autoV z8 C.extra (C.used k)) + (y + z7 + autoV z9 C.extra (C.used k + z8.toNat))) := hkq2.2.2.1 rfl
  simp only [y8]
  change SXl _ _ _ _ _ [⟨gL, [.int .i64 (C.at_ k + (z6 + autoV z8 C.extra (C.used k)))], 3⟩, ⟨gI, [.int .i64 z1, .int .i64 z2, .int .i64 z3, .int .i64 z4, .int .i64 z5, .int .i64 z6, .int .i64 z7, .bool z8, .bool z9], 36⟩, ⟨gU, [.int .i64 ((C.used k + z8.toNat + z9.toNat : Nat) : Int)], 3⟩, ⟨gE, [.slice ea C.extra.length ec], 29⟩] [⟨.slice ea C.extra.length ec, 3, 1, C.extra.length, (C.extra.map icell).flatten⟩, ⟨.slice pa (k + 1) pc, 3, 1, (k + 1), ((C.placesTo (k + 1)).map icell).flatten⟩] [] _ _ _
  by_cases h3 : k + 1 < l.length
  · rw [if_pos h3] at n1
    by_cases h4 : au = 0
    · rw [if_pos h4] at n1 b4
      repeat (first | refine SX.seq ?_ | refine SXl.nil ?_ | refine SX.region ?_ | refine SQ.thenNormal ?_ | refine SX.condT rfl ?_ | (refine l_call ?_; (refine SXl.v (OpW.call rfl (fun w hl => betweenOf_any fr l.length justify k _ (by omega) (by omega) (by omega) (by omega) (by omega) (by omega))) rfl ?_ ?_ ?_); rfl; rfl) | (refine l_move ?_; (refine SXl.v (OpW.move rfl) rfl ?_ ?_ ?_); rfl; rfl) | (refine l_assign ?_; (refine SXl.v (OpW.assign rfl) rfl ?_ ?_ ?_); rfl; rfl) | (refine l_len ?_; (refine SXl.v (OpW.len rfl) rfl ?_ ?_ ?_); rfl; rfl) | (refine l_add ?_; (first | refine SXl.v (OpW.succ rfl rfl (by omega)) rfl ?_ ?_ ?_ | refine SXl.v (OpW.addi rfl rfl (by omega) (by omega)) rfl ?_ ?_ ?_); rfl; rfl) | (refine l_eql ?_; (refine SXl.v (OpW.eqlT rfl rfl (by omega)) rfl ?_ ?_ ?_); rfl; rfl) | (refine l_lss ?_; (refine SXl.v (OpW.lssT rfl rfl (by omega)) rfl ?_ ?_ ?_); rfl; rfl) | refine SQ.blockNormal ?_)
      refine SQ.round3 (k + 1) (pa, pc) () (by omega) (by omega) ?_ (fun w hl => by rw [hu, ← Nat.add_assoc]; exact hl.drop1.drop1)
      (repeat (first | exact subF_nil _ | (refine subF_cons rfl ?_) | (refine subF_consv rfl (by congr 1; omega) ?_)))
    · rw [if_neg h4] at n1 b4
      repeat (first | refine SX.seq ?_ | refine SXl.nil ?_ | refine SX.region ?_ | refine SQ.thenNormal ?_ | refine SX.skip ?_ | refine SX.condT rfl ?_ | refine SX.condF rfl ?_ | (refine l_move ?_; (refine SXl.v (OpW.move rfl) rfl ?_ ?_ ?_); rfl; rfl) | (refine l_assign ?_; (refine SXl.v (OpW.assign rfl) rfl ?_ ?_ ?_); rfl; rfl) | (refine l_len ?_; (refine SXl.v (OpW.len rfl) rfl ?_ ?_ ?_); rfl; rfl) | (refine l_add ?_; (first | refine SXl.v (OpW.succ rfl rfl (by omega)) rfl ?_ ?_ ?_ | refine SXl.v (OpW.addi rfl rfl (by omega) (by omega)) rfl ?_ ?_ ?_); rfl; rfl) | (refine l_eql ?_; (refine SXl.v (OpW.eqlF rfl rfl (by omega)) rfl ?_ ?_ ?_); rfl; rfl) | (refine l_lss ?_; (refine SXl.v (OpW.lssT rfl rfl (by omega)) rfl ?_ ?_ ?_); rfl; rfl) | refine SQ.blockNormal ?_)
      refine SQ.round3 (k + 1) (pa, pc) () (by omega) (by omega) ?_ (fun w hl => by rw [hu, ← Nat.add_assoc]; exact hl.drop1.drop1)
      (repeat (first | exact subF_nil _ | (refine subF_cons rfl ?_) | (refine subF_consv rfl (by congr 1; omega) ?_)))
  · rw [if_neg h3] at n1
    repeat (first | refine SX.seq ?_ | refine SXl.nil ?_ | refine SX.region ?_ | refine SQ.thenNormal ?_ | refine SX.skip ?_ | refine SX.condF rfl ?_ | (refine l_move ?_; (refine SXl.v (OpW.move rfl) rfl ?_ ?_ ?_); rfl; rfl) | (refine l_assign ?_; (refine SXl.v (OpW.assign rfl) rfl ?_ ?_ ?_); rfl; rfl) | (refine l_len ?_; (refine SXl.v (OpW.len rfl) rfl ?_ ?_ ?_); rfl; rfl) | (refine l_add ?_; (refine SXl.v (OpW.succ rfl rfl (by omega)) rfl ?_ ?_ ?_); rfl; rfl) | (refine l_lss ?_; (refine SXl.v (OpW.lssF rfl rfl (by omega)) rfl ?_ ?_ ?_); rfl; rfl) | refine SQ.blockNormal ?_)
    refine SQ.round3 (k + 1) (pa, pc) () (by omega) (by omega) ?_ (fun w hl => by rw [hu, ← Nat.add_assoc]; exact hl.drop1.drop1)
    (repeat (first | exact subF_nil _ | (refine subF_cons rfl ?_) | (refine subF_consv rfl (by congr 1; omega) ?_)))
set_option maxRecDepth 100000 in
set_option maxHeartbeats 8000000 in
theorem placesAlong_any (l : List Item) (s : List Int) (gap inner justify : Int) (a b : Option Addr) (c d : Nat) (R S : Nat → Prop) (w : World) (hlen : l.length ≤ 1048576) (hslen : s.length ≤ 1048576) (h : ItemSlice R w a l) (h' : IntSlice S w b s) :
    Calls Try.prog 34 #[.slice a l.length c, .slice b s.length d, .int .i64 gap, .int .i64 inner, .int .i64 justify] w (NewO (Option Addr × Nat) (fun q => lineV (alongPlaces l s gap inner justify, q)) (fun q => [lineO (alongPlaces l s gap inner justify, q)]) (fun _ => True) w) := by
  refine calls_sx Try.func34 rfl rfl (fun a h1 h2 h3 => (((((Fr.nil h1 h2).arg (h3 4 _ rfl)).arg (h3 3 _ rfl)).arg (h3 2 _ rfl)).arg (h3 1 _ rfl)).arg (h3 0 _ rfl)) ?_
  have hL := fun (w' : World) (hm : Mod (fun _ => False) w w') => along_any l s gap inner justify a b c d R S w' hlen hslen (h.flatKeep hm) (SliceAt.flatKeep h' hm)
  repeat (first | refine SX.seq ?_ | refine SXl.nil ?_ | refine SX.region ?_ | refine SQ.thenNormal ?_ | (refine l_move ?_; (refine SXl.v (OpW.move rfl) rfl ?_ ?_ ?_); rfl; rfl) | (refine l_assign ?_; (refine SXl.v (OpW.assign rfl) rfl ?_ ?_ ?_); rfl; rfl))
  refine l_call ?_
  refine SXl.callO rfl rfl rfl (fun w' hl => hL w' hl.mod) (fun q _ => ?_)
  simp only [List.cons_append, List.nil_append]
  repeat (first | refine SX.seq ?_ | refine SXl.nil ?_ | refine SX.region ?_ | refine SQ.thenNormal ?_ | (refine l_move ?_; (refine SXl.v (OpW.move rfl) rfl ?_ ?_ ?_); rfl; rfl) | (refine l_assign ?_; (refine SXl.v (OpW.assign rfl) rfl ?_ ?_ ?_); rfl; rfl) | (refine l_extract ?_; (refine SXl.v (OpW.extract rfl rfl) rfl ?_ ?_ ?_); rfl; rfl) | refine SX.ret ?_)
  refine SQ.body1 rfl rfl (fun w' hl => ⟨q, rfl, trivial, hl.owns, hl.mod⟩)
set_option maxRecDepth 100000 in
set_option maxHeartbeats 8000000 in
theorem endsAlong_any (l : List Item) (s : List Int) (gap inner justify : Int) (a b : Option Addr) (c d : Nat) (R S : Nat → Prop) (w : World) (hlen : l.length ≤ 1048576) (hslen : s.length ≤ 1048576) (h : ItemSlice R w a l) (h' : IntSlice S w b s) :
    Calls Try.prog 35 #[.slice a l.length c, .slice b s.length d, .int .i64 gap, .int .i64 inner, .int .i64 justify] w fun e w' => e = .returned (.int .i64 (alongEnd l s gap inner justify)) ∧ Mod (fun _ => False) w w' := by
  refine calls_sx Try.func35 rfl rfl (fun a h1 h2 h3 => (((((Fr.nil h1 h2).arg (h3 4 _ rfl)).arg (h3 3 _ rfl)).arg (h3 2 _ rfl)).arg (h3 1 _ rfl)).arg (h3 0 _ rfl)) ?_
  have hL := fun (w' : World) (hm : Mod (fun _ => False) w w') => along_any l s gap inner justify a b c d R S w' hlen hslen (h.flatKeep hm) (SliceAt.flatKeep h' hm)
  repeat (first | refine SX.seq ?_ | refine SXl.nil ?_ | refine SX.region ?_ | refine SQ.thenNormal ?_ | (refine l_move ?_; (refine SXl.v (OpW.move rfl) rfl ?_ ?_ ?_); rfl; rfl) | (refine l_assign ?_; (refine SXl.v (OpW.assign rfl) rfl ?_ ?_ ?_); rfl; rfl))
  refine l_call ?_
  refine SXl.callO rfl rfl rfl (fun w' hl => hL w' hl.mod) (fun q _ => ?_)
  simp only [List.cons_append, List.nil_append, lineV]
  by_cases h0 : (alongPlaces l s gap inner justify).length = 0
  · rw [alongEnd_none h0, h0]
    repeat (first | refine SX.seq ?_ | refine SXl.nil ?_ | refine SX.region ?_ | refine SQ.thenNormal ?_ | refine SX.condT rfl ?_ | (refine l_move ?_; (refine SXl.v (OpW.move rfl) rfl ?_ ?_ ?_); rfl; rfl) | (refine l_assign ?_; (refine SXl.v (OpW.assign rfl) rfl ?_ ?_ ?_); rfl; rfl) | (refine l_len ?_; (refine SXl.v (OpW.len rfl) rfl ?_ ?_ ?_); rfl; rfl) | (refine l_eql ?_; (refine SXl.v (OpW.eqlT rfl rfl (by omega)) rfl ?_ ?_ ?_); rfl; rfl) | (refine l_extract ?_; (refine SXl.v (OpW.extract rfl rfl) rfl ?_ ?_ ?_); rfl; rfl) | refine SX.ret ?_ | refine SQ.thenRet ?_)
    refine SQ.body1 rfl rfl (fun w' hl => ⟨rfl, hl.mod⟩)
  · have := alongPlaces_le (l := l) (s := s) (gap := gap) (inner := inner) (justify := justify)
    repeat (first | refine SX.seq ?_ | refine SXl.nil ?_ | refine SX.region ?_ | refine SQ.thenNormal ?_ | refine SX.skip ?_ | refine SX.condF rfl ?_ | (refine l_move ?_; (refine SXl.v (OpW.move rfl) rfl ?_ ?_ ?_); rfl; rfl) | (refine l_assign ?_; (refine SXl.v (OpW.assign rfl) rfl ?_ ?_ ?_); rfl; rfl) | (refine l_len ?_; (refine SXl.v (OpW.len rfl) rfl ?_ ?_ ?_); rfl; rfl) | (refine l_eql ?_; (refine SXl.v (OpW.eqlF rfl rfl (by omega)) rfl ?_ ?_ ?_); rfl; rfl) | (refine l_extract ?_; (refine SXl.v (OpW.extract rfl rfl) rfl ?_ ?_ ?_); rfl; rfl) | refine SX.ret ?_)
    refine SQ.body1 rfl rfl (fun w' hl => ⟨rfl, hl.mod⟩)
end Go.Proofs.Ytdohglcjjlmhhaa
namespace Go.Proofs.Ytdohglcjjlmhhaa
open Go.RowKit
set_option linter.unusedVariables false
set_option linter.unusedSimpArgs false

theorem items_addr {base : Nat} {w : World} {l : List Item} {a : Option Addr} {c : Nat} {os : List Own} (h : Owns base w os) (hm : (⟨.slice a l.length c, 36, 9, l.length, (l.map Item.cells).flatten⟩ : Own) ∈ os) (h0 : 0 < l.length) : ∃ g, a = some ⟨g, 0, none⟩ := by
  rcases own_parts (h.row _ hm) with h1 | ⟨b, h1, _⟩
  · omega
  · exact ⟨b, h1⟩
theorem FitItems.head {m : Nat} {x y : Item} {l : List Item} (h : FitItems m (x :: l)) (hy : y.Fits) : FitItems m (y :: l) := ⟨fun z hz => by
  rcases List.mem_cons.1 hz with rfl | hz
  · exact hy
  · exact h.1 z (List.mem_cons_of_mem _ hz), h.2⟩
theorem FitItems.mono {m n : Nat} {l : List Item} (h : FitItems m l) (hn : m ≤ n) : FitItems n l := ⟨h.1, Nat.le_trans h.2 hn⟩
set_option maxRecDepth 100000 in
set_option maxHeartbeats 8000000 in
theorem l13Any_d (B gc : Nat) (w : World) (hc : Cur B 116 w gc) : Calls Try.prog 58 #[.pointer (some ⟨gc, 0, none⟩)] w (DrewO ItemsQ 116 B gc ItemsQ.v ItemsQ.os (fun q => FitItems 13 q.xs) w) := by
  refine calls_draw (as_ := [.pointer (some ⟨gc, 0, none⟩)]) hc Try.func58 rfl rfl (fun a h1 h2 h3 => ((Fr.nil h1 h2).arg (h3 0 _ rfl))) ?_
  repeat (first | refine SX.seq ?_ | refine SXl.nil ?_ | refine SX.region ?_ | refine SQ.thenNormal ?_ | (refine l_move ?_; (refine SXl.v (OpW.move rfl) rfl ?_ ?_ ?_); rfl; rfl) | (refine l_assign ?_; (refine SXl.v (OpW.assign rfl) rfl ?_ ?_ ?_); rfl; rfl))
  refine l_call ?_
  refine SXl.drawOJ rfl rfl rfl (fun w hl => l13Items_d B gc w hl.inv) (fun q hq => ?_)
  obtain ⟨xs, qa, qc⟩ := q
  simp only at hq
  simp only [ItemsQ.v, ItemsQ.os, List.append_nil]
  repeat (first | refine SX.seq ?_ | refine SXl.nil ?_ | refine SX.region ?_ | refine SQ.thenNormal ?_ | (refine l_move ?_; (refine SXl.v (OpW.move rfl) rfl ?_ ?_ ?_); rfl; rfl) | (refine l_assign ?_; (refine SXl.v (OpW.assign rfl) rfl ?_ ?_ ?_); rfl; rfl) | (refine l_len ?_; (refine SXl.v (OpW.len rfl) rfl ?_ ?_ ?_); rfl; rfl) | (refine l_gtr ?_; (refine SXl.v (OpW.gtr rfl rfl) rfl ?_ ?_ ?_); rfl; rfl))
  refine SX.join (ι := ItemsQ) (fun q => FitItems 6 q.xs) (fun _ => []) (fun q => q.os) (fun _ => []) (fun q => [(0, .pointer (some ⟨gc, 0, none⟩)), (3, q.v)]) ?_ ?_
  · have hstay : FitItems 6 xs := hq
    cases xs with
    | nil =>
      repeat (first | refine SX.skip ?_ | refine SX.condF rfl ?_)
      refine SQ.join ⟨[], qa, qc⟩ hq ?_ (fun _ hl => hl)
      (repeat (first | exact subF_nil _ | (refine subF_cons rfl ?_) | (refine subF_consv rfl (by rfl) ?_)))
    | cons x rest =>
      have hx := hq.1 x List.mem_cons_self
      refine SX.knowI (fun w hl => items_addr hl.owns (.head _) (by simp)) (fun ⟨gq, hgq⟩ => ?_)
      subst hgq
      have hpos : 0 < (x :: rest).length := by simp
      have hfl : 9 ≤ ((x :: rest).map Item.cells).flatten.length := by rw [flat_length Item.cells_len]; omega
      have hp2 : decide ((0 : Int) < ((x :: rest).length : Int)) = true := decide_eq_true (by omega)
      repeat (first | refine SX.seq ?_ | refine SX.region ?_ | refine SX.condT rfl ?_ | (refine l_move ?_; (refine SXl.v (OpW.move rfl) rfl ?_ ?_ ?_); rfl; rfl) | (rw [hp2]))
      refine l_call ?_
      refine SXl.draw (ξ := Int) (v := fun x : Int => .int .i64 x) rfl rfl rfl (fun x => 0 ≤ x ∧ x < 16) (fun w hl => below_d B gc w hl.inv 16 (by decide) (by decide)) (fun y hy => ?_)
      by_cases y0 : y = 0
      · repeat (first | refine SX.seq ?_ | refine SXl.nil ?_ | refine SX.region ?_ | refine SQ.thenNormal ?_ | refine SX.block ?_ | refine SX.condT rfl ?_ | (refine l_move ?_; (refine SXl.v (OpW.move rfl) rfl ?_ ?_ ?_); rfl; rfl) | (refine l_assign ?_; (refine SXl.v (OpW.assign rfl) rfl ?_ ?_ ?_); rfl; rfl) | (refine l_eql ?_; (refine SXl.v (OpW.eqlT rfl rfl (by omega)) rfl ?_ ?_ ?_); rfl; rfl))
        refine l_buildSlice ?_
        refine SXl.lit (cells := ([-1, 1048576, 1048577] : List Int).map (.int .i64)) (z := .int .i64 0) ?_ ?_ rfl (by decide) (by kernel_rfl) rfl (fun gl => ?_)
        rfl; rfl
        skip
        refine l_call ?_
        refine SXl.draw (ξ := Int) (v := fun x => .int .i64 x) rfl rfl rfl (fun x => x ∈ ([-1, 1048576, 1048577] : List Int)) (fun w hl => pick_d (l := ([-1, 1048576, 1048577] : List Int)) hl (by simp) (by simp)) (fun v hv => ?_)
        refine SXl.drop1 ?_
        have hv2 : -1 ≤ v ∧ v ≤ 1048577 := by simp at hv; omega
        repeat (first | (refine l_indexAddr ?_; (refine SXl.v ((OpW.indexAddr (i := 0) hpos rfl rfl)) rfl ?_ ?_ ?_); rfl; rfl) | (refine l_fieldAddr ?_; (refine SXl.v (OpW.fieldAddr rfl) rfl ?_ ?_ ?_); rfl; rfl))
        refine l_store ?_
        refine SXl.storeOwn (xs := ((x :: rest).map Item.cells).flatten) 0 rfl rfl rfl rfl (by omega) rfl rfl ?_
        repeat (first | refine SXl.nil ?_ | refine SQ.blockNormal ?_)
        refine SQ.join ⟨{ x with base := v } :: rest, some ⟨gq, 0, none⟩, qc⟩ (hq.head (by obtain ⟨q1, q2, q3, q4, q5, q6, q7⟩ := hx; exact ⟨⟨by show (-2097152 : Int) ≤ v; omega, by show (v : Int) ≤ 2097152; omega⟩, q2, q3, q4, q5, q6, q7⟩)) ?_ (fun _ hl => hl)
        (repeat (first | exact subF_nil _ | (refine subF_cons rfl ?_) | (refine subF_consv rfl (by rfl) ?_)))
      by_cases y1 : y = 1
      · repeat (first | refine SX.seq ?_ | refine SXl.nil ?_ | refine SX.region ?_ | refine SQ.thenNormal ?_ | refine SX.block ?_ | refine SX.condT rfl ?_ | refine SX.condF rfl ?_ | (refine l_move ?_; (refine SXl.v (OpW.move rfl) rfl ?_ ?_ ?_); rfl; rfl) | (refine l_assign ?_; (refine SXl.v (OpW.assign rfl) rfl ?_ ?_ ?_); rfl; rfl) | (refine l_eql ?_; (first | refine SXl.v (OpW.eqlT rfl rfl (by omega)) rfl ?_ ?_ ?_ | refine SXl.v (OpW.eqlF rfl rfl (by omega)) rfl ?_ ?_ ?_); rfl; rfl))
        refine l_buildSlice ?_
        refine SXl.lit (cells := ([-1, 1000, 1001] : List Int).map (.int .i64)) (z := .int .i64 0) ?_ ?_ rfl (by decide) (by kernel_rfl) rfl (fun gl => ?_)
        rfl; rfl
        skip
        refine l_call ?_
        refine SXl.draw (ξ := Int) (v := fun x => .int .i64 x) rfl rfl rfl (fun x => x ∈ ([-1, 1000, 1001] : List Int)) (fun w hl => pick_d (l := ([-1, 1000, 1001] : List Int)) hl (by simp) (by simp)) (fun v hv => ?_)
        refine SXl.drop1 ?_
        have hv2 : -1 ≤ v ∧ v ≤ 1001 := by simp at hv; omega
        repeat (first | (refine l_indexAddr ?_; (refine SXl.v ((OpW.indexAddr (i := 0) hpos rfl rfl)) rfl ?_ ?_ ?_); rfl; rfl) | (refine l_fieldAddr ?_; (refine SXl.v (OpW.fieldAddr rfl) rfl ?_ ?_ ?_); rfl; rfl))
        refine l_store ?_
        refine SXl.storeOwn (xs := ((x :: rest).map Item.cells).flatten) 0 rfl rfl rfl rfl (by omega) rfl rfl ?_
        repeat (first | refine SXl.nil ?_ | refine SQ.blockNormal ?_)
        refine SQ.join ⟨{ x with grow := v } :: rest, some ⟨gq, 0, none⟩, qc⟩ (hq.head (by obtain ⟨q1, q2, q3, q4, q5, q6, q7⟩ := hx; exact ⟨q1, q2, q3, q4, q5, ⟨by show (-2097152 : Int) ≤ v; omega, by show (v : Int) ≤ 2097152; omega⟩, q7⟩)) ?_ (fun _ hl => hl)
        (repeat (first | exact subF_nil _ | (refine subF_cons rfl ?_) | (refine subF_consv rfl (by rfl) ?_)))
      by_cases y2 : y = 2
      · repeat (first | refine SX.seq ?_ | refine SXl.nil ?_ | refine SX.region ?_ | refine SQ.thenNormal ?_ | refine SX.block ?_ | refine SX.condT rfl ?_ | refine SX.condF rfl ?_ | (refine l_move ?_; (refine SXl.v (OpW.move rfl) rfl ?_ ?_ ?_); rfl; rfl) | (refine l_assign ?_; (refine SXl.v (OpW.assign rfl) rfl ?_ ?_ ?_); rfl; rfl) | (refine l_eql ?_; (first | refine SXl.v (OpW.eqlT rfl rfl (by omega)) rfl ?_ ?_ ?_ | refine SXl.v (OpW.eqlF rfl rfl (by omega)) rfl ?_ ?_ ?_); rfl; rfl))
        refine l_buildSlice ?_
        refine SXl.lit (cells := ([-2, 1048577, 0] : List Int).map (.int .i64)) (z := .int .i64 0) ?_ ?_ rfl (by decide) (by kernel_rfl) rfl (fun gl => ?_)
        rfl; rfl
        skip
        refine l_call ?_
        refine SXl.draw (ξ := Int) (v := fun x => .int .i64 x) rfl rfl rfl (fun x => x ∈ ([-2, 1048577, 0] : List Int)) (fun w hl => pick_d (l := ([-2, 1048577, 0] : List Int)) hl (by simp) (by simp)) (fun v hv => ?_)
        refine SXl.drop1 ?_
        have hv2 : -2 ≤ v ∧ v ≤ 1048577 := by simp at hv; omega
        repeat (first | (refine l_indexAddr ?_; (refine SXl.v ((OpW.indexAddr (i := 0) hpos rfl rfl)) rfl ?_ ?_ ?_); rfl; rfl) | (refine l_fieldAddr ?_; (refine SXl.v (OpW.fieldAddr rfl) rfl ?_ ?_ ?_); rfl; rfl))
        refine l_store ?_
        refine SXl.storeOwn (xs := ((x :: rest).map Item.cells).flatten) 0 rfl rfl rfl rfl (by omega) rfl rfl ?_
        repeat (first | refine SXl.nil ?_ | refine SQ.blockNormal ?_)
        refine SQ.join ⟨{ x with most := v } :: rest, some ⟨gq, 0, none⟩, qc⟩ (hq.head (by obtain ⟨q1, q2, q3, q4, q5, q6, q7⟩ := hx; exact ⟨q1, q2, ⟨by show (-2097152 : Int) ≤ v; omega, by show (v : Int) ≤ 2097152; omega⟩, q4, q5, q6, q7⟩)) ?_ (fun _ hl => hl)
        (repeat (first | exact subF_nil _ | (refine subF_cons rfl ?_) | (refine subF_consv rfl (by rfl) ?_)))
      by_cases y3 : y = 3
      · repeat (first | refine SX.seq ?_ | refine SXl.nil ?_ | refine SX.region ?_ | refine SQ.thenNormal ?_ | refine SX.block ?_ | refine SX.condT rfl ?_ | refine SX.condF rfl ?_ | (refine l_move ?_; (refine SXl.v (OpW.move rfl) rfl ?_ ?_ ?_); rfl; rfl) | (refine l_assign ?_; (refine SXl.v (OpW.assign rfl) rfl ?_ ?_ ?_); rfl; rfl) | (refine l_eql ?_; (first | refine SXl.v (OpW.eqlT rfl rfl (by omega)) rfl ?_ ?_ ?_ | refine SXl.v (OpW.eqlF rfl rfl (by omega)) rfl ?_ ?_ ?_); rfl; rfl))
        refine l_buildSlice ?_
        refine SXl.lit (cells := ([1048577, -1048576, 1048576] : List Int).map (.int .i64)) (z := .int .i64 0) ?_ ?_ rfl (by decide) (by kernel_rfl) rfl (fun gl => ?_)
        rfl; rfl
        skip
        refine l_call ?_
        refine SXl.draw (ξ := Int) (v := fun x => .int .i64 x) rfl rfl rfl (fun x => x ∈ ([1048577, -1048576, 1048576] : List Int)) (fun w hl => pick_d (l := ([1048577, -1048576, 1048576] : List Int)) hl (by simp) (by simp)) (fun v hv => ?_)
        refine SXl.drop1 ?_
        have hv2 : -1048576 ≤ v ∧ v ≤ 1048577 := by simp at hv; omega
        repeat (first | (refine l_indexAddr ?_; (refine SXl.v ((OpW.indexAddr (i := 0) hpos rfl rfl)) rfl ?_ ?_ ?_); rfl; rfl) | (refine l_fieldAddr ?_; (refine SXl.v (OpW.fieldAddr rfl) rfl ?_ ?_ ?_); rfl; rfl))
        refine l_store ?_
        refine SXl.storeOwn (xs := ((x :: rest).map Item.cells).flatten) 0 rfl rfl rfl rfl (by omega) rfl rfl ?_
        repeat (first | refine SXl.nil ?_ | refine SQ.blockNormal ?_)
        refine SQ.join ⟨{ x with before := v } :: rest, some ⟨gq, 0, none⟩, qc⟩ (hq.head (by obtain ⟨q1, q2, q3, q4, q5, q6, q7⟩ := hx; exact ⟨q1, q2, q3, ⟨by show (-2097152 : Int) ≤ v; omega, by show (v : Int) ≤ 2097152; omega⟩, q5, q6, q7⟩)) ?_ (fun _ hl => hl)
        (repeat (first | exact subF_nil _ | (refine subF_cons rfl ?_) | (refine subF_consv rfl (by rfl) ?_)))
      repeat (first | refine SX.seq ?_ | refine SXl.nil ?_ | refine SX.region ?_ | refine SQ.thenNormal ?_ | refine SX.block ?_ | refine SX.skip ?_ | refine SX.condF rfl ?_ | (refine l_assign ?_; (refine SXl.v (OpW.assign rfl) rfl ?_ ?_ ?_); rfl; rfl) | (refine l_eql ?_; (refine SXl.v (OpW.eqlF rfl rfl (by omega)) rfl ?_ ?_ ?_); rfl; rfl) | refine SQ.blockNormal ?_)
      refine SQ.join ⟨x :: rest, some ⟨gq, 0, none⟩, qc⟩ hq ?_ (fun _ hl => hl)
      (repeat (first | exact subF_nil _ | (refine subF_cons rfl ?_) | (refine subF_consv rfl (by rfl) ?_)))
  rintro ⟨ys, qb, qd⟩ hys
  simp only at hys
  simp only [ItemsQ.v, ItemsQ.os]
  clear hq
  repeat (first | refine SX.seq ?_ | refine SX.region ?_ | (refine l_move ?_; (refine SXl.v (OpW.move rfl) rfl ?_ ?_ ?_); rfl; rfl))
  refine l_call ?_
  refine SXl.draw (ξ := Bool) (v := fun b => .bool b) rfl rfl rfl (fun _ => True) (fun w hl => once_d B gc w hl.inv 30 (by decide)) (fun b _ => ?_)
  cases b
  · repeat (first | refine SX.seq ?_ | refine SXl.nil ?_ | refine SX.region ?_ | refine SQ.thenNormal ?_ | refine SX.skip ?_ | refine SX.condF rfl ?_ | (refine l_move ?_; (refine SXl.v (OpW.move rfl) rfl ?_ ?_ ?_); rfl; rfl) | (refine l_assign ?_; (refine SXl.v (OpW.assign rfl) rfl ?_ ?_ ?_); rfl; rfl) | refine SX.ret ?_)
    refine SQ.body1 rfl rfl (fun w' hl => ⟨⟨ys, qb, qd⟩, rfl, hys.mono (by decide), hl.owns, hl.mod, hl.inv⟩)
  repeat (first | refine SXl.nil ?_ | refine SQ.thenNormal ?_ | refine SX.block ?_ | refine SX.condT rfl ?_)
  refine SX.loop3 (fun (_ : Unit) (q : ItemsQ) (_ : Unit) => FitItems 13 q.xs) (fun _ q _ => 14 - q.xs.length) (fun _ _ _ => []) (fun _ q _ => q.os) (fun _ _ _ => []) (fun _ q _ => [(0, .pointer (some ⟨gc, 0, none⟩)), (3, q.v)]) () ⟨ys, qb, qd⟩ () (hys.mono (by decide)) ?_ (fun _ hl => hl) ?_
  · (repeat (first | exact subF_nil _ | (refine subF_cons rfl ?_) | (refine subF_consv rfl (by rfl) ?_)))
  rintro _ ⟨xs, qa, qc⟩ _ ⟨hq1, hq2⟩
  simp only at hq1 hq2
  simp only [ItemsQ.v, ItemsQ.os]
  repeat (first | refine SX.seq ?_ | refine SX.region ?_ | (refine l_move ?_; (refine SXl.v (OpW.move rfl) rfl ?_ ?_ ?_); rfl; rfl) | (refine l_len ?_; (refine SXl.v (OpW.len rfl) rfl ?_ ?_ ?_); rfl; rfl))
  refine l_call ?_
  refine SXl.drawE (ξ := Int) (v := fun x : Int => .int .i64 x) rfl rfl rfl (fun x => 0 ≤ x ∧ x < 2) (fun w hl => below_d B gc w hl.inv 2 (by decide) (by decide)) (fun y hy => ?_)
  by_cases hlt : (xs.length : Int) < 12 + y
  · repeat (first | refine SXl.nil ?_ | refine SX.region ?_ | refine SQ.thenNormal ?_ | refine SX.block ?_ | refine SX.skip ?_ | refine SX.condT rfl ?_ | (refine l_move ?_; (refine SXl.v (OpW.move rfl) rfl ?_ ?_ ?_); rfl; rfl) | (refine l_add ?_; (refine SXl.v (OpW.addi rfl rfl (by omega) (by omega)) rfl ?_ ?_ ?_); rfl; rfl) | (refine l_lss ?_; (refine SXl.v (OpW.lssT rfl rfl (by omega)) rfl ?_ ?_ ?_); rfl; rfl))
    refine l_call ?_
    refine SXl.drawE (ξ := Item) (v := fun x => .agg x.cells.toArray) rfl rfl rfl Item.Fits (fun w hl => l13Item_d B gc w hl.inv) (fun z hz => ?_)
    repeat (first | refine SXl.nil ?_ | (refine l_assign ?_; (refine SXl.v (OpW.assign rfl) rfl ?_ ?_ ?_); rfl; rfl) | (refine l_append ?_; first | (refine SXl.append 0 0 rfl rfl rfl rfl rfl rfl rfl rfl (by omega) (by omega) (fun a c => ?_); simp only [List.set_cons_zero, List.set_cons_succ]) | (refine SXl.append 1 0 rfl rfl rfl rfl rfl rfl rfl rfl (by omega) (by omega) (fun a c => ?_); simp only [List.set_cons_zero, List.set_cons_succ])) | (refine l_buildSlice ?_; refine SXl.litRow1 rfl rfl rfl rfl (Item.cells_len _) (by decide) (by decide) (fun g => ?_)) | refine SQ.blockNormal ?_)
    rw [items_push]
    refine SQ.round3 () ⟨xs ++ [z], a, c⟩ () ((FitItems.push (m := 12) ⟨hq1, by omega⟩ hz)) (by simp only [List.length_append, List.length_singleton]; omega) ?_ (fun w hl => hl.drop1)
    (repeat (first | exact subF_nil _ | (refine subF_cons rfl ?_) | (refine subF_consv rfl (by simp [ItemsQ.v]) ?_)))
  · repeat (first | refine SX.seq ?_ | refine SXl.nil ?_ | refine SX.region ?_ | refine SQ.thenNormal ?_ | refine SX.condF rfl ?_ | (refine l_move ?_; (refine SXl.v (OpW.move rfl) rfl ?_ ?_ ?_); rfl; rfl) | (refine l_assign ?_; (refine SXl.v (OpW.assign rfl) rfl ?_ ?_ ?_); rfl; rfl) | (refine l_add ?_; (refine SXl.v (OpW.addi rfl rfl (by omega) (by omega)) rfl ?_ ?_ ?_); rfl; rfl) | (refine l_lss ?_; (refine SXl.v (OpW.lssF rfl rfl (by omega)) rfl ?_ ?_ ?_); rfl; rfl) | refine SX.ret ?_ | refine SX.exit ?_ | refine SQ.thenExit ?_ | refine SQ.blockExit ?_)
    refine SQ.body1 rfl rfl (fun w' hl => ⟨⟨xs, qa, qc⟩, rfl, ⟨hq1, hq2⟩, hl.owns, hl.mod, hl.inv⟩)
abbrev LineArgs := ItemsQ × Int × Int × Bool
def LineArgs.v (q : LineArgs) : Value := .tuple #[q.1.v, .int .i64 q.2.1, .int .i64 q.2.2.1, .bool q.2.2.2]
def LineArgs.ok (q : LineArgs) : Prop := FitItems 13 q.1.xs ∧ (0 ≤ q.2.1 ∧ q.2.1 ≤ 64) ∧ -1 ≤ q.2.2.1 ∧ q.2.2.1 ≤ 2000
end Go.Proofs.Ytdohglcjjlmhhaa
namespace Go.Proofs.Ytdohglcjjlmhhaa
open Go.RowKit

theorem Style.len (s : Style) : s.cells.length = 60 := rfl
theorem Style.ones (s : Style) : s.cells.toArray.all (·.oneCell') = true := by simp [Style.cells, Value.oneCell']
@[go_sem] theorem Style.set54 (s : Style) (v : Int) : s.cells.set 54 (.int .i64 v) = Style.cells { s with border := { s.border with left := v } } := rfl
@[go_sem] theorem Style.set55 (s : Style) (v : Int) : s.cells.set 55 (.int .i64 v) = Style.cells { s with border := { s.border with top := v } } := rfl
@[go_sem] theorem Style.set56 (s : Style) (v : Int) : s.cells.set 56 (.int .i64 v) = Style.cells { s with border := { s.border with right := v } } := rfl
@[go_sem] theorem Style.set57 (s : Style) (v : Int) : s.cells.set 57 (.int .i64 v) = Style.cells { s with border := { s.border with bottom := v } } := rfl
@[go_sem] theorem Style.set58 (s : Style) (v : Int) : s.cells.set 58 (.int .i64 v) = Style.cells { s with rowGap := v } := rfl
@[go_sem] theorem Style.set59 (s : Style) (v : Int) : s.cells.set 59 (.int .i64 v) = Style.cells { s with colGap := v } := rfl
@[go_sem ↓] theorem exec_load_lStyle (ρ : Operand → Value) (d : Option Tmp) (x : Operand) (ty : TypeId) (pos : String) (af : Array Edge) (g : Option (Nat × Bool)) (w : World) :
    (execOp ρ { dst := d, op := .load 168 x, type := ty, pos, after := af, guard := g }).run Try.prog w = LoadS Try.prog 168 (ρ x) w := rfl
@[go_sem ↓] theorem exec_load_iStyle (ρ : Operand → Value) (d : Option Tmp) (x : Operand) (ty : TypeId) (pos : String) (af : Array Edge) (g : Option (Nat × Bool)) (w : World) :
    (execOp ρ { dst := d, op := .load 186 x, type := ty, pos, after := af, guard := g }).run Try.prog w = LoadS Try.prog 186 (ρ x) w := rfl
@[go_sem ↓] theorem exec_store_iStyle (ρ : Operand → Value) (d : Option Tmp) (x y : Operand) (ty : TypeId) (pos : String) (af : Array Edge) (g : Option (Nat × Bool)) (w : World) :
    (execOp ρ { dst := d, op := .store 186 x y, type := ty, pos, after := af, guard := g }).run Try.prog w = StoreS Try.prog 186 (ρ x) (ρ y) w := rfl
@[go_sem] theorem LoadS_lStyle {w : World} {b o : Nat} (h : hasRow w b o 60 = true) : LoadS Try.prog 168 (.pointer (some ⟨b, o, none⟩)) w = .ok (.value (.agg (rowOf w b o 60))) w := LoadS_row Try.underlying168 rfl (by kernel_rfl) h
@[go_sem] theorem LoadS_iStyle {w : World} {b o : Nat} (h : hasRow w b o 60 = true) : LoadS Try.prog 186 (.pointer (some ⟨b, o, none⟩)) w = .ok (.value (.agg (rowOf w b o 60))) w := LoadS_row Try.underlying186 rfl (by kernel_rfl) h
@[go_sem] theorem StoreS_iStyle {w : World} {b o : Nat} {s : Style} (h : hasRow w b o 60 = true) (hz : openRow w b = true) : StoreS Try.prog 186 (.pointer (some ⟨b, o, none⟩)) (.agg s.cells.toArray) w = .ok .skip (w.setCells b o s.cells) := StoreS_row (by kernel_rfl) h hz rfl (Style.ones s)

end Go.Proofs.Ytdohglcjjlmhhaa
namespace Go.Proofs.Ytdohglcjjlmhhaa
open Go.RowKit

end Go.Proofs.Ytdohglcjjlmhhaa
namespace Go.Proofs.Ytdohglcjjlmhhaa
open Go.RowKit

/-- The cells cs read as a datum of type t. -/
def Rd (P : Program) (w : World) (t : TypeId) (cs : List Value) : Prop :=
  ∃ (H : Type) (enc : TypeId × Value → H) (fuel : Nat) (x : DataW H × List MemPlace), DataW.trod enc P w 0 (fun _ => true) true fuel t cs = some x

section
variable {P : Program} {w : World} {t e : TypeId} {cs : List Value}
theorem Rd.int {k : IntKind} (h : Rd P w t cs) (hu : P.underlying t = some (.int k)) : ∃ n, cs = [.int k n] ∧ (Lit.int k n).wf = true := by
  obtain ⟨H, enc, fuel, x, h⟩ := h
  obtain ⟨n, h1, _, h2⟩ := DataW.trod_int hu h
  exact ⟨n, h1, h2⟩
theorem Rd.bool (h : Rd P w t cs) (hu : P.underlying t = some .bool) : ∃ b, cs = [.bool b] := by
  obtain ⟨H, enc, fuel, x, h⟩ := h
  obtain ⟨n, h1, _⟩ := DataW.trod_bool hu h
  exact ⟨n, h1⟩
theorem Rd.string (h : Rd P w t cs) (hu : P.underlying t = some .string) : ∃ s : ByteArray, cs = [.string s] ∧ s.size ≤ maxLen := by
  obtain ⟨H, enc, fuel, x, h⟩ := h
  obtain ⟨n, h1, _, h2⟩ := DataW.trod_string hu h
  exact ⟨n, h1, h2⟩
theorem Rd.struct {fs : Array Field} (h : Rd P w t cs) (hu : P.underlying t = some (.struct fs)) :
    cs.length = P.cellsOf t ∧ ∀ (i : Nat) (f : Field), fs[i]? = some f → Rd P w f.type ((cs.drop f.offset).take (P.cellsOf f.type)) := by
  obtain ⟨H, enc, fuel, x, h⟩ := h
  obtain ⟨xs, n, _, _, hl, hxl, hf⟩ := DataW.trod_struct hu h
  refine ⟨hl, fun i f hi => ?_⟩
  have h1 := hf i f hi
  have hil : i < xs.length := by rw [hxl]; exact (Array.getElem?_eq_some_iff.1 hi).1
  rw [List.getElem?_eq_getElem hil] at h1
  exact ⟨H, enc, n, _, h1⟩
theorem Rd.slice (h : Rd P w t cs) (hu : P.underlying t = some (.slice e)) (hc : 0 < P.cellsOf e) :
    ∃ (a : Option Addr) (len cap : Nat), cs = [.slice a len cap] ∧ len ≤ cap ∧ cap ≤ maxLen ∧
      (len = 0 ∨ ∃ b o, a = some ⟨b, o, none⟩ ∧ b < w.heap.size ∧ ∀ i, i < len → ∃ cs', (cs'.length = P.cellsOf e ∧ ∀ (j : Nat) (v : Value), cs'[j]? = some v → w.cell? ⟨b, o + i * P.cellsOf e + j, none⟩ = some v) ∧ Rd P w e cs') := by
  obtain ⟨H, enc, fuel, x, h⟩ := h
  rcases DataW.trod_slice hu h with ⟨h1, _⟩ | ⟨a, len, cap, elems, rest, n, _, h1, _, _, hl, hm, hlen, hel, _⟩
  · exact ⟨_, _, _, h1, Nat.le_refl _, Nat.zero_le _, .inl rfl⟩
  · refine ⟨some a, len, cap, h1, hl, hm, ?_⟩
    by_cases h0 : len = 0
    · exact .inl h0
    · have rows : ∀ i, i < len → ∃ cs', (cs'.length = P.cellsOf e ∧ ∀ (j : Nat), j < P.cellsOf e → w.cell? ((a.add (i * P.cellsOf e)).add j) = cs'[j]?) ∧ Rd P w e cs' := by
        intro i hi
        have h2 := hel i hi
        rw [List.getElem?_eq_getElem (by omega)] at h2
        obtain ⟨cs', h3, h4⟩ := Option.bind_eq_some_iff.1 h2
        obtain ⟨_, h5, h6⟩ := World.cells?_some h3
        exact ⟨cs', ⟨h5, h6⟩, H, enc, n, _, h4⟩
      obtain ⟨b, o, s⟩ := a
      have hs : s = none := by
        obtain ⟨cs', ⟨h5, h6⟩, _⟩ := rows 0 (by omega)
        have h7 := h6 0 hc
        rw [List.getElem?_eq_getElem (by omega)] at h7
        simpa [Addr.add] using World.cell?_spot h7
      subst hs
      have ea : ∀ p q r : Nat, ((⟨p, q, none⟩ : Addr).add r) = ⟨p, q + r, none⟩ := by intro p q r; unfold Addr.add; split <;> simp_all
      have hb : b < w.heap.size := by
        obtain ⟨cs', ⟨h5, h6⟩, _⟩ := rows 0 (by omega)
        have h7 := h6 0 hc
        rw [List.getElem?_eq_getElem (by omega), ea, ea] at h7
        exact World.block_lt_of_cell? w ⟨b, _, none⟩ h7
      refine .inr ⟨b, o, rfl, hb, fun i hi => ?_⟩
      obtain ⟨cs', ⟨h5, h6⟩, h7⟩ := rows i hi
      refine ⟨cs', ⟨h5, fun j v hj => ?_⟩, h7⟩
      have h8 := h6 j (by have := (List.getElem?_eq_some_iff.1 hj).1; omega)
      rw [ea, ea] at h8
      rw [h8, hj]
end

theorem rd_list {α : Type} {rep : List Value → α → Prop} {Q : Nat → List Value → Prop} (n : Nat) (h : ∀ i, i < n → ∃ cs, Q i cs ∧ ∃ x, rep cs x) :
    ∃ (rows : List (List Value)) (l : List α), rows.length = n ∧ l.length = n ∧ (∀ (i : Nat) (r : List Value), rows[i]? = some r → Q i r) ∧ ∀ (i : Nat) (r : List Value) (x : α), rows[i]? = some r → l[i]? = some x → rep r x := by
  induction n with
  | zero => exact ⟨[], [], rfl, rfl, fun i r h => by simp at h, fun i r x h => by simp at h⟩
  | succ n ih =>
    obtain ⟨rows, l, h1, h2, h3, h4⟩ := ih fun i hi => h i (by omega)
    obtain ⟨cs, hQ, x, hr⟩ := h n (by omega)
    refine ⟨rows ++ [cs], l ++ [x], by simp [h1], by simp [h2], fun i r hi => ?_, fun i r y hi hl => ?_⟩
    · by_cases e : i < rows.length
      · rw [List.getElem?_append_left e] at hi
        exact h3 i r hi
      · rw [List.getElem?_append_right (by omega)] at hi
        have : i = n := by
          have := (List.getElem?_eq_some_iff.1 hi).1
          simp at this
          omega
        subst this
        rw [h1, Nat.sub_self] at hi
        simp at hi
        subst hi
        exact hQ
    · by_cases e : i < rows.length
      · rw [List.getElem?_append_left e] at hi
        rw [List.getElem?_append_left (by omega)] at hl
        exact h4 i r y hi hl
      · rw [List.getElem?_append_right (by omega)] at hi
        rw [List.getElem?_append_right (by omega)] at hl
        have : i = n := by
          have := (List.getElem?_eq_some_iff.1 hi).1
          simp at this
          omega
        subst this
        rw [h1, Nat.sub_self] at hi
        rw [h2, Nat.sub_self] at hl
        simp at hi hl
        subst hi; subst hl
        exact hr

/-- A slice argument reads as a list. -/
theorem Rd.list {P : Program} {w : World} {t e : TypeId} {cs : List Value} {α : Type} {rep : World → List Value → α → Prop} {sz : Nat} (h : Rd P w t cs) (hu : P.underlying t = some (.slice e)) (hsz : P.cellsOf e = sz) (hp : 0 < sz)
    (hr : ∀ cs', Rd P w e cs' → ∃ x, rep w cs' x) :
    ∃ (a : Option Addr) (l : List α) (cap : Nat), cs = [.slice a l.length cap] ∧ l.length ≤ cap ∧ cap ≤ maxLen ∧ SliceAt rep sz (fun k => k < w.heap.size) w a l := by
  obtain ⟨a, len, cap, hcs, hl, hm, hrest⟩ := h.slice hu (by omega)
  rw [hsz] at hrest
  rcases hrest with h0 | ⟨b, o, rfl, hb, hrows⟩
  · subst h0
    exact ⟨a, [], cap, hcs, hl, hm, SliceAt.nil⟩
  · obtain ⟨rows, l, h1, h2, h3, h4⟩ := rd_list (rep := rep w) (Q := fun i cs' => cs'.length = sz ∧ ∀ (j : Nat) (v : Value), cs'[j]? = some v → w.cell? ⟨b, o + i * sz + j, none⟩ = some v) len
      fun i hi => by
        obtain ⟨cs', hQ, hrd⟩ := hrows i hi
        exact ⟨cs', hQ, hr cs' hrd⟩
    subst h2
    exact ⟨_, l, cap, hcs, hl, hm, rows, .inr ⟨b, o, rfl, hb, hb, h3⟩, h1, h4⟩

/-- A reading with a property of each element: the reading, and the property of all. -/
theorem SliceAt.split {α : Type} {cells : α → List Value} {p : α → Prop} {sz : Nat} {R : Nat → Prop} {w : World} {a : Option Addr} {l : List α} (h : SliceAt (fun _ r x => r = cells x ∧ p x) sz R w a l) :
    SliceAt (Flat cells) sz R w a l ∧ ∀ x ∈ l, p x := by
  obtain ⟨rows, h1, h2, h3⟩ := h
  refine ⟨⟨rows, h1, h2, fun i r x hr hx => (h3 i r x hr hx).1⟩, fun x hx => ?_⟩
  obtain ⟨i, hi, rfl⟩ := List.mem_iff_getElem.1 hx
  have hr : rows[i]? = some (rows[i]'(by omega)) := List.getElem?_eq_getElem (by omega)
  exact (h3 i _ _ hr (List.getElem?_eq_getElem hi)).2

end Go.Proofs.Ytdohglcjjlmhhaa
namespace Go.Proofs.Ytdohglcjjlmhhaa
open Go.RowKit

theorem tooBig_any (a : Option Addr) (len cap : Nat) (h : len ≤ 9223372036854775807) (w : World) : Calls Try.prog 8 #[.slice a len cap] w fun e w' => e = .returned (.bool (decide (1048576 < len))) ∧ w = w' := by
  by_cases hl : 1048576 < len
  · go_enter Try.func8, Try.ntmps8
    go_wp2
    go_ret
    exact ⟨ret_bool (by simp; omega), rfl⟩
  · go_enter Try.func8, Try.ntmps8
    go_wp2
    go_ret
    exact ⟨ret_bool (by simp; omega), rfl⟩

end Go.Proofs.Ytdohglcjjlmhhaa
namespace Go.Proofs.Ytdohglcjjlmhhaa
open Go.RowKit
set_option linter.unusedVariables false
set_option linter.unusedSimpArgs false

theorem bigT (a : Option Addr) {len : Nat} (cap : Nat) (hl : len ≤ maxLen) (h : 1048576 < len) (w : World) : Calls Try.prog 8 #[.slice a len cap] w fun e w' => e = .returned (.bool true) ∧ Mod (fun _ => False) w w' :=
  (tooBig_any a len cap (by unfold maxLen at hl; omega) w).mono fun e w' ⟨h1, h2⟩ => ⟨by rw [h1, decide_eq_true h], h2 ▸ Mod.refl _ _⟩
theorem bigF (a : Option Addr) {len : Nat} (cap : Nat) (hl : len ≤ maxLen) (h : ¬ 1048576 < len) (w : World) : Calls Try.prog 8 #[.slice a len cap] w fun e w' => e = .returned (.bool false) ∧ Mod (fun _ => False) w w' :=
  (tooBig_any a len cap (by unfold maxLen at hl; omega) w).mono fun e w' ⟨h1, h2⟩ => ⟨by rw [h1, decide_eq_false h], h2 ▸ Mod.refl _ _⟩
/-- A fact of no memory. -/
def factRes (K : Prop) : Res where
  foot := fun _ => False
  says := fun _ => K
  stable := fun _ _ _ h _ _ => h
theorem SXl.fact {P : Program} {n : Nat} {W : World} {R : Rg W} {L : List Blk} {O : List Own} {E : List Res} {f : List (Nat × Value)} {Q : Exit → Go.Act → World → Prop} {ops : Array Oper} {rest : List Oper} {K : Prop} (h : K → SXl P n W R ops L O E f rest Q) : SXl P n W R ops L O (factRes K :: E) f rest Q := ⟨fun a w hf hl => (h (hl.res _ (.head _)).1).run a w hf (hl.dropE)⟩

/-- The bytes of an argument, later. -/
theorem bytes_loc {W : World} {R : Rg W} {L : List Blk} {O : List Own} {E : List Res} {w : World} {a : Option Addr} {len : Nat} (hy : Bytes W.heap.size W a len) (hR : ∀ k, k < W.heap.size → ¬ R.p k) (hl : Loc W R L O E w) : Bytes w.heap.size w a len := by
  have := hy.same (w' := w) fun k hk => hl.mod.block k hk (hR k hk)
  rcases this with h | ⟨b, o, h1, h2, h3⟩
  · exact .inl h
  · exact .inr ⟨b, o, h1, Nat.lt_of_lt_of_le h2 hl.mod.size, h3⟩
end Go.Proofs.Ytdohglcjjlmhhaa
namespace Go.Proofs.Ytdohglcjjlmhhaa
open Go.RowKit
set_option linter.unusedVariables false
set_option linter.unusedSimpArgs false

theorem pick_e {W : World} {gc b : Nat} {L : List Blk} {O : List Own} {E : List Res} {w : World} {l : List Int} (hl : Loc W (Rg.none W) L O E w) (hc : Cur W.heap.size 116 w gc) (hE : curRes 116 W gc ∈ E) (hm : (⟨b, l.map (.int .i64), 3⟩ : Blk) ∈ L) (h0 : 0 < l.length) (h1 : l.length ≤ 1000) :
    Calls Try.prog 65 #[.pointer (some ⟨gc, 0, none⟩), .slice (some ⟨b, 0, none⟩) l.length l.length] w (DrewV 116 W.heap.size gc w (fun x : Int => .int .i64 x) (fun x => x ∈ l)) := by
  obtain ⟨hb, hcell⟩ := hl.blk _ hm
  have hne : b ≠ gc := fun e => (hl.res _ hE).2.2.1 _ hm (by simp only [e]; rfl)
  refine (l01PickInt_any W.heap.size gc w hc b l.length l (fun i hi => ?_) h0 h1 hne).mono fun e w' h => Drew.v h
  have := blk_cell (j := i) (v := .int .i64 (l.getD i 0)) hcell (by simp [List.getElem?_eq_getElem hi, List.getD, hi])
  rw [Nat.zero_add]
  exact this
abbrev FlexArgs := ItemsQ × Int × Int
def FlexArgs.v (q : FlexArgs) : Value := .tuple #[q.1.v, .int .i64 q.2.1, .int .i64 q.2.2]
def FlexArgs.ok (q : FlexArgs) : Prop := FitItems 13 q.1.xs ∧ (-1 ≤ q.2.1 ∧ q.2.1 ≤ 1048577) ∧ -9007199254740992 ≤ q.2.2 ∧ q.2.2 ≤ 9007199254740992
end Go.Proofs.Ytdohglcjjlmhhaa
namespace Go.Proofs.Ytdohglcjjlmhhaa
open Go.RowKit

theorem flexEnd_items (l : List Item) (gap inner : Int) : (flexEnd l gap inner).1.map (·.1) = l := by
  unfold flexEnd
  rw [flexRun_items, start_items]
theorem flexSizes_len (l : List Item) (gap inner : Int) : (flexSizes l gap inner).length = l.length := by
  unfold flexSizes
  split
  · rw [sizes_len, ← List.length_map (f := (·.1)), flexEnd_items]
  · exact List.length_map _
end Go.Proofs.Ytdohglcjjlmhhaa
namespace Go.Proofs.Ytdohglcjjlmhhaa
open Go.RowKit
set_option linter.unusedVariables false
set_option linter.unusedSimpArgs false

abbrev AlongArgs := ItemsQ × PLine × Int × Int × Int
def AlongArgs.v (q : AlongArgs) : Value := .tuple #[q.1.v, lineV q.2.1, .int .i64 q.2.2.1, .int .i64 q.2.2.2.1, .int .i64 q.2.2.2.2]
def AlongArgs.os (q : AlongArgs) : List Own := [lineO q.2.1, ⟨.slice q.1.a q.1.xs.length q.1.c, 36, 9, q.1.xs.length, (q.1.xs.map Item.cells).flatten⟩]
def AlongArgs.ok (q : AlongArgs) : Prop := FitItems 13 q.1.xs ∧ q.2.1.1.length ≤ 14
theorem itemsA_at {base : Nat} {w : World} {os : List Own} {q : ItemsQ} (h : Owns base w os) (hq : (⟨.slice q.a q.xs.length q.c, 36, 9, q.xs.length, (q.xs.map Item.cells).flatten⟩ : Own) ∈ os) : ItemSlice (fun k => (∃ o ∈ os, o.v.ownBlock = some k)) w q.a q.xs := by
  have h1 : w.ownsRow base 36 9 (.slice q.a q.xs.length q.c) q.xs.length (q.xs.map Item.cells).flatten := h.row _ hq
  obtain ⟨rows, h2, h3, h4⟩ := own_slice h1 Item.cells_len (by decide)
  refine ⟨rows, ?_, h3, h4⟩
  rcases h2 with h2 | ⟨b, o, e, hb, hlt, hc⟩
  · exact .inl h2
  · refine .inr ⟨b, o, e, ⟨_, hq, ?_⟩, hlt, hc⟩
    show (Value.slice q.a q.xs.length q.c).ownBlock = some b
    rw [e]; rfl
theorem ownA_low {W : World} {R : Rg W} {L : List Blk} {O : List Own} {E : List Res} {w : World} (h : Loc W R L O E w) : ∀ k, (∃ o ∈ O, o.v.ownBlock = some k) → k < w.heap.size := fun k ⟨o, ho, hk⟩ => (ownBlock_lt (h.own o ho).1 hk).2
set_option maxRecDepth 100000 in
set_option maxHeartbeats 8000000 in
theorem l15Justify_d (B gc : Nat) (w : World) (hc : Cur B 116 w gc) : Calls Try.prog 95 #[.pointer (some ⟨gc, 0, none⟩)] w (DrewV 116 B gc w (fun x : Int => .int .i64 x) (fun x => 0 ≤ x ∧ x < 8)) := by
  refine calls_draw (as_ := [.pointer (some ⟨gc, 0, none⟩)]) hc Try.func95 rfl rfl (fun a h1 h2 h3 => ((Fr.nil h1 h2).arg (h3 0 _ rfl))) ?_
  repeat (first | refine SX.seq ?_ | refine SXl.nil ?_ | refine SX.region ?_ | refine SQ.thenNormal ?_ | (refine l_move ?_; (refine SXl.v (OpW.move rfl) rfl ?_ ?_ ?_); rfl; rfl) | (refine l_assign ?_; (refine SXl.v (OpW.assign rfl) rfl ?_ ?_ ?_); rfl; rfl))
  refine l_call ?_
  refine SXl.draw (ξ := Int) (v := fun x : Int => .int .i64 x) rfl rfl rfl (fun x => 0 ≤ x ∧ x < 8) (fun w hl => below_d B gc w hl.inv 8 (by decide) (by decide)) (fun z hz => ?_)
  repeat (first | refine SXl.nil ?_ | refine SQ.thenNormal ?_ | (refine l_assign ?_; (refine SXl.v (OpW.assign rfl) rfl ?_ ?_ ?_); rfl; rfl) | refine SX.ret ?_)
  refine SQ.body1 rfl rfl (fun w' hl => ⟨z, rfl, hz, hl.mod, hl.inv⟩)
set_option maxRecDepth 100000 in
set_option maxHeartbeats 8000000 in
theorem l15Case_o (a : Option Addr) (len cap : Nat) (w : World) (hlen : len ≤ 1048576) (hy : Bytes w.heap.size w a len) :
    Calls Try.prog 66 #[.slice a len cap] w (NewO AlongArgs AlongArgs.v AlongArgs.os AlongArgs.ok w) := by
  refine calls_sx Try.func66 rfl rfl (fun a h1 h2 h3 => ((Fr.nil h1 h2).arg (h3 0 _ rfl))) ?_
  repeat (first | refine SX.seq ?_ | refine SXl.nil ?_ | refine SX.region ?_ | refine SQ.thenNormal ?_ | (refine l_move ?_; (refine SXl.v (OpW.move rfl) rfl ?_ ?_ ?_); rfl; rfl) | (refine l_assign ?_; (refine SXl.v (OpW.assign rfl) rfl ?_ ?_ ?_); rfl; rfl))
  refine l_call ?_
  refine SXl.newCur rfl rfl rfl (fun w hl => l01New_loc hlen hy hl) (fun gc => ?_)
  repeat (first | refine SX.seq ?_ | refine SXl.nil ?_ | refine SX.region ?_ | refine SQ.thenNormal ?_ | (refine l_move ?_; (refine SXl.v (OpW.move rfl) rfl ?_ ?_ ?_); rfl; rfl) | (refine l_assign ?_; (refine SXl.v (OpW.assign rfl) rfl ?_ ?_ ?_); rfl; rfl))
  refine l_call ?_
  refine SXl.drawO 0 rfl rfl rfl rfl (fun w hl hc => l13Any_d _ _ w hc) (fun q hq => ?_)
  rw [List.append_nil]
  obtain ⟨xs, qa, qc⟩ := q
  have hq' : FitItems 13 xs := hq
  obtain ⟨hf, hl13⟩ := hq'
  simp only [ItemsQ.v, ItemsQ.os]
  repeat (first | refine SX.seq ?_ | refine SXl.nil ?_ | refine SX.region ?_ | refine SQ.thenNormal ?_ | (refine l_move ?_; (refine SXl.v (OpW.move rfl) rfl ?_ ?_ ?_); rfl; rfl) | (refine l_assign ?_; (refine SXl.v (OpW.assign rfl) rfl ?_ ?_ ?_); rfl; rfl))
  refine l_buildSlice ?_
  refine SXl.lit (cells := ([0, 0, 10, 64, -1] : List Int).map (.int .i64)) (z := .int .i64 0) ?_ ?_ rfl (by decide) (by kernel_rfl) rfl (fun gl => ?_)
  rfl; rfl
  skip
  refine l_call ?_
  refine SXl.drawC (ξ := Int) (v := fun x : Int => .int .i64 x) 0 rfl rfl rfl rfl (fun x => x ∈ ([0, 0, 10, 64, -1] : List Int)) (fun w hl hc => pick_e (l := [0, 0, 10, 64, -1]) hl hc (.head _) (.head _) (by simp) (by simp)) (fun gap hg => ?_)
  repeat (first | refine SX.seq ?_ | refine SXl.nil ?_ | refine SX.region ?_ | refine SQ.thenNormal ?_ | (refine l_move ?_; (refine SXl.v (OpW.move rfl) rfl ?_ ?_ ?_); rfl; rfl) | (refine l_assign ?_; (refine SXl.v (OpW.assign rfl) rfl ?_ ?_ ?_); rfl; rfl))
  refine l_buildSlice ?_
  refine SXl.lit (cells := ([640, 1000, 3333, 8000, 0, -1] : List Int).map (.int .i64)) (z := .int .i64 0) ?_ ?_ rfl (by decide) (by kernel_rfl) rfl (fun gl2 => ?_)
  rfl; rfl
  skip
  refine l_call ?_
  refine SXl.drawC (ξ := Int) (v := fun x : Int => .int .i64 x) 0 rfl rfl rfl rfl (fun x => x ∈ ([640, 1000, 3333, 8000, 0, -1] : List Int)) (fun w hl hc => pick_e (l := [640, 1000, 3333, 8000, 0, -1]) hl hc (.head _) (.head _) (by simp) (by simp)) (fun inner hi => ?_)
  have hF := fun (S : Nat → Prop) (w' : World) (h : ItemSlice S w' qa xs) (hlow : ∀ k, S k → k < w'.heap.size) => sflexLine_any xs gap inner qa qc S w' (by omega) hf h hlow
  have hFl := flexSizes_len xs gap inner
  generalize flexSizes xs gap inner = FS at *
  repeat (first | refine SX.seq ?_ | refine SXl.nil ?_ | refine SX.region ?_ | refine SQ.thenNormal ?_ | (refine l_move ?_; (refine SXl.v (OpW.move rfl) rfl ?_ ?_ ?_); rfl; rfl) | (refine l_assign ?_; (refine SXl.v (OpW.assign rfl) rfl ?_ ?_ ?_); rfl; rfl))
  refine l_call ?_
  refine SXl.callO rfl rfl rfl (fun w' hl => hF _ w' (itemsA_at (q := ⟨xs, qa, qc⟩) hl.owns (.head _)) (ownA_low hl)) (fun q2 _ => ?_)
  simp only [List.cons_append, List.nil_append]
  repeat (first | refine SX.seq ?_ | refine SXl.nil ?_ | refine SX.region ?_ | refine SQ.thenNormal ?_ | (refine l_move ?_; (refine SXl.v (OpW.move rfl) rfl ?_ ?_ ?_); rfl; rfl) | (refine l_assign ?_; (refine SXl.v (OpW.assign rfl) rfl ?_ ?_ ?_); rfl; rfl))
  refine l_call ?_
  refine SXl.drawC (ξ := Int) (v := fun x : Int => .int .i64 x) 0 rfl rfl rfl rfl (fun x => 0 ≤ x ∧ x < 6) (fun w hl hc => below_d _ _ w hc 6 (by decide) (by decide)) (fun n0 hn0 => ?_)
  obtain ⟨q2a, q2c⟩ := q2
  simp only [lineO, lineV]
  by_cases h0 : n0 = 0
  · repeat (first | refine SX.seq ?_ | refine SXl.nil ?_ | refine SX.region ?_ | refine SQ.thenNormal ?_ | refine SX.block ?_ | refine SX.condT rfl ?_ | (refine l_move ?_; (refine SXl.v (OpW.move rfl) rfl ?_ ?_ ?_); rfl; rfl) | (refine l_assign ?_; (refine SXl.v (OpW.assign rfl) rfl ?_ ?_ ?_); rfl; rfl) | (refine l_eql ?_; (refine SXl.v (OpW.eqlT rfl rfl (by omega)) rfl ?_ ?_ ?_); rfl; rfl) | (refine l_buildSlice ?_; first | (refine SXl.lit1 ?_ ?_ rfl rfl rfl (fun g => ?_); rfl; rfl) | (refine SXl.lit0 ?_ ?_ (fun _ h => h) rfl (fun g => ?_); rfl; rfl)) | (refine l_append ?_; first | (refine SXl.append 0 0 rfl rfl rfl rfl rfl rfl rfl rfl (by omega) (by omega) (fun a c => ?_); simp only [List.set_cons_zero, List.set_cons_succ]) | (refine SXl.append 1 0 rfl rfl rfl rfl rfl rfl rfl rfl (by omega) (by omega) (fun a c => ?_); simp only [List.set_cons_zero, List.set_cons_succ])) | refine SQ.blockNormal ?_)
    revert g a c
    intro g a c
    refine l_call ?_
    refine SXl.drawC (ξ := Int) (v := fun x : Int => .int .i64 x) 0 rfl rfl rfl rfl (fun x => 0 ≤ x ∧ x < 8) (fun w hl hc => l15Justify_d _ _ w hc) (fun j hj => ?_)
    repeat (first | refine SXl.nil ?_ | refine SQ.thenNormal ?_ | (refine l_assign ?_; (refine SXl.v (OpW.assign rfl) rfl ?_ ?_ ?_); rfl; rfl) | refine SX.ret ?_)
    refine SQ.bodyT5 rfl rfl rfl rfl rfl rfl (fun w' hl => ⟨(⟨xs, qa, qc⟩, (FS ++ [10], (a, c)), gap, inner, j), by simp [AlongArgs.v, lineV, ItemsQ.v], ⟨hq, by simp only [List.length_append, List.length_singleton]; omega⟩, ?_, hl.mod⟩)
    have e : (⟨.slice a (FS.length + 1) c, 3, 1, FS.length + 1, (FS.map icell).flatten ++ [.int .i64 10]⟩ : Own) = lineO (FS ++ [10], (a, c)) := by
      unfold lineO lineV
      simp [icell]
    rw [e] at hl
    exact hl.owns
  by_cases h1 : n0 = 1
  · repeat (first | refine SX.seq ?_ | refine SXl.nil ?_ | refine SX.region ?_ | refine SQ.thenNormal ?_ | refine SX.block ?_ | refine SX.condT rfl ?_ | refine SX.condF rfl ?_ | (refine l_assign ?_; (refine SXl.v (OpW.assign rfl) rfl ?_ ?_ ?_); rfl; rfl) | (refine l_eql ?_; (first | refine SXl.v (OpW.eqlT rfl rfl (by omega)) rfl ?_ ?_ ?_ | refine SXl.v (OpW.eqlF rfl rfl (by omega)) rfl ?_ ?_ ?_); rfl; rfl))
    refine SX.loop3 (fun (k : Nat) (ys : List Int) (_ : Unit) => k ≤ FS.length ∧ ys.length = FS.length) (fun k _ _ => FS.length - k) (fun _ _ _ => []) (fun _ ys _ => [⟨.slice q2a FS.length q2c, 3, 1, FS.length, (ys.map icell).flatten⟩, ⟨.slice qa xs.length qc, 36, 9, xs.length, (xs.map Item.cells).flatten⟩]) (fun _ _ _ => [curRes 116 w gc]) (fun k _ _ => [(7, .pointer (some ⟨gc, 0, none⟩)), (8, .slice qa xs.length qc), (9, .int .i64 gap), (10, .int .i64 inner), (11, .slice q2a FS.length q2c), (12, .int .i64 k)]) 0 FS () ⟨Nat.zero_le _, rfl⟩ ?_ (fun _ hl => hl.drop1.drop1) ?_
    · (repeat (first | exact subF_nil _ | (refine subF_cons rfl ?_) | (refine subF_consv rfl (by rfl) ?_)))
    rintro k ys _ ⟨hk, hys⟩
    by_cases hlt : k < FS.length
    · refine SX.knowI (fun w' hl' => own_addr (hl'.own _ (.head _)).1 (by omega)) (fun ⟨gs, es⟩ => ?_)
      subst es
      repeat (first | refine SX.seq ?_ | refine SXl.nil ?_ | refine SX.region ?_ | refine SQ.thenNormal ?_ | refine SX.block ?_ | refine SX.skip ?_ | refine SX.condT rfl ?_ | (refine l_move ?_; (refine SXl.v (OpW.move rfl) rfl ?_ ?_ ?_); rfl; rfl) | (refine l_len ?_; (refine SXl.v (OpW.len rfl) rfl ?_ ?_ ?_); rfl; rfl) | (refine l_lss ?_; (refine SXl.v (OpW.lssT rfl rfl (by omega)) rfl ?_ ?_ ?_); rfl; rfl))
      refine l_call ?_
      refine SXl.drawC (ξ := Int) (v := fun x : Int => .int .i64 x) 0 rfl rfl rfl rfl (fun x => 0 ≤ x ∧ x < 500) (fun w hl hc => below_d _ _ w hc 500 (by decide) (by decide)) (fun z hz => ?_)
      repeat ((refine l_indexAddr ?_; (refine SXl.v (OpW.indexAddr1 (by omega) rfl rfl) rfl ?_ ?_ ?_); rfl; rfl))
      refine l_store ?_
      refine SXl.storeOwn (xs := (ys.map icell).flatten) 0 rfl rfl rfl rfl (by rw [ints_flat, List.length_map]; omega) rfl rfl ?_
      simp only [List.set_cons_zero, List.set_cons_succ]
      rw [Nat.zero_add, ← icells_set]
      repeat (first | refine SXl.nil ?_ | refine SX.region ?_ | refine SQ.thenNormal ?_ | (refine l_move ?_; (refine SXl.v (OpW.move rfl) rfl ?_ ?_ ?_); rfl; rfl) | (refine l_assign ?_; (refine SXl.v (OpW.assign rfl) rfl ?_ ?_ ?_); rfl; rfl) | (refine l_add ?_; (refine SXl.v (OpW.succ rfl rfl (by omega)) rfl ?_ ?_ ?_); rfl; rfl) | refine SQ.blockNormal ?_)
      refine SQ.round3 (k + 1) (ys.set k z) () ⟨by omega, by rw [List.length_set]; exact hys⟩ (by omega) ?_ (fun w hl => hl)
      (repeat (first | exact subF_nil _ | (refine subF_cons rfl ?_) | (refine subF_consv rfl (by rfl) ?_)))
    obtain rfl : k = FS.length := by omega
    repeat (first | refine SX.seq ?_ | refine SXl.nil ?_ | refine SX.region ?_ | refine SQ.thenNormal ?_ | refine SX.condF rfl ?_ | (refine l_move ?_; (refine SXl.v (OpW.move rfl) rfl ?_ ?_ ?_); rfl; rfl) | (refine l_len ?_; (refine SXl.v (OpW.len rfl) rfl ?_ ?_ ?_); rfl; rfl) | (refine l_lss ?_; (refine SXl.v (OpW.lssF rfl rfl (by omega)) rfl ?_ ?_ ?_); rfl; rfl) | refine SX.exit ?_ | refine SQ.thenExit ?_ | refine SQ.blockNormal ?_ | refine SQ.blockExit ?_)
    refine l_call ?_
    refine SXl.drawC (ξ := Int) (v := fun x : Int => .int .i64 x) 0 rfl rfl rfl rfl (fun x => 0 ≤ x ∧ x < 8) (fun w hl hc => l15Justify_d _ _ w hc) (fun j hj => ?_)
    repeat (first | refine SXl.nil ?_ | refine SQ.thenNormal ?_ | (refine l_assign ?_; (refine SXl.v (OpW.assign rfl) rfl ?_ ?_ ?_); rfl; rfl) | refine SX.ret ?_)
    refine SQ.bodyT5 rfl rfl rfl rfl rfl rfl (fun w' hl => ⟨(⟨xs, qa, qc⟩, (ys, (q2a, q2c)), gap, inner, j), by rw [← hys]; rfl, ⟨hq, by simp only; omega⟩, ?_, hl.mod⟩)
    rw [← hys] at hl
    exact hl.owns
  repeat (first | refine SX.seq ?_ | refine SXl.nil ?_ | refine SX.region ?_ | refine SQ.thenNormal ?_ | refine SX.block ?_ | refine SX.skip ?_ | refine SX.condF rfl ?_ | (refine l_move ?_; (refine SXl.v (OpW.move rfl) rfl ?_ ?_ ?_); rfl; rfl) | (refine l_assign ?_; (refine SXl.v (OpW.assign rfl) rfl ?_ ?_ ?_); rfl; rfl) | (refine l_eql ?_; (refine SXl.v (OpW.eqlF rfl rfl (by omega)) rfl ?_ ?_ ?_); rfl; rfl) | refine SQ.blockNormal ?_)
  refine l_call ?_
  refine SXl.drawC (ξ := Int) (v := fun x : Int => .int .i64 x) 0 rfl rfl rfl rfl (fun x => 0 ≤ x ∧ x < 8) (fun w hl hc => l15Justify_d _ _ w hc) (fun j hj => ?_)
  repeat (first | refine SXl.nil ?_ | refine SQ.thenNormal ?_ | (refine l_assign ?_; (refine SXl.v (OpW.assign rfl) rfl ?_ ?_ ?_); rfl; rfl) | refine SX.ret ?_)
  refine SQ.bodyT5 rfl rfl rfl rfl rfl rfl (fun w' hl => ⟨(⟨xs, qa, qc⟩, (FS, (q2a, q2c)), gap, inner, j), rfl, ⟨hq, by simp only; omega⟩, hl.owns, hl.mod⟩)
set_option maxRecDepth 100000 in
set_option maxHeartbeats 8000000 in
theorem drawPlacesAlong_o (a : Option Addr) (len cap : Nat) (w : World) (hlen : len ≤ 1048576) (hy : Bytes w.heap.size w a len) :
    Calls Try.prog 33 #[.slice a len cap] w (NewO AlongArgs AlongArgs.v AlongArgs.os AlongArgs.ok w) := by
  refine calls_sx Try.func33 rfl rfl (fun a h1 h2 h3 => ((Fr.nil h1 h2).arg (h3 0 _ rfl))) ?_
  repeat (first | refine SX.seq ?_ | refine SXl.nil ?_ | refine SX.region ?_ | refine SQ.thenNormal ?_ | (refine l_move ?_; (refine SXl.v (OpW.move rfl) rfl ?_ ?_ ?_); rfl; rfl) | (refine l_assign ?_; (refine SXl.v (OpW.assign rfl) rfl ?_ ?_ ?_); rfl; rfl))
  refine l_call ?_
  refine SXl.callO rfl rfl rfl (fun w' hl => l15Case_o a len cap w' hlen (bytes_loc hy (fun _ _ f => f) hl)) (fun q hq => ?_)
  obtain ⟨q, p, gap, inner, j⟩ := q
  simp only [AlongArgs.v]
  repeat (first | refine SXl.nil ?_ | refine SQ.thenNormal ?_ | (refine l_assign ?_; (refine SXl.v (OpW.assign rfl) rfl ?_ ?_ ?_); rfl; rfl) | (refine l_extract ?_; (refine SXl.v (OpW.extract rfl rfl) rfl ?_ ?_ ?_); rfl; rfl) | refine SX.ret ?_)
  refine SQ.bodyT5 rfl rfl rfl rfl rfl rfl (fun w' hl => ⟨(q, p, gap, inner, j), rfl, hq, hl.owns.left, hl.mod⟩)
end Go.Proofs.Ytdohglcjjlmhhaa
namespace Go.Proofs.Ytdohglcjjlmhhaa
open Go.RowKit

theorem signedL_of {x : Int} (h0 : -1048576 ≤ x) (h1 : x ≤ 1048576) : signedL x = x := by
  unfold signedL brought
  rw [if_neg (by omega), if_neg (by omega)]
theorem evenly_pos {n many : Int} (hn : 0 ≤ n) {k : Nat} {x : Int} (h : (evenly n many)[k]? = some x) : 0 ≤ x := by
  unfold evenly at h
  split at h
  · rename_i hm
    obtain ⟨m, rfl⟩ : ∃ m : Nat, many = m := ⟨many.toNat, by omega⟩
    simp only [Int.toNat_natCast] at h
    unfold shares at h
    rw [if_pos (ones_ok (by omega))] at h
    have hk : k < m := by
      have := (List.getElem?_eq_some_iff.1 h).1
      rw [sharesTo_length, ones_length] at this
      exact this
    have hx1 : (ones m)[k]? = some 1 := by simp [ones, hk]
    have hs : shareOf (signedL n) (ones m) k = x := by
      rw [ones_length] at h
      simpa [sharesTo, hk] using h
    have hpos : 0 < sumTo (ones m) (ones m).length := by rw [ones_length, sum_ones]; omega
    have hnr := (share_near (signedL n) hpos (hid hx1)).1
    rw [hs] at hnr
    have hsg : 0 ≤ signedL n := by unfold signedL brought; split <;> (try split) <;> omega
    have hf : 0 ≤ fdiv (signedL n * 1) (sumTo (ones m) (ones m).length) := by
      unfold fdiv
      split
      · omega
      · exact Int.ediv_nonneg (by omega) (by omega)
    omega
  · simp at h
theorem elemAt_pos {n many : Int} (hn : 0 ≤ n) (i : Int) : 0 ≤ elemAt (evenly n many) i := by
  unfold elemAt
  split
  · omega
  · have hk : i.toNat < (evenly n many).length := by omega
    have := evenly_pos hn (List.getElem?_eq_getElem hk)
    simpa [List.getD, List.getElem?_eq_getElem hk] using this
theorem betweenOf_pos (free many j i : Int) : 0 ≤ betweenOf free many j i := by
  unfold betweenOf
  split
  · omega
  · have h1 := elemAt_pos (n := free) (many := many - 1) (by omega) i
    have h2 := elemAt_pos (n := free) (many := 2 * many) (by omega) (2 * i + 1)
    have h3 := elemAt_pos (n := free) (many := 2 * many) (by omega) (2 * i + 2)
    have h4 := elemAt_pos (n := free) (many := many + 1) (by omega) (i + 1)
    repeat' split
    all_goals omega

theorem sumTo_shares (m : Int) (l : List Int) (k : Nat) (hk : k ≤ l.length) : sumTo (sharesTo m l l.length) k = shareSum m l k := by
  induction k with
  | zero => rw [shareSum_zero]; rfl
  | succ k ih =>
    have hx : (sharesTo m l l.length)[k]? = some (shareOf m l k) := by simp [sharesTo, show k < l.length by omega]
    rw [sumTo_succ (hid hx), ih (by omega), shareSum_succ]
theorem evenly_sum {n : Int} {many : Nat} (h0 : 1 ≤ many) (h1 : many ≤ 64) : sumTo (evenly n many) many = signedL n := by
  rw [evenly_some (by omega) (by omega), Int.toNat_natCast]
  unfold shares
  rw [if_pos (ones_ok h1)]
  have h := sumTo_shares (signedL n) (ones many) many (by rw [ones_length]; omega)
  rw [h]
  have e : many = (ones many).length := (ones_length many).symm
  rw [e, ones_length]
  conv => lhs; rw [show shareSum (signedL n) (ones many) many = shareSum (signedL n) (ones many) (ones many).length by rw [ones_length]]
  exact shareSum_all _ _ (by rw [ones_length, sum_ones]; omega)
end Go.Proofs.Ytdohglcjjlmhhaa
namespace Go.Proofs.Ytdohglcjjlmhhaa
open Go.RowKit

def esum (e : List Int) : Nat → Int
  | 0 => 0
  | u + 1 => esum e u + elemAt e u
theorem autoV_sum (b : Bool) (e : List Int) (u : Nat) : esum e u + autoV b e u = esum e (u + b.toNat) := by
  cases b
  · show esum e u + 0 = _
    rw [Int.add_zero]
    rfl
  · rfl
theorem esum_take {e : List Int} : ∀ {u : Nat}, u ≤ e.length → esum e u = sumTo e u
  | 0, _ => rfl
  | u + 1, h => by
    have hx : Hid (e[u]? = some e[u]) := hid (List.getElem?_eq_getElem (by omega))
    rw [sumTo_succ hx, ← esum_take (u := u) (by omega)]
    show esum e u + elemAt e u = _
    rw [elemAt_some hx]
theorem autoV_pos {b : Bool} {free : Int} {autos u : Nat} : 0 ≤ autoV b (extraL free autos) u := by
  unfold autoV
  split
  · unfold extraL
    split
    · rename_i h
      exact elemAt_pos (Int.le_of_lt h.2) _
    · unfold elemAt
      simp
  · exact Int.le_refl _
namespace Along
variable (c : Along)
theorem space_pos (k : Nat) : 0 ≤ c.space k := by
  unfold space
  split
  · exact betweenOf_pos _ _ _ _
  · exact Int.le_refl _
/-- Each stands behind the one ahead of it. -/
theorem place_next {k : Nat} (h : k + 1 < c.l.length) : c.place k + c.size k + (c.item k).behind + c.gap + (c.item (k + 1)).before ≤ c.place (k + 1) := by
  have h1 := autoV_pos (b := (c.item k).autoBehind) (free := c.free) (autos := c.autos) (u := c.used k + (c.item k).autoBefore.toNat)
  have h2 := autoV_pos (b := (c.item (k + 1)).autoBefore) (free := c.free) (autos := c.autos) (u := c.used (k + 1))
  have h3 := c.space_pos k
  show c.at_ k + c.ahead k + c.size k + (c.item k).behind + c.gap + (c.item (k + 1)).before ≤ c.at_ k + c.ahead k + c.behind k + c.gapAt k + c.ahead (k + 1)
  rw [show c.behind k = c.size k + (c.item k).behind + autoV (c.item k).autoBehind c.extra (c.used k + (c.item k).autoBefore.toNat) from rfl,
    show c.ahead (k + 1) = (c.item (k + 1)).before + autoV (c.item (k + 1)).autoBefore c.extra (c.used (k + 1)) from rfl,
    show c.gapAt k = c.gap + c.space k from if_pos h]
  unfold extra
  omega
def spsum : Nat → Int
  | 0 => 0
  | k + 1 => spsum k + c.space k
def marg (l : List Item) : Int := (l.map fun x => x.before + x.behind).sum
theorem marg_next {l : List Item} {k : Nat} {x : Item} (h : l[k]? = some x) : marg (l.take (k + 1)) = marg (l.take k) + (x.before + x.behind) := by
  unfold marg
  rw [List.take_add_one, h, List.map_append, List.sum_append]
  simp
/-- Where the one behind the first k begins. -/
theorem step_sum {k : Nat} (hk : k < c.l.length) (hs : c.sizes.length = c.l.length) : c.ahead k + c.behind k = marg (c.l.take (k + 1)) - marg (c.l.take k) + (sumTo c.sizes (k + 1) - sumTo c.sizes k) + (esum c.extra (c.used (k + 1)) - esum c.extra (c.used k)) := by
  obtain ⟨x, hx⟩ : ∃ x, c.l[k]? = some x := ⟨_, List.getElem?_eq_getElem hk⟩
  obtain ⟨y, hy⟩ : ∃ y, c.sizes[k]? = some y := ⟨_, List.getElem?_eq_getElem (by omega)⟩
  rw [marg_next hx, sumTo_succ (hid hy), c.used_next hx]
  unfold ahead behind
  rw [c.item_at hx, c.size_at hy]
  have h1 := autoV_sum x.autoBefore c.extra (c.used k)
  have h2 := autoV_sum x.autoBehind c.extra (c.used k + x.autoBefore.toNat)
  rw [Nat.add_assoc] at h2
  omega
theorem at_sum (hs : c.sizes.length = c.l.length) : ∀ {k : Nat}, k < c.l.length → c.at_ k = c.start + marg (c.l.take k) + sumTo c.sizes k + esum c.extra (c.used k) + c.gap * (k : Int) + c.spsum k
  | 0, _ => by
    show c.start = c.start + 0 + 0 + 0 + c.gap * ((0 : Nat) : Int) + 0
    simp
  | k + 1, h => by
    have ih := at_sum hs (k := k) (by omega)
    have h1 := c.step_sum (k := k) (by omega) hs
    show c.at_ k + c.ahead k + c.behind k + c.gapAt k = _
    rw [show c.gapAt k = c.gap + c.space k from if_pos h, show c.spsum (k + 1) = c.spsum k + c.space k from rfl, ih]
    have e : c.gap * ((k + 1 : Nat) : Int) = c.gap * (k : Int) + c.gap := by push_cast; rw [Int.mul_add, Int.mul_one]
    rw [e]
    omega
/-- Where the last one ends. -/
theorem end_sum (hs : c.sizes.length = c.l.length) (h0 : 0 < c.l.length) : c.at_ c.l.length = c.start + outerOf c.l c.sizes c.gap + esum c.extra c.autos + c.spsum (c.l.length - 1) := by
  obtain ⟨n, hn⟩ : ∃ n, c.l.length = n + 1 := ⟨c.l.length - 1, by omega⟩
  have h1 := c.at_sum hs (k := n) (by omega)
  have h2 := c.step_sum (k := n) (by omega) hs
  have e1 : c.used (n + 1) = c.autos := by unfold used autos; rw [← hn, List.take_length]
  have e2 : c.l.take (n + 1) = c.l := by rw [← hn, List.take_length]
  have e3 : sumTo c.sizes (n + 1) = c.sizes.sum := by unfold sumTo; rw [← hn, ← hs, List.take_length]
  rw [e1, e2, e3] at h2
  rw [hn]
  show c.at_ n + c.ahead n + c.behind n + c.gapAt n = _
  rw [show c.gapAt n = 0 from if_neg (by omega), h1, show n + 1 - 1 = n from rfl]
  have e4 : outerOf c.l c.sizes c.gap = c.sizes.sum + marg c.l + c.gap * (n : Int) := by
    unfold outerOf marg
    rw [hn]
    rfl
  rw [e4]
  omega
end Along
end Go.Proofs.Ytdohglcjjlmhhaa
namespace Go.Proofs.Ytdohglcjjlmhhaa
open Go.RowKit

theorem along_get {l : List Item} {s : List Int} {gap inner justify : Int} (hok : alongOk l s gap inner = true) {k : Nat} (hk : k < l.length) : (alongPlaces l s gap inner justify)[k]? = some ((alongOf l s gap inner justify).place k) := by
  unfold alongPlaces
  rw [if_pos hok]
  simp [Along.placesTo, hk]
theorem along_step {l : List Item} {s : List Int} {gap inner justify : Int} (hok : alongOk l s gap inner = true) {k : Nat} (hk : k + 1 < l.length) {x z : Item} {y : Int} (hx : l[k]? = some x) (hz : l[k + 1]? = some z) (hy : s[k]? = some y) :
    (alongOf l s gap inner justify).place k + y + x.behind + gap + z.before ≤ (alongOf l s gap inner justify).place (k + 1) := by
  have h := (alongOf l s gap inner justify).place_next (k := k) hk
  rw [(alongOf l s gap inner justify).item_at (k := k) hx, (alongOf l s gap inner justify).item_at (k := k + 1) hz, (alongOf l s gap inner justify).size_at (k := k) hy] at h
  exact h
theorem place_bd {l : List Item} {s : List Int} {gap inner justify : Int} (hok : alongOk l s gap inner = true) {k : Nat} (hk : k < l.length) : -1000000000000 ≤ (alongOf l s gap inner justify).place k ∧ (alongOf l s gap inner justify).place k ≤ 1000000000000 := by
  obtain ⟨h1, h2, h3, h4, h5, h6⟩ := alongOk_says hok
  have hb := at_bd (c := alongOf l s gap inner justify) (fun x hx => (h3 x hx).fits) h4 h5 (signedL_bd _) k
  obtain ⟨x, hx⟩ : ∃ x, l[k]? = some x := ⟨_, List.getElem?_eq_getElem hk⟩
  obtain ⟨-, -, -, -, -, hx6, -⟩ := h3 x (List.mem_of_getElem? hx)
  have h8 := autoV_bd x.autoBefore (alongOf l s gap inner justify).free (alongOf l s gap inner justify).autos ((alongOf l s gap inner justify).used k)
  show -1000000000000 ≤ (alongOf l s gap inner justify).at_ k + (alongOf l s gap inner justify).ahead k ∧ (alongOf l s gap inner justify).at_ k + (alongOf l s gap inner justify).ahead k ≤ 1000000000000
  unfold Along.ahead
  rw [(alongOf l s gap inner justify).item_at (k := k) hx]
  unfold Along.extra
  omega
theorem along_end {l : List Item} {s : List Int} {gap inner justify : Int} (hok : alongOk l s gap inner = true) (h0 : 0 < l.length) :
    alongEnd l s gap inner justify = (alongOf l s gap inner justify).start + outerOf l s gap + esum (alongOf l s gap inner justify).extra (autosIn l) + (alongOf l s gap inner justify).spsum (l.length - 1) := by
  unfold alongEnd
  rw [if_pos hok]
  exact (alongOf l s gap inner justify).end_sum (alongOk_says hok).2.1 h0
theorem spsum_zero {c : Along} (h : ∀ k, c.space k = 0) : ∀ k, c.spsum k = 0
  | 0 => rfl
  | k + 1 => by
    show c.spsum k + c.space k = 0
    rw [spsum_zero h k, h k]
    rfl
theorem spsum_even {c : Along} {e : List Int} (h : ∀ k, c.space k = elemAt e k) : ∀ k, c.spsum k = esum e k
  | 0 => rfl
  | k + 1 => by
    show c.spsum k + c.space k = esum e k + elemAt e k
    rw [spsum_even h k, h k]
/-- All behind: the last one ends where the room ends. -/
theorem end_end {l : List Item} {s : List Int} {gap inner : Int} (hok : alongOk l s gap inner = true) (h0 : 0 < l.length) (ha : autosIn l = 0) (f0 : -1048576 ≤ inner - outerOf l s gap) (f1 : inner - outerOf l s gap ≤ 1048576) : alongEnd l s gap inner 2 = inner := by
  have hn := (alongOk_says hok).1
  rw [along_end hok h0, ha]
  have e1 : (alongOf l s gap inner 2).start = inner - outerOf l s gap := by
    unfold Along.start
    rw [if_pos (show (alongOf l s gap inner 2).autos = 0 from ha)]
    show leadOf (signedL (inner - outerOf l s gap)) l.length 2 = _
    rw [signedL_of f0 f1]
    unfold leadOf
    rw [if_neg (by omega), if_pos rfl]
  have e2 := spsum_zero (c := alongOf l s gap inner 2) (fun k => by
    unfold Along.space
    rw [if_pos (show (alongOf l s gap inner 2).autos = 0 from ha)]
    show betweenOf (signedL (inner - outerOf l s gap)) l.length 2 k = 0
    unfold betweenOf
    simp) (l.length - 1)
  rw [e1, e2]
  show inner - outerOf l s gap + outerOf l s gap + 0 + 0 = inner
  omega
/-- Spread: the last one ends where the room ends. -/
theorem end_between {l : List Item} {s : List Int} {gap inner : Int} (hok : alongOk l s gap inner = true) (h2 : 2 ≤ l.length) (ha : autosIn l = 0) (f0 : 0 ≤ inner - outerOf l s gap) (f1 : inner - outerOf l s gap ≤ 1048576) : alongEnd l s gap inner 4 = inner := by
  have hn := (alongOk_says hok).1
  rw [along_end hok (by omega), ha]
  have hf := signedL_of (x := inner - outerOf l s gap) (by omega) f1
  have e1 : (alongOf l s gap inner 4).start = 0 := by
    unfold Along.start
    rw [if_pos (show (alongOf l s gap inner 4).autos = 0 from ha)]
    show leadOf (signedL (inner - outerOf l s gap)) l.length 4 = _
    rw [hf]
    unfold leadOf
    rw [if_neg (by omega), if_neg (by decide), if_neg (by omega), if_neg (by decide), if_neg (by decide)]
  have e2 := spsum_even (c := alongOf l s gap inner 4) (e := evenly (inner - outerOf l s gap) ((l.length : Int) - 1)) (fun k => by
    unfold Along.space
    rw [if_pos (show (alongOf l s gap inner 4).autos = 0 from ha)]
    show betweenOf (signedL (inner - outerOf l s gap)) l.length 4 k = _
    rw [hf]
    unfold betweenOf
    rw [if_neg (by omega), if_pos rfl]) (l.length - 1)
  have e3 : ((l.length : Int) - 1) = ((l.length - 1 : Nat) : Int) := by omega
  have e4 : esum (evenly (inner - outerOf l s gap) ((l.length - 1 : Nat) : Int)) (l.length - 1) = inner - outerOf l s gap := by
    rw [esum_take (by rw [evenly_len _ _ (by omega) (by omega)]; omega), evenly_sum (by omega) (by omega), hf]
  rw [e1, e2, e3, e4]
  show 0 + outerOf l s gap + 0 + (inner - outerOf l s gap) = inner
  omega
/-- Auto margins: the last one ends where the room ends. -/
theorem end_auto {l : List Item} {s : List Int} {gap inner justify : Int} (hok : alongOk l s gap inner = true) (h0 : 0 < l.length) (ha : autosIn l ≠ 0) (f0 : 0 < inner - outerOf l s gap) (f1 : inner - outerOf l s gap ≤ 1048576) : alongEnd l s gap inner justify = inner := by
  have hn := (alongOk_says hok).1
  have hle := autosIn_le l
  have hf := signedL_of (x := inner - outerOf l s gap) (by omega) f1
  rw [along_end hok h0]
  have e1 : (alongOf l s gap inner justify).start = 0 := by
    unfold Along.start
    rw [if_neg (show ¬ (alongOf l s gap inner justify).autos = 0 from ha)]
  have e2 := spsum_zero (c := alongOf l s gap inner justify) (fun k => by
    unfold Along.space
    rw [if_neg (show ¬ (alongOf l s gap inner justify).autos = 0 from ha)]) (l.length - 1)
  have e3 : (alongOf l s gap inner justify).extra = evenly (inner - outerOf l s gap) (autosIn l) := by
    show extraL (signedL (inner - outerOf l s gap)) (autosIn l) = _
    rw [hf]
    unfold extraL
    rw [if_pos ⟨by omega, f0⟩]
  rw [e1, e2, e3, esum_take (by rw [evenly_len _ _ (by omega) (by omega)]; omega), evenly_sum (by omega) (by omega), hf]
  omega
def twenty : Item := { base := 20, least := 0, most := -1, grow := 0, shrink := 0, before := 0, behind := 0, autoBefore := false, autoBehind := false }
theorem along_two : alongPlaces [twenty, twenty] [20, 20] 0 100 4 = [0, 80] := by kernel_rfl
end Go.Proofs.Ytdohglcjjlmhhaa
namespace Go.Proofs.Ytdohglcjjlmhhaa
open Go.RowKit

set_option maxRecDepth 100000 in
theorem lsameInts_any (x y : List Int) (a b : Option Addr) (c c' : Nat) (R S : Nat → Prop) (w : World) (hx : x.length ≤ 1048576) (hy : y.length ≤ 1048576) (h : IntSlice R w a x) (h' : IntSlice S w b y) :
    Calls Try.prog 13 #[.slice a x.length c, .slice b y.length c'] w fun e w' => e = .returned (.bool (decide (x = y))) ∧ Mod (fun _ => False) w w' := by
  refine calls_sx Try.func13 rfl rfl (fun a h1 h2 h3 => ((Fr.nil h1 h2).arg (h3 1 _ rfl)).arg (h3 0 _ rfl)) ?_
  repeat (first | refine SX.seq ?_ | refine SXl.nil ?_ | refine SX.region ?_ | refine SQ.thenNormal ?_ | (refine l_move ?_; (refine SXl.v (OpW.move rfl) rfl ?_ ?_ ?_); rfl; rfl) | (refine l_assign ?_; (refine SXl.v (OpW.assign rfl) rfl ?_ ?_ ?_); rfl; rfl) | (refine l_len ?_; (refine SXl.v (OpW.len rfl) rfl ?_ ?_ ?_); rfl; rfl) | (refine l_neq ?_; (refine SXl.v (OpW.neq rfl rfl) rfl ?_ ?_ ?_); rfl; rfl))
  refine SX.cond rfl (fun hc => ?_) (fun hc => ?_)
  · (try simp only [Bool.not_eq_true', Bool.not_eq_false', decide_eq_true_eq, decide_eq_false_iff_not, Bool.and_eq_true, Bool.or_eq_true, Bool.or_eq_false_iff, Bool.and_eq_false_iff, Int.ofNat_inj, Int.ofNat_lt, Int.ofNat_le] at hc)
    repeat (first | refine SX.seq ?_ | refine SXl.nil ?_ | refine SX.region ?_ | refine SQ.thenNormal ?_ | (refine l_assign ?_; (refine SXl.v (OpW.assign rfl) rfl ?_ ?_ ?_); rfl; rfl) | refine SX.ret ?_ | refine SQ.thenRet ?_)
    refine SQ.body1 rfl rfl (fun w' hl => ⟨ret_bool (by symm; simp; rintro rfl; exact hc rfl), hl.mod⟩)
  · (try simp only [Bool.not_eq_true', Bool.not_eq_false', decide_eq_true_eq, decide_eq_false_iff_not, Bool.and_eq_true, Bool.or_eq_true, Bool.or_eq_false_iff, Bool.and_eq_false_iff, Int.ofNat_inj, Int.ofNat_lt, Int.ofNat_le] at hc)
    repeat (first | refine SX.seq ?_ | refine SXl.nil ?_ | refine SX.region ?_ | refine SQ.thenNormal ?_ | refine SX.block ?_ | refine SX.skip ?_ | (refine l_assign ?_; (refine SXl.v (OpW.assign rfl) rfl ?_ ?_ ?_); rfl; rfl))
    refine SX.loopi (fun k : Nat => k ≤ x.length ∧ SameTo x y k) (fun k => x.length - k) (fun _ => []) (fun _ => []) (fun _ => []) (fun k => [(0, .slice a x.length c), (1, .slice b y.length c'), (5, .int .i64 k)]) 0 ⟨Nat.zero_le _, rfl⟩ ?_ (fun _ hl => hl) ?_
    · (repeat (first | exact subF_nil _ | (refine subF_cons rfl ?_) | (refine subF_consv rfl (by rfl) ?_)))
    · rintro k ⟨hk, hs⟩
      by_cases hlt : k < x.length
      · obtain ⟨b1, o1, u, rfl, _, _, hxk, hc1⟩ := IntSlice.get h hlt
        obtain ⟨b2, o2, v, rfl, _, _, hyk, hc2⟩ := IntSlice.get h' (hc ▸ hlt)
        repeat (first | refine SX.seq ?_ | refine SXl.nil ?_ | refine SX.region ?_ | refine SQ.thenNormal ?_ | refine SX.block ?_ | refine SX.skip ?_ | refine SX.condT rfl ?_ | (refine l_move ?_; (refine SXl.v (OpW.move rfl) rfl ?_ ?_ ?_); rfl; rfl) | (refine l_len ?_; (refine SXl.v (OpW.len rfl) rfl ?_ ?_ ?_); rfl; rfl) | (refine l_lss ?_; (refine SXl.v (OpW.lssT rfl rfl (by omega)) rfl ?_ ?_ ?_); rfl; rfl) | refine SX.drawn (by kernel_rfl) (by kernel_rfl) ?_ | refine SXr.nil ?_ | (refine r_load ?_; (refine SXr.v (OpW.loadOld rfl (by assumption) (fun h => h)) rfl ?_ ?_ ?_); rfl; rfl) | (refine r_move ?_; (refine SXr.v (OpW.move rfl) rfl ?_ ?_ ?_); rfl; rfl) | (refine r_neq ?_; (refine SXr.v (OpW.neq rfl rfl) rfl ?_ ?_ ?_); rfl; rfl) | (refine r_indexAddr ?_; (refine SXr.v (OpW.indexAddr1 (by omega) rfl rfl) rfl ?_ ?_ ?_); rfl; rfl))
        refine SX.cond rfl (fun hq => ?_) (fun hq => ?_)
        · (try simp only [Bool.not_eq_true', Bool.not_eq_false', decide_eq_true_eq, decide_eq_false_iff_not, Bool.and_eq_true, Bool.or_eq_true, Bool.or_eq_false_iff, Bool.and_eq_false_iff, Int.ofNat_inj, Int.ofNat_lt, Int.ofNat_le] at hq)
          repeat (first | refine SX.seq ?_ | refine SXl.nil ?_ | refine SX.region ?_ | refine SQ.thenNormal ?_ | (refine l_assign ?_; (refine SXl.v (OpW.assign rfl) rfl ?_ ?_ ?_); rfl; rfl) | refine SX.ret ?_ | refine SQ.thenRet ?_ | refine SQ.blockRet ?_)
          refine SQ.body1 rfl rfl (fun w' hl => ⟨ret_bool (by symm; simp; exact ne_at hxk hyk hq), hl.mod⟩)
        · (try simp only [Bool.not_eq_true', Bool.not_eq_false', decide_eq_true_eq, decide_eq_false_iff_not, Bool.and_eq_true, Bool.or_eq_true, Bool.or_eq_false_iff, Bool.and_eq_false_iff, Int.ofNat_inj, Int.ofNat_lt, Int.ofNat_le] at hq)
          repeat (first | refine SXl.nil ?_ | refine SX.region ?_ | refine SQ.thenNormal ?_ | refine SX.skip ?_ | (refine l_move ?_; (refine SXl.v (OpW.move rfl) rfl ?_ ?_ ?_); rfl; rfl) | (refine l_assign ?_; (refine SXl.v (OpW.assign rfl) rfl ?_ ?_ ?_); rfl; rfl) | (refine l_add ?_; (refine SXl.v (OpW.succ rfl rfl (by omega)) rfl ?_ ?_ ?_); rfl; rfl) | refine SQ.blockNormal ?_)
          refine SQ.roundi (k + 1) ⟨by omega, hs.succ hxk (hq ▸ hyk)⟩ (by omega) ?_ (fun _ hl => hl)
          (repeat (first | exact subF_nil _ | (refine subF_cons rfl ?_) | (refine subF_consv rfl (by rfl) ?_)))
      · repeat (first | refine SX.seq ?_ | refine SXl.nil ?_ | refine SX.region ?_ | refine SQ.thenNormal ?_ | refine SX.condF rfl ?_ | (refine l_move ?_; (refine SXl.v (OpW.move rfl) rfl ?_ ?_ ?_); rfl; rfl) | (refine l_assign ?_; (refine SXl.v (OpW.assign rfl) rfl ?_ ?_ ?_); rfl; rfl) | (refine l_len ?_; (refine SXl.v (OpW.len rfl) rfl ?_ ?_ ?_); rfl; rfl) | (refine l_lss ?_; (refine SXl.v (OpW.lssF rfl rfl (by omega)) rfl ?_ ?_ ?_); rfl; rfl) | refine SX.ret ?_ | refine SX.exit ?_ | refine SQ.thenExit ?_ | refine SQ.blockExit ?_)
        refine SQ.body1 rfl rfl (fun w' hl => ⟨ret_bool (by symm; simp; exact hs.all (by omega) (by omega)), hl.mod⟩)

end Go.Proofs.Ytdohglcjjlmhhaa
