/-
  PROVED: the numbers of a list, each once, sorted by merging, are the numbers put in their places one by one. No program in sight.
-/
namespace Go.Proofs.Ytefgjjmnjanleaa

/-- One more number, if it isn't there. -/
def uniqStep (d : List Int) (x : Int) : List Int := if x ∈ d then d else d ++ [x]
def uniq (l : List Int) : List Int := l.foldl uniqStep []
/-- A number put in its place. -/
def insU (x : Int) : List Int → List Int
  | [] => [x]
  | y :: t => if y < x then y :: insU x t else if y = x then y :: t else x :: y :: t
def insAll (l : List Int) : List Int := l.foldl (fun d x => insU x d) []

theorem mem_insU (x y : Int) (d : List Int) : y ∈ insU x d ↔ y = x ∨ y ∈ d := by
  induction d with
  | nil => simp [insU]
  | cons z t ih =>
    unfold insU
    split
    · simp only [List.mem_cons, ih]
      constructor
      · rintro (h | h | h) <;> simp [h]
      · rintro (h | h | h) <;> simp [h]
    · split
      · rename_i h; subst h; simp
      · simp
theorem sorted_insU (x : Int) (d : List Int) (h : d.Pairwise (· < ·)) : (insU x d).Pairwise (· < ·) := by
  induction d with
  | nil => simp [insU]
  | cons z t ih =>
    rw [List.pairwise_cons] at h
    unfold insU
    split
    · rename_i hz
      rw [List.pairwise_cons]
      refine ⟨fun y hy => ?_, ih h.2⟩
      rcases (mem_insU x y t).1 hy with e | e
      · omega
      · exact h.1 y e
    · split
      · rw [List.pairwise_cons]; exact h
      · rw [List.pairwise_cons, List.pairwise_cons]
        refine ⟨fun y hy => ?_, h⟩
        rcases List.mem_cons.1 hy with e | e
        · omega
        · have := h.1 y e; omega
theorem insAll_spec (l : List Int) (d : List Int) (hd : d.Pairwise (· < ·)) : (l.foldl (fun d x => insU x d) d).Pairwise (· < ·) ∧ ∀ y, y ∈ l.foldl (fun d x => insU x d) d ↔ y ∈ d ∨ y ∈ l := by
  induction l generalizing d with
  | nil => exact ⟨hd, fun y => by simp⟩
  | cons x l ih =>
    obtain ⟨h1, h2⟩ := ih (insU x d) (sorted_insU x d hd)
    refine ⟨h1, fun y => ?_⟩
    rw [List.foldl_cons, h2 y, mem_insU, List.mem_cons]
    constructor
    · rintro ((h | h) | h) <;> simp [h]
    · rintro (h | h | h) <;> simp [h]
theorem uniq_spec (l : List Int) (d : List Int) (hd : d.Nodup) : (l.foldl uniqStep d).Nodup ∧ ∀ y, y ∈ l.foldl uniqStep d ↔ y ∈ d ∨ y ∈ l := by
  induction l generalizing d with
  | nil => exact ⟨hd, fun y => by simp⟩
  | cons x l ih =>
    have hn : (uniqStep d x).Nodup := by
      unfold uniqStep
      split
      · exact hd
      · rename_i hx
        rw [List.nodup_append]
        exact ⟨hd, by simp, fun a ha b hb => by
          simp only [List.mem_singleton] at hb
          subst hb
          exact fun e => hx (e ▸ ha)⟩
    have hm : ∀ y, y ∈ uniqStep d x ↔ y ∈ d ∨ y = x := by
      intro y
      unfold uniqStep
      split
      · rename_i hx
        constructor
        · exact .inl
        · rintro (h | h)
          · exact h
          · rw [h]; exact hx
      · simp
    obtain ⟨h1, h2⟩ := ih _ hn
    refine ⟨h1, fun y => ?_⟩
    rw [List.foldl_cons, h2 y, hm, List.mem_cons]
    constructor
    · rintro ((h | h) | h) <;> simp [h]
    · rintro (h | h | h) <;> simp [h]
theorem sorted_ext (a b : List Int) (ha : a.Pairwise (· < ·)) (hb : b.Pairwise (· < ·)) (h : ∀ y, y ∈ a ↔ y ∈ b) : a = b := by
  induction a generalizing b with
  | nil =>
    cases b with
    | nil => rfl
    | cons y t => exact absurd ((h y).2 List.mem_cons_self) (by simp)
  | cons x s ih =>
    cases b with
    | nil => exact absurd ((h x).1 List.mem_cons_self) (by simp)
    | cons y t =>
      rw [List.pairwise_cons] at ha hb
      have hxy : x = y := by
        have h1 := (h x).1 List.mem_cons_self
        have h2 := (h y).2 List.mem_cons_self
        rcases List.mem_cons.1 h1 with e | e
        · exact e
        · rcases List.mem_cons.1 h2 with e' | e'
          · exact e'.symm
          · have := hb.1 x e; have := ha.1 y e'; omega
      subst hxy
      rw [ih t ha.2 hb.2]
      intro z
      constructor
      · intro hz
        rcases List.mem_cons.1 ((h z).1 (List.mem_cons_of_mem _ hz)) with e | e
        · have := ha.1 z hz; omega
        · exact e
      · intro hz
        rcases List.mem_cons.1 ((h z).2 (List.mem_cons_of_mem _ hz)) with e | e
        · have := hb.1 z hz; omega
        · exact e
theorem strict_of {l : List Int} (h : l.Pairwise (· ≤ ·)) (hn : l.Nodup) : l.Pairwise (· < ·) := by
  unfold List.Nodup at hn
  exact (h.and hn).imp fun ⟨h1, h2⟩ => by omega
theorem sort_uniq (l : List Int) : (uniq l).mergeSort (fun x y => decide (x ≤ y)) = insAll l := by
  obtain ⟨h1, h2⟩ := uniq_spec l [] List.nodup_nil
  obtain ⟨h3, h4⟩ := insAll_spec l [] List.Pairwise.nil
  refine sorted_ext _ _ (strict_of ?_ ?_) h3 fun y => ?_
  · have := List.pairwise_mergeSort (le := fun x y : Int => decide (x ≤ y)) (by intro a b c hab hbc; simp at *; omega) (by intro a b; simp; omega) (uniq l)
    exact this.imp fun h => by simpa using h
  · exact (List.mergeSort_perm (uniq l) _).nodup_iff.2 h1
  · rw [(List.mergeSort_perm (uniq l) _).mem_iff]
    show y ∈ l.foldl uniqStep [] ↔ y ∈ l.foldl (fun d x => insU x d) []
    rw [h2, h4]

theorem uniq_length (l : List Int) : (uniq l).length ≤ l.length := by
  have key : ∀ (l d : List Int), (l.foldl uniqStep d).length ≤ d.length + l.length := by
    intro l
    induction l with
    | nil => intro d; simp
    | cons x l ih =>
      intro d
      have := ih (uniqStep d x)
      have h2 : (uniqStep d x).length ≤ d.length + 1 := by unfold uniqStep; split <;> simp
      rw [List.foldl_cons, List.length_cons]
      omega
  simpa [uniq] using key l []
theorem uniq_succ {l : List Int} {k : Nat} {x : Int} (h : l[k]? = some x) : uniq (l.take (k + 1)) = uniqStep (uniq (l.take k)) x := by
  unfold uniq
  rw [List.take_add_one, h, List.foldl_append]
  rfl
theorem insAll_succ {l : List Int} {k : Nat} {x : Int} (h : l[k]? = some x) : insAll (l.take (k + 1)) = insU x (insAll (l.take k)) := by
  unfold insAll
  rw [List.take_add_one, h, List.foldl_append]
  rfl
/-- A number's place: it stands behind all smaller ones. -/
theorem insU_at (x : Int) (d : List Int) (j : Nat) (hj : j ≤ d.length) (hlt : ∀ i y, i < j → d[i]? = some y → y < x) (hge : ∀ y, d[j]? = some y → ¬ y < x) :
    insU x d = if d[j]? = some x then d else d.take j ++ x :: d.drop j := by
  induction d generalizing j with
  | nil =>
    obtain rfl : j = 0 := by simpa using hj
    simp [insU]
  | cons y t ih =>
    cases j with
    | zero =>
      have h := hge y rfl
      unfold insU
      rw [if_neg h]
      by_cases e : y = x
      · subst e; simp
      · simp [e]
    | succ j =>
      have h := hlt 0 y (by omega) rfl
      unfold insU
      rw [if_pos h, ih j (by simpa using hj) (fun i z hi hz => hlt (i + 1) z (by omega) hz) (fun z hz => hge z hz)]
      simp only [List.getElem?_cons_succ, List.take_succ_cons, List.drop_succ_cons, List.cons_append]
      split <;> rfl

end Go.Proofs.Ytefgjjmnjanleaa
