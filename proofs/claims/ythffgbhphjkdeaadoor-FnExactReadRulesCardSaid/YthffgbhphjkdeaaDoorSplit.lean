/-
  PROVED: what a text cut at a sign is, in plain words; the library's cut is the same; a joined text cut again. No condition, no program in sight.
-/
import Derived.Lib.SplitLaws
import Derived.Lib.Join
namespace Go.Proofs.YthffgbhphjkdeaaDoor

def splitL (c : UInt8) : List UInt8 → List (List UInt8)
  | [] => [[]]
  | x :: l => if x = c then [] :: splitL c l else match splitL c l with
    | [] => [[x]]
    | p :: ps => (x :: p) :: ps
theorem splitL_ne (c : UInt8) (l : List UInt8) : splitL c l ≠ [] := by
  cases l with
  | nil => simp [splitL]
  | cons x l =>
    unfold splitL
    split
    · simp
    · split <;> simp
theorem splitL_cut {c : UInt8} : ∀ {p r : List UInt8}, c ∉ p → splitL c (p ++ c :: r) = p :: splitL c r
  | [], r, _ => by simp [splitL]
  | x :: p, r, h => by
    have hx : ¬ x = c := fun e => h (by simp [e])
    have ih := splitL_cut (p := p) (r := r) (fun m => h (List.mem_cons_of_mem _ m))
    rw [List.cons_append, splitL, if_neg hx, ih]
theorem splitL_whole {c : UInt8} : ∀ {p : List UInt8}, c ∉ p → splitL c p = [p]
  | [], _ => rfl
  | x :: p, h => by
    have hx : ¬ x = c := fun e => h (by simp [e])
    rw [splitL, if_neg hx, splitL_whole (fun m => h (List.mem_cons_of_mem _ m))]
theorem splitL_len (c : UInt8) : ∀ l : List UInt8, (splitL c l).length ≤ l.length + 1
  | [] => by simp [splitL]
  | x :: l => by
    have ih := splitL_len c l
    unfold splitL
    split
    · simp only [List.length_cons]; omega
    · split
      · simp
      · rename_i h
        rw [h] at ih
        simp only [List.length_cons] at ih ⊢
        omega
theorem splitL_short (c : UInt8) : ∀ (l : List UInt8), ∀ p ∈ splitL c l, p.length ≤ l.length
  | [], p, h => by simp [splitL] at h; subst h; simp
  | x :: l, p, h => by
    have ih := splitL_short c l
    unfold splitL at h
    split at h
    · rcases List.mem_cons.1 h with rfl | h
      · simp
      · have := ih p h; simp only [List.length_cons]; omega
    · split at h
      · simp at h; subst h; simp
      · rename_i e
        rcases List.mem_cons.1 h with rfl | h
        · have := ih _ (by rw [e]; exact List.mem_cons_self); simp only [List.length_cons]; omega
        · have := ih p (by rw [e]; exact List.mem_cons_of_mem _ h); simp only [List.length_cons]; omega
/-- Joined, and cut again. -/
theorem splitL_join {c : UInt8} : ∀ {l : List (List UInt8)}, l ≠ [] → (∀ x ∈ l, c ∉ x) → splitL c (Lib.join l [c]) = l
  | [], h, _ => (h rfl).elim
  | [x], _, h => by rw [Lib.join_one]; exact splitL_whole (h x List.mem_cons_self)
  | x :: y :: l, _, h => by
    have ih := splitL_join (c := c) (l := y :: l) (by simp) (fun z hz => h z (List.mem_cons_of_mem _ hz))
    have e : Lib.join (x :: y :: l) [c] = x ++ c :: Lib.join (y :: l) [c] := by
      rw [Lib.join_cons, Lib.join_cons]
      simp [Lib.joinTail]
    rw [e, splitL_cut (h x List.mem_cons_self), ih]
/-- The place of a sign. -/
theorem index_sign {c : UInt8} : ∀ (l : List UInt8), (Lib.index l [c] = -1 ∧ c ∉ l) ∨ ∃ p r, l = p ++ c :: r ∧ c ∉ p ∧ Lib.index l [c] = (p.length : Int)
  | [] => .inl ⟨by simp [Lib.index], by simp⟩
  | x :: l => by
    by_cases hx : c = x
    · subst hx
      exact .inr ⟨[], l, rfl, by simp, by simp [Lib.index]⟩
    · have hp : ([c].isPrefixOf (x :: l)) = false := by simp [List.isPrefixOf, hx]
      rcases index_sign (c := c) l with ⟨h1, h2⟩ | ⟨p, r, rfl, h2, h3⟩
      · left
        refine ⟨?_, by simp [hx, h2]⟩
        rw [Lib.index, hp, h1]; rfl
      · right
        refine ⟨x :: p, r, rfl, by simp [hx, h2], ?_⟩
        rw [Lib.index, hp, h3]
        have : ((p.length : Int) == -1) = false := by rw [beq_eq_false_iff_ne]; omega
        rw [if_neg (by simp), this]
        simp
theorem splitK_sign (c : UInt8) : ∀ (n : Nat) (l : List UInt8), l.length ≤ n → Lib.splitK [c] 0 (Lib.count l [c]) l = splitL c l
  | n, l, hn => by
    rcases index_sign (c := c) l with ⟨h1, h2⟩ | ⟨p, r, rfl, h2, h3⟩
    · rw [Lib.count_miss h1, splitL_whole h2]; rfl
    · have e : (p ++ c :: r).drop (p.length + [c].length) = r := by
        rw [List.drop_append]
        simp
      have hc := Lib.count_hit (by simp) h3
      rw [e] at hc
      rw [hc, Nat.add_comm 1, Lib.splitK, splitL_cut h2, h3]
      have : ((p.length : Int) == -1) = false := by rw [beq_eq_false_iff_ne]; omega
      have e2 : ((p.length : Int)).toNat = p.length := by omega
      rw [this, if_neg (by simp), e2, e]
      have hl : r.length < n := by
        simp only [List.length_append, List.length_cons] at hn
        omega
      match n, hl with
      | m + 1, hl => rw [splitK_sign c m r (by omega)]; simp
theorem splitB_sign (c : UInt8) (t : List UInt8) : (Lib.splitB ⟨#[c]⟩ 0 (Lib.countB ⟨t.toArray⟩ ⟨#[c]⟩) ⟨t.toArray⟩).map Value.string = (splitL c t).map fun x => Value.string ⟨x.toArray⟩ := by
  have h := Lib.splitB_data ⟨#[c]⟩ 0 (Lib.countB ⟨t.toArray⟩ ⟨#[c]⟩) ⟨t.toArray⟩
  have h2 : Lib.splitK [c] 0 (Lib.count t [c]) t = splitL c t := splitK_sign c t.length t (Nat.le_refl _)
  rw [← h2]
  have h3 : (Lib.splitB ⟨#[c]⟩ 0 (Lib.countB ⟨t.toArray⟩ ⟨#[c]⟩) ⟨t.toArray⟩).map (·.data.toList) = Lib.splitK [c] 0 (Lib.count t [c]) t := h
  rw [← h3, List.map_map]
  rfl
theorem countB_sign (c : UInt8) (t : List UInt8) : Lib.countB ⟨t.toArray⟩ ⟨#[c]⟩ + 1 = (splitL c t).length := by
  have h := Lib.splitB_all ⟨#[c]⟩ (by show 1 ≤ 1; decide) 0 _ ⟨t.toArray⟩ rfl
  have h2 := congrArg List.length (splitB_sign c t)
  rw [List.length_map, List.length_map, h] at h2
  exact h2
end Go.Proofs.YthffgbhphjkdeaaDoor
