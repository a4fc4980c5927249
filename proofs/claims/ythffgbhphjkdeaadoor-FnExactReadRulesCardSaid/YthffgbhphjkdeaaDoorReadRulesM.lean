/-
  PROVED: what ReadRules reads, in plain words; the program's way and the reference's agree; a table is read back from its text. No condition, no program in sight.
-/
import Derived.Test.YthffgbhphjkdeaaDoorSplit
import Derived.Test.YthffgbhphjkdeaaDoorRuleText
import Derived.Test.YthffgbhphjkdeaaDoorReadMath
namespace Go.Proofs.YthffgbhphjkdeaaDoor
open Go.RowKit

theorem decDigits_short : ∀ (k u : Nat), 1 ≤ k → u < 10 ^ k → (Lib.decDigits u).length ≤ k
  | 0, _, h, _ => by omega
  | k + 1, u, _, h => by
    rw [Lib.decDigits]
    split
    · simp
    · rename_i h10
      have hk : 1 ≤ k := by
        rcases Nat.eq_zero_or_pos k with rfl | hk
        · omega
        · exact hk
      have := decDigits_short k (u / 10) hk (by rw [Nat.pow_succ] at h; omega)
      simp only [List.length_append, List.length_cons, List.length_nil]
      omega
theorem itoa_signs (n : Int) {u : UInt8} (h : u ∈ Lib.itoa n) : u.toNat = 45 ∨ (48 ≤ u.toNat ∧ u.toNat ≤ 57) := by
  have hd : ∀ m : Nat, u ∈ Lib.decDigits m → 48 ≤ u.toNat ∧ u.toNat ≤ 57 := fun m hm => by
    obtain ⟨i, hi⟩ := List.mem_iff_getElem?.1 hm
    obtain ⟨d, hd⟩ := Lib.digit_of_decFrom _ 0 m (decFrom_digits m) i u hi
    unfold Lib.digitVal at hd
    split at hd
    · assumption
    · cases hd
  unfold Lib.itoa at h
  split at h
  · rcases List.mem_cons.1 h with rfl | h
    · exact .inl (by decide)
    · exact .inr (hd _ h)
  · exact .inr (hd _ h)
theorem itoa_no {c : UInt8} (n : Int) (h : c.toNat ≠ 45 ∧ ¬ (48 ≤ c.toNat ∧ c.toNat ≤ 57)) : c ∉ Lib.itoa n := fun hm => by
  rcases itoa_signs n hm with h1 | h1
  · exact h.1 h1
  · exact h.2 h1
theorem ruleWord_no44 (r : Rule) : (44 : UInt8) ∉ ruleWord r := by
  have h := fun n => itoa_no (c := 44) n (by decide)
  simp [ruleWord, h]
theorem readDec_itoa {n : Int} (h0 : 0 ≤ n) (h1 : n ≤ 1000000000) : readDec (Lib.itoa n) = (n, true) := by
  obtain ⟨m, rfl⟩ : ∃ m : Nat, n = m := ⟨n.toNat, by omega⟩
  exact readDec_of (itoa_nat m).symm (by rw [itoa_nat]; exact decDigits_short 10 m (by decide) (by omega)) (by omega)
def readRoom (t : List UInt8) : Int × Bool := if t = [45, 49] then (-1, true) else readDec t
theorem itoa_neg1 : Lib.itoa (-1) = [45, 49] := by
  have := Lib.itoa_neg 1 (by decide)
  rw [show (-((1 : Nat) : Int)) = -1 from rfl] at this
  rw [this, Lib.decDigits]; rfl
theorem itoa_ne1 {n : Int} (h : 0 ≤ n) : Lib.itoa n ≠ [45, 49] := fun e => by
  obtain ⟨m, rfl⟩ : ∃ m : Nat, n = m := ⟨n.toNat, by omega⟩
  rw [itoa_nat] at e
  exact absurd (digits_head m e) (by decide)
theorem readRoom_itoa {n : Int} (h0 : -1 ≤ n) (h1 : n ≤ 1000000000) : readRoom (Lib.itoa n) = (n, true) := by
  unfold readRoom
  by_cases h : n = -1
  · subst h; rw [itoa_neg1]; rfl
  · rw [if_neg (itoa_ne1 (by omega)), readDec_itoa (by omega) h1]
theorem readInt_dec {t : List UInt8} (h : (readDec t).2 = true) : readInt t = readDec t := by
  obtain ⟨m, _, _, h3, _⟩ := readDec_true (n := (readDec t).1) (t := t) (by rw [← h])
  unfold readInt
  rw [if_neg]
  rintro ⟨_, h1⟩
  cases t with
  | nil => cases h1
  | cons b r =>
    have := digits_head m h3
    simp at h1
    subst h1
    revert this; decide
theorem readDec_one : readDec [49] = (1, true) := readDec_of (m := 1) (by rw [Lib.decDigits]; rfl) (by decide) (by decide)
theorem readInt_room {t : List UInt8} (h : (readRoom t).2 = true) : (readInt t).1 = (readRoom t).1 := by
  unfold readRoom at h ⊢
  split
  · rename_i e
    subst e
    unfold readInt
    rw [if_pos (by decide)]
    show -(readDec [49]).1 = -1
    rw [readDec_one]
  · rename_i e
    rw [if_neg e] at h
    rw [readInt_dec h]

/-- A rule's text, read as the program reads it. -/
def triI (p : List UInt8) : Option Rule := match splitL 58 p with
  | [a, b, d] => if (readRoom a).2 && (readDec b).2 && (readDec d).2 then some ⟨(readRoom a).1, (readDec b).1, (readDec d).1⟩ else none
  | _ => none
/-- .. and as the reference does. -/
def triS (p : List UInt8) : Option Rule := match splitL 58 p with
  | [a, b, d] => some ⟨(readInt a).1, (readInt b).1, (readInt d).1⟩
  | _ => none
theorem triS_of {p : List UInt8} {r : Rule} (h : triI p = some r) : triS p = some r := by
  unfold triI at h
  unfold triS
  split at h
  · split at h
    · rename_i hc
      simp only [Bool.and_eq_true] at hc
      rw [← Option.some.inj h, readInt_room hc.1.1, readInt_dec hc.1.2, readInt_dec hc.2]
    · cases h
  · cases h
theorem split_word (r : Rule) : splitL 58 (ruleWord r) = [Lib.itoa r.room, Lib.itoa r.wide, Lib.itoa r.high] := by
  have h := fun n => itoa_no (c := 58) n (by decide)
  have e : ruleWord r = Lib.itoa r.room ++ 58 :: (Lib.itoa r.wide ++ 58 :: Lib.itoa r.high) := by simp [ruleWord]
  rw [e, splitL_cut (h _), splitL_cut (h _), splitL_whole (h _)]
theorem ruleIn_b {r : Rule} (h : ruleIn r = true) : (-1 ≤ r.room ∧ r.room ≤ 1048576) ∧ (0 ≤ r.wide ∧ r.wide ≤ 1048576) ∧ 0 ≤ r.high ∧ r.high ≤ 1048576 := by
  unfold ruleIn inB at h
  simp only [Bool.and_eq_true, decide_eq_true_eq] at h
  obtain ⟨⟨⟨a, b⟩, c, d⟩, e, f⟩ := h
  exact ⟨⟨by omega, by omega⟩, ⟨by omega, by omega⟩, by omega, by omega⟩
theorem triI_word {r : Rule} (h : ruleIn r = true) : triI (ruleWord r) = some r := by
  obtain ⟨⟨a, b⟩, ⟨c, d⟩, e, f⟩ := ruleIn_b h
  unfold triI
  rw [split_word]
  simp only
  rw [readRoom_itoa a (by omega), readDec_itoa c (by omega), readDec_itoa e (by omega)]
  rfl
def rulesBy (tri : List UInt8 → Option Rule) : List (List UInt8) → List Rule → Option (List Rule)
  | [], acc => some acc
  | p :: ps, acc => if 6 ≤ acc.length then none else match tri p with
    | some r => rulesBy tri ps (acc ++ [r])
    | none => none
theorem rulesBy_more {f g : List UInt8 → Option Rule} (h : ∀ p r, f p = some r → g p = some r) : ∀ {ps : List (List UInt8)} {acc l : List Rule}, rulesBy f ps acc = some l → rulesBy g ps acc = some l
  | [], _, _, e => e
  | p :: ps, acc, l, e => by
    unfold rulesBy at e ⊢
    split at e
    · cases e
    · rename_i h6
      rw [if_neg h6]
      split at e
      · rename_i r hr
        rw [h p r hr]
        exact rulesBy_more h e
      · cases e
theorem rulesBy_len {f : List UInt8 → Option Rule} : ∀ {ps : List (List UInt8)} {acc l : List Rule}, rulesBy f ps acc = some l → l.length = acc.length + ps.length
  | [], _, _, e => by cases e; rfl
  | p :: ps, acc, l, e => by
    unfold rulesBy at e
    split at e
    · cases e
    · split at e
      · have := rulesBy_len e
        rw [List.length_append] at this
        simp only [List.length_cons, List.length_nil] at this ⊢
        omega
      · cases e
theorem rulesBy_words : ∀ {l acc : List Rule}, acc.length + l.length ≤ 6 → (∀ r ∈ l, ruleIn r = true) → rulesBy triI (l.map ruleWord) acc = some (acc ++ l)
  | [], acc, _, _ => by simp [rulesBy]
  | r :: l, acc, h, hr => by
    have ih := rulesBy_words (l := l) (acc := acc ++ [r]) (by simp only [List.length_append, List.length_cons, List.length_nil] at h ⊢; omega) (fun x hx => hr x (List.mem_cons_of_mem _ hx))
    rw [List.map_cons, rulesBy, if_neg (by simp only [List.length_cons] at h; omega), triI_word (hr r List.mem_cons_self)]
    simp only
    rw [ih]
    simp
def readRules (t : List UInt8) : List Rule × Bool := if t = [45] then ([], true) else match rulesBy triI (splitL 44 t) [] with
  | some l => if tableOk l && decide (ruleTextOf l = t) then (l, true) else ([], false)
  | none => ([], false)
def readRulesS (t : List UInt8) : List Rule × Bool := if t = [45] then ([], true) else match rulesBy triS (splitL 44 t) [] with
  | some l => if !decide (ruleTextOf l = []) && decide (ruleTextOf l = t) then (l, true) else ([], false)
  | none => ([], false)
theorem itoa_ne (n : Int) : Lib.itoa n ≠ [] := by
  unfold Lib.itoa
  split
  · simp
  · exact decDigits_ne _
theorem ruleTextOf_ne {l : List Rule} (h : tableOk l = true) : ruleTextOf l ≠ [] := by
  unfold ruleTextOf
  rw [h]
  cases l with
  | nil => simp
  | cons r l =>
    rw [if_neg (by simp), if_pos rfl, List.map_cons, Lib.join_cons]
    have := itoa_ne r.room
    simp [ruleWord, this]
/-- The two ways agree. -/
theorem readRulesS_eq (t : List UInt8) : readRulesS t = readRules t := by
  unfold readRulesS readRules
  by_cases h0 : t = [45]
  · rw [if_pos h0, if_pos h0]
  rw [if_neg h0, if_neg h0]
  cases hI : rulesBy triI (splitL 44 t) [] with
  | some l =>
    rw [rulesBy_more (fun _ _ => triS_of) hI]
    simp only
    have hne : l ≠ [] := by
      have := rulesBy_len hI
      have h2 := List.length_pos_iff.2 (splitL_ne 44 t)
      rintro rfl
      simp only [List.length_nil] at this
      omega
    cases hok : tableOk l
    · have : ruleTextOf l = [] := by unfold ruleTextOf; rw [if_neg (by simpa using hne), hok]; rfl
      simp [this]
    · simp [ruleTextOf_ne hok]
  | none =>
    cases hS : rulesBy triS (splitL 44 t) [] with
    | none => rfl
    | some l =>
      simp only
      rw [if_neg]
      intro hc
      simp only [Bool.and_eq_true, Bool.not_eq_true', decide_eq_false_iff_not, decide_eq_true_eq] at hc
      obtain ⟨hn, ht⟩ := hc
      have hne : l ≠ [] := by
        have := rulesBy_len hS
        have h2 := List.length_pos_iff.2 (splitL_ne 44 t)
        rintro rfl
        simp only [List.length_nil] at this
        omega
      have hl0 : ¬ l.length = 0 := by simpa using hne
      cases hok : tableOk l
      · exact hn (by unfold ruleTextOf; rw [if_neg hl0, hok]; rfl)
      obtain ⟨h6, hall⟩ := tableOk_parts hok
      have e : ruleTextOf l = Lib.join (l.map ruleWord) [44] := by unfold ruleTextOf; rw [if_neg hl0, hok]; rfl
      have hs : splitL 44 t = l.map ruleWord := by
        rw [← ht, e]
        exact splitL_join (by simpa using hne) (fun x hx => by
          obtain ⟨r, _, rfl⟩ := List.mem_map.1 hx
          exact ruleWord_no44 r)
      rw [hs, rulesBy_words (by simpa using h6) hall] at hI
      cases hI
theorem rulesBy_six {f : List UInt8 → Option Rule} : ∀ {ps : List (List UInt8)} {acc l : List Rule}, acc.length ≤ 6 → rulesBy f ps acc = some l → l.length ≤ 6
  | [], _, _, h, e => by cases e; exact h
  | p :: ps, acc, l, h, e => by
    unfold rulesBy at e
    split at e
    · cases e
    · split at e
      · exact rulesBy_six (by rw [List.length_append, List.length_singleton]; omega) e
      · cases e
theorem readRules_len (t : List UInt8) : (readRules t).1.length ≤ 6 := by
  unfold readRules
  split
  · simp
  · split
    · rename_i l hl
      have := rulesBy_six (by simp) hl
      split
      · exact this
      · simp
    · simp
/-- A table is read back from its text. -/
theorem readRules_back {l : List Rule} (h : ruleTextOf l ≠ []) : readRules (ruleTextOf l) = (l, true) := by
  unfold ruleTextOf at h ⊢
  split at h
  · rename_i h0
    have : l = [] := by simpa using h0
    subst this
    rfl
  rename_i h0
  rw [if_neg h0]
  cases hok : tableOk l
  · rw [hok] at h; exact (h rfl).elim
  rw [if_pos rfl]
  have hne : l ≠ [] := by simpa using h0
  obtain ⟨h6, hall⟩ := tableOk_parts hok
  have hs : splitL 44 (Lib.join (l.map ruleWord) [44]) = l.map ruleWord := splitL_join (by simpa using hne) (fun x hx => by
    obtain ⟨r, _, rfl⟩ := List.mem_map.1 hx
    exact ruleWord_no44 r)
  have h45 : Lib.join (l.map ruleWord) [44] ≠ [45] := fun e => by
    rw [e] at hs
    cases l with
    | nil => exact hne rfl
    | cons r l =>
      have h3 : splitL 44 [45] = [[45]] := splitL_whole (by decide)
      rw [h3] at hs
      simp only [List.map_cons, List.cons.injEq] at hs
      have h4 := split_word r
      rw [← hs.1, splitL_whole (by decide)] at h4
      have h5 := congrArg List.length h4
      simp at h5
  unfold readRules
  rw [if_neg h45, hs, rulesBy_words (by simpa using h6) hall]
  have e : ruleTextOf l = Lib.join (l.map ruleWord) [44] := by unfold ruleTextOf; rw [if_neg h0, hok]; rfl
  simp [hok, e]
end Go.Proofs.YthffgbhphjkdeaaDoor
