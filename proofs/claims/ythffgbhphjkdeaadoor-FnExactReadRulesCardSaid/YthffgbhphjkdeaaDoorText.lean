/-
  PROVED: the program's Decimal and spaced: the numerals of numbers, blanks between. Condition: the library's table of powers lies as its text lays it.
-/
import Derived.Test.YthffgbhphjkdeaaDoorDec
import Derived.Test.YthffgbhphjkdeaaDoorShelf
import Derived.Test.YthffgbhphjkdeaaDoorInts
import Derived.Test.YthffgbhphjkdeaaDoorTxt
namespace Go.Proofs.YthffgbhphjkdeaaDoor
open Go.RowKit

/-- The library's table of powers lies as its text lays it. -/
def Tab (w : World) : Prop := Lib.TabIs Tryd.prog w "internal/strconv.uint64pow10" .u64 Lib.pow10Tab
theorem var_keep {P : Program} {w w' : World} {n : String} {cs : Array Value} (hm : Mod (fun _ => False) w w') (h : w.var? P n = some cs) : w'.var? P n = some cs := by
  unfold World.var? at h ⊢
  cases hg : P.globalNamed n with
  | none => rw [hg] at h; simp at h
  | some g =>
    rw [hg] at h
    simp only [Option.bind_some] at h ⊢
    have hlt : g < w.heap.size := by
      rcases Nat.lt_or_ge g w.heap.size with h' | h'
      · exact h'
      · rw [Array.getElem?_eq_none h'] at h; cases h
    rw [hm.block g hlt (fun f => f)]
    exact h
theorem Tab.keep {w w' : World} (h : Tab w) (hm : Mod (fun _ => False) w w') : Tab w' := var_keep hm h
theorem grow_keep (w : World) (os : Array Obj) : Mod (fun _ => False) w (Sort.grow w os) :=
  ⟨rfl, rfl, rfl, by simp [Sort.grow], fun k hk _ => by simp [Sort.grow, Array.getElem?_append, hk]⟩
theorem below_kept {w w' : World} (h : Below w.heap.size w w') : Mod (fun _ => False) w w' := ⟨h.os, h.tape, h.output, h.size, fun k hk _ => h.block k hk⟩

theorem ret_str {a b : ByteArray} (h : a = b) : Ending.returned (.string a) = .returned (.string b) := by rw [h]
theorem decimal_any (n : Int) (hb : I64 n) (w : World) (ht : Tab w) : Calls Tryd.prog 98 #[.int .i64 n] w fun e w' => e = .returned (.string ⟨(Lib.itoa n).toArray⟩) ∧ Mod (fun _ => False) w w' := by
  have k := Tryd.strconv_Itoa n hb.1 hb.2 w ht
  clear hb ht
  go_enter Tryd.func98, Tryd.ntmps98
  go_wp2_with fail
  refine k.mono ?_
  rintro e w' ⟨rfl, n, os, rfl⟩
  have hm : Mod (fun _ => False) w (Sort.grow (w.drewN n) os) := ((Mod.refl _ w).drewN n).trans (grow_keep _ _)
  generalize Sort.grow (w.drewN n) os = w1 at hm
  go_wp2
  go_ret
  exact ⟨rfl, hm⟩

/-- The numbers of a text, blanks between. -/
def spacedOf (l : List Int) : List UInt8 := Lib.join (l.map Lib.itoa) [32]
theorem join_short (l : List Int) (hb : ∀ x ∈ l, I64 x) (sep : List UInt8) (hs : sep.length ≤ 1) : (Lib.join (l.map Lib.itoa) sep).length ≤ l.length * 22 := by
  have key : ∀ m : List Int, (∀ x ∈ m, I64 x) → (Lib.joinTail sep (m.map Lib.itoa)).length ≤ m.length * 22 := by
    intro m hm
    induction m with
    | nil => simp [Lib.joinTail]
    | cons x m ih =>
      have h1 := ih fun y hy => hm y (List.mem_cons_of_mem _ hy)
      have h2 := hm x List.mem_cons_self
      have h3 := Lib.itoa_length_le x h2.1 h2.2
      unfold Lib.joinTail at h1 ⊢
      simp only [List.map_cons, List.flatten_cons, List.length_append, List.length_cons] at h1 ⊢
      omega
  cases l with
  | nil => simp [Lib.join, List.intercalate]
  | cons x m =>
    have h1 := key m fun y hy => hb y (List.mem_cons_of_mem _ hy)
    have h2 := hb x List.mem_cons_self
    have h3 := Lib.itoa_length_le x h2.1 h2.2
    rw [List.map_cons, Lib.join_cons, List.length_append, List.length_cons]
    omega

theorem bytes_back (l : List (List UInt8)) : (l.map fun x => (⟨x.toArray⟩ : ByteArray)).map (·.data.toList) = l := by
  induction l with
  | nil => rfl
  | cons y l ih => rw [List.map_cons, List.map_cons, ih]
/-- What the program's Join gives of texts that the call itself has laid. -/
theorem join_own {w : World} {base n c : Nat} {a : Option Addr} {l : List (List UInt8)} (sep : List UInt8) (h : w.ownsRow base 9 1 (.slice a n c) n (l.map tcell).flatten) (hn : n = l.length) (hl : l.length ≤ 1048576) (hj : (Lib.join l sep).length ≤ 140737488355328) :
    Calls Tryd.prog 102 #[.slice a n c, .string ⟨sep.toArray⟩] w fun e w' => e = .returned (.string ⟨(Lib.join l sep).toArray⟩) ∧ Mod (fun _ => False) w w' := by
  subst hn
  rcases own_parts h with h0 | ⟨b, rfl, h1, h2, h3, _⟩
  · have hl0 : l = [] := List.length_eq_zero_iff.1 h0
    subst hl0
    exact (Tryd.strings_Join_none a c ⟨sep.toArray⟩ w).mono fun e w' ⟨he, hw⟩ => by subst hw; exact ⟨he, Mod.refl _ _⟩
  · have hc : l.length ≤ c := by
      rcases h.2 with ⟨_, h4⟩ | ⟨g, cap, cur, hv, _, _, hnc, _⟩
      · omega
      · injection hv with _ _ e
        omega
    have e := bytes_back l
    have hcells : ∀ (j : Nat) x, (l.map fun x => (⟨x.toArray⟩ : ByteArray))[j]? = some x → w.cell? ⟨b, 0 + j, none⟩ = some (.string x) := by
      intro j x hj
      rw [List.getElem?_map] at hj
      cases hy : l[j]? with
      | none => rw [hy] at hj; simp at hj
      | some y =>
        rw [hy] at hj
        simp only [Option.map_some, Option.some.injEq] at hj
        subst hj
        rw [Nat.zero_add]
        refine h3 j _ ?_
        have hmem : (l.map tcell)[j]? = some (tcell y) := by rw [List.getElem?_map, hy]; rfl
        have := flatten_at (rows := l.map tcell) (sz := 1) (by intro r hr; obtain ⟨z, _, rfl⟩ := List.mem_map.1 hr; rfl) hmem (j := 0) rfl
        simpa using this
    have k := Tryd.strings_Join b 0 c (l.map fun x => (⟨x.toArray⟩ : ByteArray)) ⟨sep.toArray⟩ w hcells h2 (by simp; omega) (by simpa using hc) (by rw [e]; exact hj)
    rw [e] at k
    rw [List.length_map] at k
    exact k.mono fun e w' ⟨he, hb⟩ => ⟨he, below_kept hb⟩


end Go.Proofs.YthffgbhphjkdeaaDoor
