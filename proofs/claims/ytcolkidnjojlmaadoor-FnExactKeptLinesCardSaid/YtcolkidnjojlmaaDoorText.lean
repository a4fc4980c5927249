/-
  PROVED: the program's Decimal and spaced: the numerals of numbers, blanks between. Condition: the library's table of powers lies as its text lays it.
-/
import Derived.Test.YtcolkidnjojlmaaDoorDec
import Derived.Test.YtcolkidnjojlmaaDoorShelf
import Derived.Test.YtcolkidnjojlmaaDoorInts
import Derived.Test.YtcolkidnjojlmaaDoorTxt
namespace Go.Proofs.YtcolkidnjojlmaaDoor
open Go.RowKit

/-- The library's table of powers lies as its text lays it. -/
def Tab (w : World) : Prop := Lib.TabIs Tryd.prog w "internal/strconv.uint64pow10" .u64 Lib.pow10Tab
theorem var_keep {P : Program} {w w' : World} {n : String} {cs : Array Value} (hm : Mod (fun _ => False) w w') (h : w.var? P n = some cs) : w'.var? P n = some cs := by
  unfold World.var? at h ⊢
  cases hg : P.globalNamed n with
  | none => rw [hg] at h; simp at h
  | some g =>
    rw [hg] at h
    simp only [Option.bind_some] at h ⊢
    have hlt : g < w.heap.size := by
      rcases Nat.lt_or_ge g w.heap.size with h' | h'
      · exact h'
      · rw [Array.getElem?_eq_none h'] at h; cases h
    rw [hm.block g hlt (fun f => f)]
    exact h
theorem Tab.keep {w w' : World} (h : Tab w) (hm : Mod (fun _ => False) w w') : Tab w' := var_keep hm h
theorem grow_keep (w : World) (os : Array Obj) : Mod (fun _ => False) w (Sort.grow w os) :=
  ⟨rfl, rfl, rfl, by simp [Sort.grow], fun k hk _ => by simp [Sort.grow, Array.getElem?_append, hk]⟩
theorem below_kept {w w' : World} (h : Below w.heap.size w w') : Mod (fun _ => False) w w' := ⟨h.os, h.tape, h.output, h.size, fun k hk _ => h.block k hk⟩

theorem ret_str {a b : ByteArray} (h : a = b) : Ending.returned (.string a) = .returned (.string b) := by rw [h]
theorem decimal_any (n : Int) (hb : I64 n) (w : World) (ht : Tab w) : Calls Tryd.prog 66 #[.int .i64 n] w fun e w' => e = .returned (.string ⟨(Lib.itoa n).toArray⟩) ∧ Mod (fun _ => False) w w' := by
  have k := Tryd.strconv_Itoa n hb.1 hb.2 w ht
  clear hb ht
  go_enter Tryd.func66, Tryd.ntmps66
  go_wp2_with fail
  refine k.mono ?_
  rintro e w' ⟨rfl, n, os, rfl⟩
  have hm : Mod (fun _ => False) w (Sort.grow (w.drewN n) os) := ((Mod.refl _ w).drewN n).trans (grow_keep _ _)
  generalize Sort.grow (w.drewN n) os = w1 at hm
  go_wp2
  go_ret
  exact ⟨rfl, hm⟩

/-- The numbers of a text, blanks between. -/
def spacedOf (l : List Int) : List UInt8 := Lib.join (l.map Lib.itoa) [32]
theorem join_short (l : List Int) (hb : ∀ x ∈ l, I64 x) (sep : List UInt8) (hs : sep.length ≤ 1) : (Lib.join (l.map Lib.itoa) sep).length ≤ l.length * 22 := by
  have key : ∀ m : List Int, (∀ x ∈ m, I64 x) → (Lib.joinTail sep (m.map Lib.itoa)).length ≤ m.length * 22 := by
    intro m hm
    induction m with
    | nil => simp [Lib.joinTail]
    | cons x m ih =>
      have h1 := ih fun y hy => hm y (List.mem_cons_of_mem _ hy)
      have h2 := hm x List.mem_cons_self
      have h3 := Lib.itoa_length_le x h2.1 h2.2
      unfold Lib.joinTail at h1 ⊢
      simp only [List.map_cons, List.flatten_cons, List.length_append, List.length_cons] at h1 ⊢
      omega
  cases l with
  | nil => simp [Lib.join, List.intercalate]
  | cons x m =>
    have h1 := key m fun y hy => hb y (List.mem_cons_of_mem _ hy)
    have h2 := hb x List.mem_cons_self
    have h3 := Lib.itoa_length_le x h2.1 h2.2
    rw [List.map_cons, Lib.join_cons, List.length_append, List.length_cons]
    omega

theorem bytes_back (l : List (List UInt8)) : (l.map fun x => (⟨x.toArray⟩ : ByteArray)).map (·.data.toList) = l := by
  induction l with
  | nil => rfl
  | cons y l ih => rw [List.map_cons, List.map_cons, ih]
/-- What the program's Join gives of texts that the call itself has laid. -/
theorem join_own {w : World} {base n c : Nat} {a : Option Addr} {l : List (List UInt8)} (sep : List UInt8) (h : w.ownsRow base 9 1 (.slice a n c) n (l.map tcell).flatten) (hn : n = l.length) (hl : l.length ≤ 1048576) (hj : (Lib.join l sep).length ≤ 140737488355328) :
    Calls Tryd.prog 91 #[.slice a n c, .string ⟨sep.toArray⟩] w fun e w' => e = .returned (.string ⟨(Lib.join l sep).toArray⟩) ∧ Mod (fun _ => False) w w' := by
  subst hn
  rcases own_parts h with h0 | ⟨b, rfl, h1, h2, h3, _⟩
  · have hl0 : l = [] := List.length_eq_zero_iff.1 h0
    subst hl0
    exact (Tryd.strings_Join_none a c ⟨sep.toArray⟩ w).mono fun e w' ⟨he, hw⟩ => by subst hw; exact ⟨he, Mod.refl _ _⟩
  · have hc : l.length ≤ c := by
      rcases h.2 with ⟨_, h4⟩ | ⟨g, cap, cur, hv, _, _, hnc, _⟩
      · omega
      · injection hv with _ _ e
        omega
    have e := bytes_back l
    have hcells : ∀ (j : Nat) x, (l.map fun x => (⟨x.toArray⟩ : ByteArray))[j]? = some x → w.cell? ⟨b, 0 + j, none⟩ = some (.string x) := by
      intro j x hj
      rw [List.getElem?_map] at hj
      cases hy : l[j]? with
      | none => rw [hy] at hj; simp at hj
      | some y =>
        rw [hy] at hj
        simp only [Option.map_some, Option.some.injEq] at hj
        subst hj
        rw [Nat.zero_add]
        refine h3 j _ ?_
        have hmem : (l.map tcell)[j]? = some (tcell y) := by rw [List.getElem?_map, hy]; rfl
        have := flatten_at (rows := l.map tcell) (sz := 1) (by intro r hr; obtain ⟨z, _, rfl⟩ := List.mem_map.1 hr; rfl) hmem (j := 0) rfl
        simpa using this
    have k := Tryd.strings_Join b 0 c (l.map fun x => (⟨x.toArray⟩ : ByteArray)) ⟨sep.toArray⟩ w hcells h2 (by simp; omega) (by simpa using hc) (by rw [e]; exact hj)
    rw [e] at k
    rw [List.length_map] at k
    exact k.mono fun e w' ⟨he, hb⟩ => ⟨he, below_kept hb⟩

set_option maxRecDepth 100000 in
set_option maxHeartbeats 4000000 in
theorem spaced_any  (l : List Int) (a : Option Addr) (c : Nat) (R : Nat → Prop) (w : World) (hl : l.length ≤ 1048576) (h : IntSlice R w a l) (hb : ∀ x ∈ l, I64 x) (ht : Tab w):
    Calls Tryd.prog 94 #[.slice a l.length c] w (fun e w' => e = .returned (.string ⟨(spacedOf l).toArray⟩) ∧ Mod (fun _ => False) w w') := by
  have H := hid h
  clear h
  obtain ⟨i0, hi, hz0, hz1, hz2⟩ := info_parts info_string
  have Hi := hid hi
  have Hz0 := hid hz0
  have Hz1 := hid hz1
  have Hz2 := hid hz2
  clear hi hz0 hz1 hz2
  have Hb := hid hb
  have Ht := hid ht
  clear hb ht
  go_enter Tryd.func94, Tryd.ntmps94
  go_wp2_with fail
  go_loopw [3, 8] (fun v i wr => ∃ (k : Nat) (a' : Option Addr) (c' : Nat), k ≤ l.length ∧ i = .int .i64 k ∧ v = .slice a' ((l.take k).filterMap (fun x => some (Lib.itoa x))).length c' ∧ wr.ownsRow w.heap.size 9 1 (.slice a' ((l.take k).filterMap (fun x => some (Lib.itoa x))).length c') ((l.take k).filterMap (fun x => some (Lib.itoa x))).length (((l.take k).filterMap (fun x => some (Lib.itoa x))).map tcell).flatten ∧ Mod (fun _ => False) w wr) (fun _ i _ => l.length - (intOf i).toNat)
  case atStart =>
    exact ⟨0, _, _, by omega, rfl, rfl, World.ownsRow_nil _ _ _ _, Mod.refl _ _⟩
  case round =>
    obtain ⟨k, a', c', hk, rfl, rfl, hO, hM⟩ := hrel
    have hFl : ((l.take k).filterMap (fun x => some (Lib.itoa x))).length ≤ k := fm_len _ _ _
    by_cases hlt : k < l.length
    · obtain ⟨b, o, x, rfl, _, _, hx, hc⟩ := IntSlice.get (H.out.flatKeep hM) hlt
      go_wp2_with fail
      refine (decimal_any x (Hb.out x (List.mem_of_getElem? hx.out)) _ (Ht.out.keep hM)).mono ?_
      rintro e w1 ⟨rfl, hm1⟩
      have hM1 := hM.thenNone hm1
      have hO1 := own_mod hO hm1 (fun _ _ f => f)
      clear hm1
      have hg : (fun x => some (Lib.itoa x)) x = some (Lib.itoa x) := rfl
      have He := hid (fm_some (fun x => some (Lib.itoa x)) hx hg)
      generalize ((l.take k).filterMap (fun x => some (Lib.itoa x))) = F at He hFl hO hO1
      have h3 : F.length + 1 ≤ maxLen := by unfold maxLen; omega
      have h4 : (F.length + 1) * 16 ≤ 140737488355328 := by omega
      go_wp2_with (first | (at_builtin; refine wpList_append_own _ rfl _ _ 22 rfl w.heap.size 9 i0 _ 1 16 Tryd.underlying22 Hi.out Hz0.out Hz1.out Hz2.out rfl (by decide) _ _ _ rfl (hO1.alloc _) ⟨w1.heap.size, 0, none⟩ 1 1 [.string ⟨(Lib.itoa x).toArray⟩] rfl rfl (cells_new _ _ _) (ones_of rfl) h3 h4 (own_room hM1 _) ?_) | fail)
      intro v' w9 hown1 hgrow _
      obtain ⟨a1, c1', hv⟩ := own_form hown1
      rw [hv] at hown1 ⊢
      have hM1 := hM1.appended hO1 (Nat.le_refl _) hgrow
      clear hv hgrow h3 h4
      go_wp2_with fail
      go_roundw
      case rel =>
        refine ⟨k + 1, a1, c1', by omega, by go_num, ?_, ?_, hM1⟩
        · rw [He.out, List.length_append]; rfl
        · rw [He.out, List.length_append, List.map_append, List.flatten_append]
          simpa [tcell] using hown1
      case measure => simp [intOf]; omega
    · have hk' : k = l.length := by omega
      subst hk'
      rw [List.take_length] at hO
      rw [List.take_length]
      rw [← map_fm] at hO ⊢
      have hj := hid (join_own [32] hO (by simp) (by simpa using hl) (by have := join_short l Hb.out [32] (by simp); omega))
      have Hs := hid (show Lib.join (l.map Lib.itoa) [32] = spacedOf l from rfl)
      rw [Hs.out] at hj
      generalize l.map Lib.itoa = F at hj hFl hO ⊢
      clear hO hFl Hs
      go_wp2_with fail
      refine hj.out.mono ?_
      rintro e w9 ⟨rfl, hm9⟩
      clear hj
      go_wp2
      go_ret
      exact ⟨rfl, hM.thenNone hm9⟩

end Go.Proofs.YtcolkidnjojlmaaDoor
