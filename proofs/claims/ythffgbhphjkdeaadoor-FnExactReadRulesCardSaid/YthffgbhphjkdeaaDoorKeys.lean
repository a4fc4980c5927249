/-
  PROVED: intKeys, valueKeys, KeyNames: the program's and the reference's give the keys' texts. Condition: the library's MaxLen holds a number.
-/
import Derived.Test.YthffgbhphjkdeaaDoorText
import Derived.Test.YthffgbhphjkdeaaDoorAppend
import Derived.Test.YthffgbhphjkdeaaDoorKeyT
namespace Go.Proofs.YthffgbhphjkdeaaDoor
open Go.RowKit

/-- The library's MaxLen holds a number. -/
def Num0 (w : World) : Prop := ∃ m, w.cell? ⟨0, 0, none⟩ = some (.int .i64 m)
theorem Num0.keep {w w' : World} (h : Num0 w) (hm : Mod (fun _ => False) w w') : Num0 w' := by
  obtain ⟨m, h⟩ := h
  exact ⟨m, hm.keep _ _ h⟩

theorem num0 {w : World} (h : w.ShapedOpen Tryd.prog) : Num0 w := Tryd.laysM146.s1_3 w h
/-- What a call gives that makes texts. -/
def NewTexts (w : World) (l : List (List UInt8)) (e : Ending) (w' : World) : Prop :=
  ∃ (a : Option Addr) (c : Nat), e = .returned (.slice a l.length c) ∧ w'.ownsRow w.heap.size 9 1 (.slice a l.length c) l.length (l.map tcell).flatten ∧ Mod (fun _ => False) w w'
theorem new_texts {w : World} {cs : List Value} {l : List (List UInt8)} {n : Nat} (h : cs = (l.map tcell).flatten) (hn : n = l.length) (hb : l.length ≤ 1000) : NewTexts w l (.returned (.slice (some ⟨w.heap.size, 0, none⟩) n n)) (w.alloc (.cells cs.toArray 9)) := by
  subst h hn
  have hfl := flat_length (cells := tcell) (sz := 1) (fun _ => rfl) l
  refine ⟨_, _, rfl, ⟨by rw [hfl], .inr ⟨w.heap.size, l.length, _, rfl, Nat.le_refl _, heap_alloc_new w _, Nat.le_refl _, by unfold maxLen; omega, by rw [List.size_toArray, hfl], ?_⟩⟩, (Mod.refl _ w).alloc _⟩
  exact List.take_of_length_le (by show (l.map tcell).flatten.length ≤ _; omega)
theorem NewTexts.text {w w' : World} {l : List (List UInt8)} {e : Ending} (h : NewTexts w l e w') : NewSlice 9 1 w l.length (l.map tcell).flatten e w' := by
  obtain ⟨a, c, h1, h2, h3⟩ := h
  exact ⟨a, c, h1, h2, h3⟩

set_option maxRecDepth 100000 in
theorem intKeys_any (w : World) (hz : Num0 w) : Calls Tryd.prog 59 #[] w (NewTexts w intTexts) := by
  obtain ⟨m, hm⟩ := hz
  go_enter Tryd.func59, Tryd.ntmps59
  go_wp2_with fail
  refine (Tryd.strings_Split _ _ m _ (by decide +kernel) hm (by decide +kernel)).mono ?_
  rintro e w' ⟨he, hw⟩
  have e1 : e = .returned (.slice (some ⟨w.heap.size, 0, none⟩) 22 22) := he.trans (by kernel_rfl)
  have e2 : w' = w.alloc (.cells (intTexts.map tcell).flatten.toArray 9) := hw.trans (congrArg (fun l : List Value => w.alloc (.cells l.toArray 9)) (by kernel_rfl))
  clear he hw
  subst e1 e2
  go_wp2
  go_ret
  exact new_texts rfl rfl (by decide)

set_option maxRecDepth 100000 in
theorem valueKeys_any (w : World) (hz : Num0 w) : Calls Tryd.prog 60 #[] w (NewTexts w valueTexts) := by
  obtain ⟨m, hm⟩ := hz
  go_enter Tryd.func60, Tryd.ntmps60
  go_wp2_with fail
  refine (Tryd.strings_Split _ _ m _ (by decide +kernel) hm (by decide +kernel)).mono ?_
  rintro e w' ⟨he, hw⟩
  have e1 : e = .returned (.slice (some ⟨w.heap.size, 0, none⟩) 19 19) := he.trans (by kernel_rfl)
  have e2 : w' = w.alloc (.cells (valueTexts.map tcell).flatten.toArray 9) := hw.trans (congrArg (fun l : List Value => w.alloc (.cells l.toArray 9)) (by kernel_rfl))
  clear he hw
  subst e1 e2
  go_wp2
  go_ret
  exact new_texts rfl rfl (by decide)

set_option maxRecDepth 100000 in
theorem sl26Ints_any (w : World) : Calls Tryd.prog 117 #[] w (NewTexts w intTexts) := by
  go_enter Tryd.func117, Tryd.ntmps117
  go_wp2
  go_ret
  exact new_texts rfl rfl (by decide)

set_option maxRecDepth 100000 in
theorem sl26Values_any (w : World) : Calls Tryd.prog 118 #[] w (NewTexts w valueTexts) := by
  go_enter Tryd.func118, Tryd.ntmps118
  go_wp2
  go_ret
  exact new_texts rfl rfl (by decide)

set_option maxRecDepth 100000 in
theorem keyNames_any (w : World) (hz : Num0 w) : Calls Tryd.prog 25 #[] w (NewTexts w keyTexts) := by
  obtain ⟨i0, hi, hz0, hz1, hz2⟩ := info_parts info_string
  have Hi := hid hi
  have Hz0 := hid hz0
  have Hz1 := hid hz1
  have Hz2 := hid hz2
  clear hi hz0 hz1 hz2
  go_enter Tryd.func25, Tryd.ntmps25
  go_wp2_with fail
  refine (intKeys_any _ hz).mono ?_
  rintro e w1 ⟨a1, c1, rfl, hO1, hm1⟩
  go_wp2_with fail
  refine (valueKeys_any _ (hz.keep hm1)).mono ?_
  rintro e w2 ⟨a2, c2, rfl, hO2, hm2⟩
  have hO3 := own_mod hO1 hm2 (fun _ _ f => f)
  have hS := own_slice (cells := tcell) hO2 (fun _ => rfl) (by decide)
  have hM := hm1.thenNone hm2
  have hroom : w.heap.size ≤ w2.heap.size := hM.size
  have hl : intTexts.length + valueTexts.length ≤ 1000 := by decide
  have HS := hid hS
  clear hS hO2
  go_wp2_with (first | (at_builtin; refine wpList_append_slice (cells := tcell) (B := w.heap.size) rfl _ _ ⟨Tryd.underlying30, Hi.out, Hz0.out, Hz1.out, Hz2.out, by decide⟩ rfl (fun _ => rfl) (fun x u hu => by simp [tcell] at hu; subst hu; rfl) rfl rfl hO3 hroom rfl rfl HS.out (by unfold maxLen; omega) (by omega) ?_))
  intro a3 c3 w3 hO hg
  have hM3 := hM.appendedAt hO3 (Nat.le_refl _) hg
  have e : keyTexts.length = intTexts.length + valueTexts.length := rfl
  go_wp2
  go_ret
  refine ⟨a3, c3, rfl, ?_, hM3⟩
  rw [e]
  unfold keyTexts
  rw [List.map_append, List.flatten_append]
  exact hO

set_option maxRecDepth 100000 in
theorem skeyNames_any (w : World) : Calls Tryd.prog 44 #[] w (NewTexts w keyTexts) := by
  obtain ⟨i0, hi, hz0, hz1, hz2⟩ := info_parts info_string
  have Hi := hid hi
  have Hz0 := hid hz0
  have Hz1 := hid hz1
  have Hz2 := hid hz2
  clear hi hz0 hz1 hz2
  go_enter Tryd.func44, Tryd.ntmps44
  go_wp2_with fail
  refine (sl26Ints_any _).mono ?_
  rintro e w1 ⟨a1, c1, rfl, hO1, hm1⟩
  go_wp2_with fail
  refine (sl26Values_any _).mono ?_
  rintro e w2 ⟨a2, c2, rfl, hO2, hm2⟩
  have hO3 := own_mod hO1 hm2 (fun _ _ f => f)
  have hS := own_slice (cells := tcell) hO2 (fun _ => rfl) (by decide)
  have hM := hm1.thenNone hm2
  have hroom : w.heap.size ≤ w2.heap.size := hM.size
  have hl : intTexts.length + valueTexts.length ≤ 1000 := by decide
  have HS := hid hS
  clear hS hO2
  go_wp2_with (first | (at_builtin; refine wpList_append_slice (cells := tcell) (B := w.heap.size) rfl _ _ ⟨Tryd.underlying30, Hi.out, Hz0.out, Hz1.out, Hz2.out, by decide⟩ rfl (fun _ => rfl) (fun x u hu => by simp [tcell] at hu; subst hu; rfl) rfl rfl hO3 hroom rfl rfl HS.out (by unfold maxLen; omega) (by omega) ?_))
  intro a3 c3 w3 hO hg
  have hM3 := hM.appendedAt hO3 (Nat.le_refl _) hg
  have e : keyTexts.length = intTexts.length + valueTexts.length := rfl
  go_wp2
  go_ret
  refine ⟨a3, c3, rfl, ?_, hM3⟩
  rw [e]
  unfold keyTexts
  rw [List.map_append, List.flatten_append]
  exact hO

end Go.Proofs.YthffgbhphjkdeaaDoor
