/-
  PROVED: ShareAt: one share. Conditions: the index lies within.
-/
import Derived.Test.YtpmbobopkfacmaaShares2
namespace Go.Proofs.Ytpmbobopkfacmaa
open Go.RowKit

theorem elementOf_any (l : List Int) (a : Option Addr) (c k : Nat) (x : Int) (R : Nat → Prop) (w : World) (_hl : l.length ≤ 9223372036854775807) (hk : k < l.length) (hx : l[k]? = some x) (h : IntSlice R w a l) :
    Calls Try.prog 67 #[.slice a l.length c, .int .i64 k] w fun e w' => e = .returned (.int .i64 x) ∧ w = w' := by
  obtain ⟨b, o, y, rfl, _, _, hy, hc⟩ := IntSlice.get h hk
  obtain rfl : y = x := by
    have := hy.out.symm.trans hx
    simpa using this
  have H := hid h
  clear h hx
  go_enter Try.func67, Try.ntmps67
  go_wp2
  go_ret
  exact ⟨rfl, rfl⟩

theorem shareAt_any (n : Int) (l : List Int) (a : Option Addr) (c k : Nat) (R : Nat → Prop) (w : World) (hl : l.length ≤ 9223372036854775807) (hk : k < l.length) (hw : wOk l = true) (h : IntSlice R w a l) :
    Calls Try.prog 41 #[.int .i64 n, .slice a l.length c, .int .i64 k] w fun e w' => e = .returned (.int .i64 (shareOf (signedL n) l k)) ∧ Mod (fun _ => False) w w' := by
  have H := hid h
  have hsh : shares n l = sharesTo (signedL n) l l.length := by unfold shares; rw [if_pos hw]
  clear h
  go_enter Try.func41, Try.ntmps41
  go_wp2_with fail
  refine (shares_any n l _ _ R _ hl H.out).mono ?_
  intro e w1 hr
  obtain ⟨a1, c1, g1, N1, rfl, _, hs1, _, hm1⟩ := NewSlice.use (cells := icell) (sz := 1) hr (fun _ => rfl) (by decide)
  clear hr
  have hlen : (shares n l).length = l.length := by rw [hsh, sharesTo_length]
  have hget : (shares n l)[k]? = some (shareOf (signedL n) l k) := by rw [hsh]; simp [sharesTo, hk]
  have Hlen := hid hlen
  have Hget := hid hget
  clear hsh hlen hget
  go_wp2_with fail
  refine (elementOf_any (shares n l) _ _ k _ _ _ (by rw [Hlen.out]; exact hl) (by rw [Hlen.out]; exact hk) Hget.out hs1).mono ?_
  rintro e w2 ⟨rfl, rfl⟩
  go_wp2
  go_ret
  exact ⟨rfl, hm1⟩

end Go.Proofs.Ytpmbobopkfacmaa
