/-
  PROVED: sameInts tells whether two slices of ints hold the same. No condition but a bound on the lengths.
-/
import Derived.Test.YtefgjjmnjanleaaNum
import Derived.Test.YtefgjjmnjanleaaInts
namespace Go.Proofs.Ytefgjjmnjanleaa
open Go.RowKit

theorem sameInts_any (a b : Option Addr) (l m : List Int) (ca cb : Nat) (w : World) (ha : IntsAt w a l) (hb : IntsAt w b m) (hl : l.length ≤ 9223372036854775807) (_hm : m.length ≤ 9223372036854775807) :
    Calls Try.prog 16 #[.slice a l.length ca, .slice b m.length cb] w fun e w' => e = .returned (.bool (decide (l = m))) ∧ Mod (fun _ => False) w w' := by
  have Ha := hid ha
  have Hb := hid hb
  clear ha hb
  by_cases hlen : l.length = m.length
  · have Hn := hid hlen
    have hn0 : ((l.length : Int) != (m.length : Int)) = false := by simp [hlen]
    have hn1 : l.length ≤ m.length := by omega
    have hn2 : m.length ≤ l.length := by omega
    clear hlen
    go_enter Try.func16, Try.ntmps16
    go_wp2
    go_loopw [5] (fun i wr => ∃ k : Nat, k ≤ l.length ∧ i = .int .i64 k ∧ SameTo l m k ∧ Mod (fun _ => False) w wr) (fun i _ => l.length - (intOf i).toNat)
    case atStart => exact ⟨0, by omega, rfl, rfl, Mod.refl _ _⟩
    case round =>
      obtain ⟨k, hk, rfl, hsame, hmod⟩ := hrel
      by_cases hlt : k < l.length
      · obtain ⟨b1, o1, x, rfl, hx, cx⟩ := (Ha.out.mod hmod (fun _ _ h => h)).get hlt
        obtain ⟨b2, o2, y, rfl, hy, cy⟩ := (Hb.out.mod hmod (fun _ _ h => h)).get (show k < m.length by omega)
        have hlt2 : k < m.length := by omega
        by_cases hxy : x = y
        · subst hxy
          go_wp2
          go_quiet (fail)
          go_wp2
          go_roundw
          case rel => exact ⟨k + 1, by omega, by go_num, hsame.succ hx hy, hmod.drewN _⟩
          case measure => simp [intOf]; omega
        · have hne : (x != y) = true := by simpa using hxy
          go_wp2
          go_quiet (fail)
          go_wp2
          go_ret
          exact ⟨ret_bool (decide_eq_false (ne_at hx hy hxy)).symm, hmod.drewN _⟩
      · go_wp2
        go_ret
        exact ⟨ret_bool (decide_eq_true (hsame.all (by omega) (by omega))).symm, hmod⟩
  · have hn0 : ((l.length : Int) != (m.length : Int)) = true := by simp; omega
    have hne : l ≠ m := fun h => hlen (by rw [h])
    have Hn := hid hlen
    clear hlen
    go_enter Try.func16, Try.ntmps16
    go_wp2
    go_ret
    exact ⟨ret_bool (decide_eq_false hne).symm, Mod.refl _ _⟩


end Go.Proofs.Ytefgjjmnjanleaa
