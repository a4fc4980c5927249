/-
  PROVED: an engine's cells written out; its copy, told by what it reads as. No condition but a bound on the lengths.
-/
import Derived.Test.YtcolkidnjojlmaaEngine
namespace Go.Proofs.Ytcolkidnjojlmaa
open Go.RowKit

/-- An engine's cells, written out. -/
theorem EngineIn.lit {o : Bool} {R : Nat → Prop} {w : World} {cs : List Value} {x : Engine} (h : EngineIn o R w cs x) : ∃ ta tc ka kc kb kd fa fc, cs = [.slice ta x.tree.length tc, .slice ka x.kept.memos.length kc, .slice kb x.kept.asked.length kd, .slice fa x.frames.length fc, .int .i64 x.root, .int .i64 x.wide, .int .i64 x.high, .bool x.rtl] ∧ EngineIn o R w [.slice ta x.tree.length tc, .slice ka x.kept.memos.length kc, .slice kb x.kept.asked.length kd, .slice fa x.frames.length fc, .int .i64 x.root, .int .i64 x.wide, .int .i64 x.high, .bool x.rtl] x := by
  have h0 := h
  obtain ⟨t, k0, k1, f, c, rfl, ⟨ta, tc, et, _⟩, ⟨ka, kc, kb, kc', ek, _⟩, _, _⟩ := h
  simp only [List.cons.injEq, and_true] at et ek
  obtain rfl := et
  obtain ⟨rfl, rfl⟩ := ek
  exact ⟨ta, tc, ka, kc, kb, kc', f, c, rfl, h0⟩
/-- An engine's value reads as the engine. -/
def EngAt (x : Engine) (w : World) (v : Value) : Prop := ∃ cs : List Value, v = .agg cs.toArray ∧ ∃ o R, EngineIn o R w cs x
theorem EngAt.keep {x : Engine} {w w' : World} {v : Value} (h : EngAt x w v) (hm : Mod (fun _ => False) w w') : EngAt x w' v := by
  obtain ⟨cs, h1, o, R, h2⟩ := h
  exact ⟨cs, h1, o, R, EngineIn.keep h2 hm⟩
theorem toEngine_at (x : Engine) (o : Bool) (cs : List Value) (R : Nat → Prop) (w : World) (hf : x.fits 1048576) (h : EngineIn o R w cs x) :
    Calls Try.prog 34 #[.agg cs.toArray] w fun e w' => ∃ v, e = .returned v ∧ EngAt x w' v ∧ Mod (fun _ => False) w w' :=
  (toEngine_any x o cs R w hf h).mono fun _ _ ⟨cs', he, h1, hm⟩ => ⟨_, he, ⟨cs', rfl, _, _, h1⟩, hm⟩

end Go.Proofs.Ytcolkidnjojlmaa
