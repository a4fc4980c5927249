/-
  PROVED: an engine's copy, told by a fact on new memory. No condition but a bound on the lengths.
-/
import Derived.Test.YtcolkidnjojlmaaEngineLit
import Derived.Test.YtcolkidnjojlmaaSxt
namespace Go.Proofs.Ytcolkidnjojlmaa
open Go.RowKit

/-- Where a copy of an engine lies. -/
structure EngP where
  ta : Option Addr
  tc : Nat
  ka : Option Addr
  kc : Nat
  kb : Option Addr
  kd : Nat
  fa : Option Addr
  fc : Nat
  lo : Nat
  hi : Nat
def engL (x : Engine) (q : EngP) : List Value := [.slice q.ta x.tree.length q.tc, .slice q.ka x.kept.memos.length q.kc, .slice q.kb x.kept.asked.length q.kd, .slice q.fa x.frames.length q.fc, .int .i64 x.root, .int .i64 x.wide, .int .i64 x.high, .bool x.rtl]
def engRes (x : Engine) (q : EngP) : Res where
  foot := fun k => q.lo ≤ k ∧ k < q.hi
  says := fun w => EngineIn true (fun k => q.lo ≤ k ∧ k < q.hi) w (engL x q) x
  stable := fun S w w' h hm hs => h.mod hm hs
theorem toEngine_new (x : Engine) (o : Bool) (cs : List Value) (R : Nat → Prop) (w : World) (hf : x.fits 1048576) (h : EngineIn o R w cs x) :
    Calls Try.prog 34 #[.agg cs.toArray] w (NewR EngP (fun q => .agg (engL x q).toArray) (engRes x) w) :=
  (toEngine_any x o cs R w hf h).mono fun e w' ⟨cs', he, h1, hm⟩ => by
    obtain ⟨ta, tc, ka, kc, kb, kd, fa, fc, rfl, h1⟩ := h1.lit
    refine ⟨⟨ta, tc, ka, kc, kb, kd, fa, fc, w.heap.size, w'.heap.size⟩, he, ⟨h1.wide fun k hk hlo => ⟨hlo, hk⟩, fun k hk => hk⟩, hm⟩
theorem szEngine_less {x : Engine} {o : Bool} {cs : List Value} {R : Nat → Prop} {left : Int} {w : World} (h0 : 0 ≤ left) (h1 : left ≤ 1048576) (hf : x.fits 9223372036854775807) (hb : left < x.cost) (h : EngineIn o R w cs x) :
    Calls Try.prog 32 #[.agg cs.toArray, .int .i64 left] w fun e w' => e = .returned (.int .i64 (-1)) ∧ Mod (fun _ => False) w w' := by
  have := szEngine_any x o cs R left w h0 h1 hf h
  rwa [szRes_less hb] at this
theorem szEngine_more {x : Engine} {o : Bool} {cs : List Value} {R : Nat → Prop} {left : Int} {w : World} (h0 : 0 ≤ left) (h1 : left ≤ 1048576) (hf : x.fits 9223372036854775807) (hb : (x.cost : Int) ≤ left) (h : EngineIn o R w cs x) :
    Calls Try.prog 32 #[.agg cs.toArray, .int .i64 left] w fun e w' => e = .returned (.int .i64 (left - x.cost)) ∧ Mod (fun _ => False) w w' := by
  have := szEngine_any x o cs R left w h0 h1 hf h
  rwa [szRes_more hb] at this
theorem engRes_in {x : Engine} {q : EngP} {W : World} {R : Rg W} {L : List Blk} {O : List Own} {E : List Res} {w : World} (h : Loc W R L O E w) (hm : engRes x q ∈ E) : EngineIn true (fun k => q.lo ≤ k ∧ k < q.hi) w (engL x q) x := (h.res _ hm).1

end Go.Proofs.Ytcolkidnjojlmaa
