/-
  PROVED: contracts of functions and words on memory, several texts put together: what each says stands at its theorems. Conditions: as told there.
-/
import Derived.Test.YtkkjjhooamlljaaGreatDoorMBb
import Derived.Test.YtkkjjhooamlljaaGreatDoorChecked
import Derived.Deep.QuietTactic
import Derived.BigQuiet
import Derived.Outline
import Derived.WalkLawsBesides
import Derived.Lib.ItoaMem
import Derived.Lib.ItoaLen
import Derived.Lib.ConvBytes
import Derived.Test.YtkkjjhooamlljaaGreatDoorShelf
import Derived.Lib.JoinSame
set_option linter.unusedVariables false
set_option linter.unusedSimpArgs false
namespace Go.Proofs.YtkkjjhooamlljaaGreatDoor
open Go.RowKit

set_option maxRecDepth 100000 in
set_option maxHeartbeats 4000000 in
theorem sl26Int_any (b : Nat) (k : List UInt8) (w : World) : Calls Tryz.prog 111 #[.pointer (some ⟨b, 0, none⟩), .string ⟨k.toArray⟩] w fun e w' => e = .returned (.tuple #[.pointer (some ⟨b, (iptr k).1, none⟩), .bool (iptr k).2]) ∧ Mod (fun _ => False) w w' := by
  refine calls_sx Tryz.func111 rfl rfl (fun a h1 h2 h3 => ((Fr.nil h1 h2).arg (h3 1 _ rfl)).arg (h3 0 _ rfl)) ?_
  by_cases k0 : k = [100, 105, 114]
  · subst k0
    repeat (first | refine qap ?_ | refine qak ?_ | refine qaf ?_ | refine qab ?_ | refine SX.block ?_ | refine qao rfl ?_ | (refine qam ?_; (refine qaa (qag rfl) rfl ?_ ?_ ?_); rfl; rfl) | (refine qau ?_; (refine qaa (qaj rfl) rfl ?_ ?_ ?_); rfl; rfl) | (refine qai ?_; (refine qaa (qae rfl) rfl ?_ ?_ ?_); rfl; rfl) | (refine qaW ?_; (refine qaa (qaQ rfl) rfl ?_ ?_ ?_); rfl; rfl) | (refine qaK ?_; (refine qaa (qaB rfl rfl (by first | assumption | with_reducible rfl | decide)) rfl ?_ ?_ ?_); rfl; rfl) | refine qav ?_ | refine qan ?_ | refine qaw ?_)
    refine qaU rfl rfl rfl (fun w' hl => ⟨by kernel_rfl, hl.mod⟩)
  by_cases k1 : k = [119, 114, 97, 112]
  · subst k1
    repeat (first | refine qap ?_ | refine qak ?_ | refine qaf ?_ | refine qab ?_ | refine SX.block ?_ | refine qao rfl ?_ | refine qas rfl ?_ | (refine qam ?_; (refine qaa (qag rfl) rfl ?_ ?_ ?_); rfl; rfl) | (refine qau ?_; (refine qaa (qaj rfl) rfl ?_ ?_ ?_); rfl; rfl) | (refine qai ?_; (refine qaa (qae rfl) rfl ?_ ?_ ?_); rfl; rfl) | (refine qaW ?_; (refine qaa (qaQ rfl) rfl ?_ ?_ ?_); rfl; rfl) | (refine qaK ?_; (first | refine qaa (qaB rfl rfl (by first | assumption | with_reducible rfl | decide)) rfl ?_ ?_ ?_ | refine qaa (qay rfl rfl (by first | assumption | with_reducible rfl | decide)) rfl ?_ ?_ ?_); rfl; rfl) | refine qav ?_ | refine qan ?_ | refine qaw ?_)
    refine qaU rfl rfl rfl (fun w' hl => ⟨by kernel_rfl, hl.mod⟩)
  by_cases k2 : k = [106, 117, 115, 116, 105, 102, 121]
  · subst k2
    repeat (first | refine qap ?_ | refine qak ?_ | refine qaf ?_ | refine qab ?_ | refine SX.block ?_ | refine qao rfl ?_ | refine qas rfl ?_ | (refine qam ?_; (refine qaa (qag rfl) rfl ?_ ?_ ?_); rfl; rfl) | (refine qau ?_; (refine qaa (qaj rfl) rfl ?_ ?_ ?_); rfl; rfl) | (refine qai ?_; (refine qaa (qae rfl) rfl ?_ ?_ ?_); rfl; rfl) | (refine qaW ?_; (refine qaa (qaQ rfl) rfl ?_ ?_ ?_); rfl; rfl) | (refine qaK ?_; (first | refine qaa (qaB rfl rfl (by first | assumption | with_reducible rfl | decide)) rfl ?_ ?_ ?_ | refine qaa (qay rfl rfl (by first | assumption | with_reducible rfl | decide)) rfl ?_ ?_ ?_); rfl; rfl) | refine qav ?_ | refine qan ?_ | refine qaw ?_)
    refine qaU rfl rfl rfl (fun w' hl => ⟨by kernel_rfl, hl.mod⟩)
  by_cases k3 : k = [105, 116, 101, 109, 115]
  · subst k3
    repeat (first | refine qap ?_ | refine qak ?_ | refine qaf ?_ | refine qab ?_ | refine SX.block ?_ | refine qao rfl ?_ | refine qas rfl ?_ | (refine qam ?_; (refine qaa (qag rfl) rfl ?_ ?_ ?_); rfl; rfl) | (refine qau ?_; (refine qaa (qaj rfl) rfl ?_ ?_ ?_); rfl; rfl) | (refine qai ?_; (refine qaa (qae rfl) rfl ?_ ?_ ?_); rfl; rfl) | (refine qaW ?_; (refine qaa (qaQ rfl) rfl ?_ ?_ ?_); rfl; rfl) | (refine qaK ?_; (first | refine qaa (qaB rfl rfl (by first | assumption | with_reducible rfl | decide)) rfl ?_ ?_ ?_ | refine qaa (qay rfl rfl (by first | assumption | with_reducible rfl | decide)) rfl ?_ ?_ ?_); rfl; rfl) | refine qav ?_ | refine qan ?_ | refine qaw ?_)
    refine qaU rfl rfl rfl (fun w' hl => ⟨by kernel_rfl, hl.mod⟩)
  by_cases k4 : k = [115, 101, 108, 102]
  · subst k4
    repeat (first | refine qap ?_ | refine qak ?_ | refine qaf ?_ | refine qab ?_ | refine SX.block ?_ | refine qao rfl ?_ | refine qas rfl ?_ | (refine qam ?_; (refine qaa (qag rfl) rfl ?_ ?_ ?_); rfl; rfl) | (refine qau ?_; (refine qaa (qaj rfl) rfl ?_ ?_ ?_); rfl; rfl) | (refine qai ?_; (refine qaa (qae rfl) rfl ?_ ?_ ?_); rfl; rfl) | (refine qaW ?_; (refine qaa (qaQ rfl) rfl ?_ ?_ ?_); rfl; rfl) | (refine qaK ?_; (first | refine qaa (qaB rfl rfl (by first | assumption | with_reducible rfl | decide)) rfl ?_ ?_ ?_ | refine qaa (qay rfl rfl (by first | assumption | with_reducible rfl | decide)) rfl ?_ ?_ ?_); rfl; rfl) | refine qav ?_ | refine qan ?_ | refine qaw ?_)
    refine qaU rfl rfl rfl (fun w' hl => ⟨by kernel_rfl, hl.mod⟩)
  by_cases k5 : k = [99, 111, 110, 116, 101, 110, 116]
  · subst k5
    repeat (first | refine qap ?_ | refine qak ?_ | refine qaf ?_ | refine qab ?_ | refine SX.block ?_ | refine qao rfl ?_ | refine qas rfl ?_ | (refine qam ?_; (refine qaa (qag rfl) rfl ?_ ?_ ?_); rfl; rfl) | (refine qau ?_; (refine qaa (qaj rfl) rfl ?_ ?_ ?_); rfl; rfl) | (refine qai ?_; (refine qaa (qae rfl) rfl ?_ ?_ ?_); rfl; rfl) | (refine qaW ?_; (refine qaa (qaQ rfl) rfl ?_ ?_ ?_); rfl; rfl) | (refine qaK ?_; (first | refine qaa (qaB rfl rfl (by first | assumption | with_reducible rfl | decide)) rfl ?_ ?_ ?_ | refine qaa (qay rfl rfl (by first | assumption | with_reducible rfl | decide)) rfl ?_ ?_ ?_); rfl; rfl) | refine qav ?_ | refine qan ?_ | refine qaw ?_)
    refine qaU rfl rfl rfl (fun w' hl => ⟨by kernel_rfl, hl.mod⟩)
  by_cases k6 : k = [111, 114, 100, 101, 114]
  · subst k6
    repeat (first | refine qap ?_ | refine qak ?_ | refine qaf ?_ | refine qab ?_ | refine SX.block ?_ | refine qao rfl ?_ | refine qas rfl ?_ | (refine qam ?_; (refine qaa (qag rfl) rfl ?_ ?_ ?_); rfl; rfl) | (refine qau ?_; (refine qaa (qaj rfl) rfl ?_ ?_ ?_); rfl; rfl) | (refine qai ?_; (refine qaa (qae rfl) rfl ?_ ?_ ?_); rfl; rfl) | (refine qaW ?_; (refine qaa (qaQ rfl) rfl ?_ ?_ ?_); rfl; rfl) | (refine qaK ?_; (first | refine qaa (qaB rfl rfl (by first | assumption | with_reducible rfl | decide)) rfl ?_ ?_ ?_ | refine qaa (qay rfl rfl (by first | assumption | with_reducible rfl | decide)) rfl ?_ ?_ ?_); rfl; rfl) | refine qav ?_ | refine qan ?_ | refine qaw ?_)
    refine qaU rfl rfl rfl (fun w' hl => ⟨by kernel_rfl, hl.mod⟩)
  by_cases k7 : k = [103, 114, 111, 119]
  · subst k7
    repeat (first | refine qap ?_ | refine qak ?_ | refine qaf ?_ | refine qab ?_ | refine SX.block ?_ | refine qao rfl ?_ | refine qas rfl ?_ | (refine qam ?_; (refine qaa (qag rfl) rfl ?_ ?_ ?_); rfl; rfl) | (refine qau ?_; (refine qaa (qaj rfl) rfl ?_ ?_ ?_); rfl; rfl) | (refine qai ?_; (refine qaa (qae rfl) rfl ?_ ?_ ?_); rfl; rfl) | (refine qaW ?_; (refine qaa (qaQ rfl) rfl ?_ ?_ ?_); rfl; rfl) | (refine qaK ?_; (first | refine qaa (qaB rfl rfl (by first | assumption | with_reducible rfl | decide)) rfl ?_ ?_ ?_ | refine qaa (qay rfl rfl (by first | assumption | with_reducible rfl | decide)) rfl ?_ ?_ ?_); rfl; rfl) | refine qav ?_ | refine qan ?_ | refine qaw ?_)
    refine qaU rfl rfl rfl (fun w' hl => ⟨by kernel_rfl, hl.mod⟩)
  by_cases k8 : k = [115, 104, 114, 105, 110, 107]
  · subst k8
    repeat (first | refine qap ?_ | refine qak ?_ | refine qaf ?_ | refine qab ?_ | refine SX.block ?_ | refine qao rfl ?_ | refine qas rfl ?_ | (refine qam ?_; (refine qaa (qag rfl) rfl ?_ ?_ ?_); rfl; rfl) | (refine qau ?_; (refine qaa (qaj rfl) rfl ?_ ?_ ?_); rfl; rfl) | (refine qai ?_; (refine qaa (qae rfl) rfl ?_ ?_ ?_); rfl; rfl) | (refine qaW ?_; (refine qaa (qaQ rfl) rfl ?_ ?_ ?_); rfl; rfl) | (refine qaK ?_; (first | refine qaa (qaB rfl rfl (by first | assumption | with_reducible rfl | decide)) rfl ?_ ?_ ?_ | refine qaa (qay rfl rfl (by first | assumption | with_reducible rfl | decide)) rfl ?_ ?_ ?_); rfl; rfl) | refine qav ?_ | refine qan ?_ | refine qaw ?_)
    refine qaU rfl rfl rfl (fun w' hl => ⟨by kernel_rfl, hl.mod⟩)
  by_cases k9 : k = [114, 97, 116, 105, 111]
  · subst k9
    repeat (first | refine qap ?_ | refine qak ?_ | refine qaf ?_ | refine qab ?_ | refine SX.block ?_ | refine qao rfl ?_ | refine qas rfl ?_ | (refine qam ?_; (refine qaa (qag rfl) rfl ?_ ?_ ?_); rfl; rfl) | (refine qau ?_; (refine qaa (qaj rfl) rfl ?_ ?_ ?_); rfl; rfl) | (refine qai ?_; (refine qaa (qae rfl) rfl ?_ ?_ ?_); rfl; rfl) | (refine qaW ?_; (refine qaa (qaQ rfl) rfl ?_ ?_ ?_); rfl; rfl) | (refine qaK ?_; (first | refine qaa (qaB rfl rfl (by first | assumption | with_reducible rfl | decide)) rfl ?_ ?_ ?_ | refine qaa (qay rfl rfl (by first | assumption | with_reducible rfl | decide)) rfl ?_ ?_ ?_); rfl; rfl) | refine qav ?_ | refine qan ?_ | refine qaw ?_)
    refine qaU rfl rfl rfl (fun w' hl => ⟨by kernel_rfl, hl.mod⟩)
  by_cases k10 : k = [114, 111, 119, 45, 103, 97, 112]
  · subst k10
    repeat (first | refine qap ?_ | refine qak ?_ | refine qaf ?_ | refine qab ?_ | refine SX.block ?_ | refine qao rfl ?_ | refine qas rfl ?_ | (refine qam ?_; (refine qaa (qag rfl) rfl ?_ ?_ ?_); rfl; rfl) | (refine qau ?_; (refine qaa (qaj rfl) rfl ?_ ?_ ?_); rfl; rfl) | (refine qai ?_; (refine qaa (qae rfl) rfl ?_ ?_ ?_); rfl; rfl) | (refine qaW ?_; (refine qaa (qaQ rfl) rfl ?_ ?_ ?_); rfl; rfl) | (refine qaK ?_; (first | refine qaa (qaB rfl rfl (by first | assumption | with_reducible rfl | decide)) rfl ?_ ?_ ?_ | refine qaa (qay rfl rfl (by first | assumption | with_reducible rfl | decide)) rfl ?_ ?_ ?_); rfl; rfl) | refine qav ?_ | refine qan ?_ | refine qaw ?_)
    refine qaU rfl rfl rfl (fun w' hl => ⟨by kernel_rfl, hl.mod⟩)
  by_cases k11 : k = [99, 111, 108, 45, 103, 97, 112]
  · subst k11
    repeat (first | refine qap ?_ | refine qak ?_ | refine qaf ?_ | refine qab ?_ | refine SX.block ?_ | refine qao rfl ?_ | refine qas rfl ?_ | (refine qam ?_; (refine qaa (qag rfl) rfl ?_ ?_ ?_); rfl; rfl) | (refine qau ?_; (refine qaa (qaj rfl) rfl ?_ ?_ ?_); rfl; rfl) | (refine qai ?_; (refine qaa (qae rfl) rfl ?_ ?_ ?_); rfl; rfl) | (refine qaW ?_; (refine qaa (qaQ rfl) rfl ?_ ?_ ?_); rfl; rfl) | (refine qaK ?_; (first | refine qaa (qaB rfl rfl (by first | assumption | with_reducible rfl | decide)) rfl ?_ ?_ ?_ | refine qaa (qay rfl rfl (by first | assumption | with_reducible rfl | decide)) rfl ?_ ?_ ?_); rfl; rfl) | refine qav ?_ | refine qan ?_ | refine qaw ?_)
    refine qaU rfl rfl rfl (fun w' hl => ⟨by kernel_rfl, hl.mod⟩)
  by_cases k12 : k = [112, 97, 100, 45, 108, 101, 102, 116]
  · subst k12
    repeat (first | refine qap ?_ | refine qak ?_ | refine qaf ?_ | refine qab ?_ | refine SX.block ?_ | refine qao rfl ?_ | refine qas rfl ?_ | (refine qam ?_; (refine qaa (qag rfl) rfl ?_ ?_ ?_); rfl; rfl) | (refine qau ?_; (refine qaa (qaj rfl) rfl ?_ ?_ ?_); rfl; rfl) | (refine qai ?_; (refine qaa (qae rfl) rfl ?_ ?_ ?_); rfl; rfl) | (refine qaW ?_; (refine qaa (qaQ rfl) rfl ?_ ?_ ?_); rfl; rfl) | (refine qaK ?_; (first | refine qaa (qaB rfl rfl (by first | assumption | with_reducible rfl | decide)) rfl ?_ ?_ ?_ | refine qaa (qay rfl rfl (by first | assumption | with_reducible rfl | decide)) rfl ?_ ?_ ?_); rfl; rfl) | refine qav ?_ | refine qan ?_ | refine qaw ?_)
    refine qaU rfl rfl rfl (fun w' hl => ⟨by kernel_rfl, hl.mod⟩)
  by_cases k13 : k = [112, 97, 100, 45, 116, 111, 112]
  · subst k13
    repeat (first | refine qap ?_ | refine qak ?_ | refine qaf ?_ | refine qab ?_ | refine SX.block ?_ | refine qao rfl ?_ | refine qas rfl ?_ | (refine qam ?_; (refine qaa (qag rfl) rfl ?_ ?_ ?_); rfl; rfl) | (refine qau ?_; (refine qaa (qaj rfl) rfl ?_ ?_ ?_); rfl; rfl) | (refine qai ?_; (refine qaa (qae rfl) rfl ?_ ?_ ?_); rfl; rfl) | (refine qaW ?_; (refine qaa (qaQ rfl) rfl ?_ ?_ ?_); rfl; rfl) | (refine qaK ?_; (first | refine qaa (qaB rfl rfl (by first | assumption | with_reducible rfl | decide)) rfl ?_ ?_ ?_ | refine qaa (qay rfl rfl (by first | assumption | with_reducible rfl | decide)) rfl ?_ ?_ ?_); rfl; rfl) | refine qav ?_ | refine qan ?_ | refine qaw ?_)
    refine qaU rfl rfl rfl (fun w' hl => ⟨by kernel_rfl, hl.mod⟩)
  by_cases k14 : k = [112, 97, 100, 45, 114, 105, 103, 104, 116]
  · subst k14
    repeat (first | refine qap ?_ | refine qak ?_ | refine qaf ?_ | refine qab ?_ | refine SX.block ?_ | refine qao rfl ?_ | refine qas rfl ?_ | (refine qam ?_; (refine qaa (qag rfl) rfl ?_ ?_ ?_); rfl; rfl) | (refine qau ?_; (refine qaa (qaj rfl) rfl ?_ ?_ ?_); rfl; rfl) | (refine qai ?_; (refine qaa (qae rfl) rfl ?_ ?_ ?_); rfl; rfl) | (refine qaW ?_; (refine qaa (qaQ rfl) rfl ?_ ?_ ?_); rfl; rfl) | (refine qaK ?_; (first | refine qaa (qaB rfl rfl (by first | assumption | with_reducible rfl | decide)) rfl ?_ ?_ ?_ | refine qaa (qay rfl rfl (by first | assumption | with_reducible rfl | decide)) rfl ?_ ?_ ?_); rfl; rfl) | refine qav ?_ | refine qan ?_ | refine qaw ?_)
    refine qaU rfl rfl rfl (fun w' hl => ⟨by kernel_rfl, hl.mod⟩)
  by_cases k15 : k = [112, 97, 100, 45, 98, 111, 116, 116, 111, 109]
  · subst k15
    repeat (first | refine qap ?_ | refine qak ?_ | refine qaf ?_ | refine qab ?_ | refine SX.block ?_ | refine qao rfl ?_ | refine qas rfl ?_ | (refine qam ?_; (refine qaa (qag rfl) rfl ?_ ?_ ?_); rfl; rfl) | (refine qau ?_; (refine qaa (qaj rfl) rfl ?_ ?_ ?_); rfl; rfl) | (refine qai ?_; (refine qaa (qae rfl) rfl ?_ ?_ ?_); rfl; rfl) | (refine qaW ?_; (refine qaa (qaQ rfl) rfl ?_ ?_ ?_); rfl; rfl) | (refine qaK ?_; (first | refine qaa (qaB rfl rfl (by first | assumption | with_reducible rfl | decide)) rfl ?_ ?_ ?_ | refine qaa (qay rfl rfl (by first | assumption | with_reducible rfl | decide)) rfl ?_ ?_ ?_); rfl; rfl) | refine qav ?_ | refine qan ?_ | refine qaw ?_)
    refine qaU rfl rfl rfl (fun w' hl => ⟨by kernel_rfl, hl.mod⟩)
  by_cases k16 : k = [98, 111, 114, 100, 101, 114, 45, 108, 101, 102, 116]
  · subst k16
    repeat (first | refine qap ?_ | refine qak ?_ | refine qaf ?_ | refine qab ?_ | refine SX.block ?_ | refine qao rfl ?_ | refine qas rfl ?_ | (refine qam ?_; (refine qaa (qag rfl) rfl ?_ ?_ ?_); rfl; rfl) | (refine qau ?_; (refine qaa (qaj rfl) rfl ?_ ?_ ?_); rfl; rfl) | (refine qai ?_; (refine qaa (qae rfl) rfl ?_ ?_ ?_); rfl; rfl) | (refine qaW ?_; (refine qaa (qaQ rfl) rfl ?_ ?_ ?_); rfl; rfl) | (refine qaK ?_; (first | refine qaa (qaB rfl rfl (by first | assumption | with_reducible rfl | decide)) rfl ?_ ?_ ?_ | refine qaa (qay rfl rfl (by first | assumption | with_reducible rfl | decide)) rfl ?_ ?_ ?_); rfl; rfl) | refine qav ?_ | refine qan ?_ | refine qaw ?_)
    refine qaU rfl rfl rfl (fun w' hl => ⟨by kernel_rfl, hl.mod⟩)
  by_cases k17 : k = [98, 111, 114, 100, 101, 114, 45, 116, 111, 112]
  · subst k17
    repeat (first | refine qap ?_ | refine qak ?_ | refine qaf ?_ | refine qab ?_ | refine SX.block ?_ | refine qao rfl ?_ | refine qas rfl ?_ | (refine qam ?_; (refine qaa (qag rfl) rfl ?_ ?_ ?_); rfl; rfl) | (refine qau ?_; (refine qaa (qaj rfl) rfl ?_ ?_ ?_); rfl; rfl) | (refine qai ?_; (refine qaa (qae rfl) rfl ?_ ?_ ?_); rfl; rfl) | (refine qaW ?_; (refine qaa (qaQ rfl) rfl ?_ ?_ ?_); rfl; rfl) | (refine qaK ?_; (first | refine qaa (qaB rfl rfl (by first | assumption | with_reducible rfl | decide)) rfl ?_ ?_ ?_ | refine qaa (qay rfl rfl (by first | assumption | with_reducible rfl | decide)) rfl ?_ ?_ ?_); rfl; rfl) | refine qav ?_ | refine qan ?_ | refine qaw ?_)
    refine qaU rfl rfl rfl (fun w' hl => ⟨by kernel_rfl, hl.mod⟩)
  by_cases k18 : k = [98, 111, 114, 100, 101, 114, 45, 114, 105, 103, 104, 116]
  · subst k18
    repeat (first | refine qap ?_ | refine qak ?_ | refine qaf ?_ | refine qab ?_ | refine SX.block ?_ | refine qao rfl ?_ | refine qas rfl ?_ | (refine qam ?_; (refine qaa (qag rfl) rfl ?_ ?_ ?_); rfl; rfl) | (refine qau ?_; (refine qaa (qaj rfl) rfl ?_ ?_ ?_); rfl; rfl) | (refine qai ?_; (refine qaa (qae rfl) rfl ?_ ?_ ?_); rfl; rfl) | (refine qaW ?_; (refine qaa (qaQ rfl) rfl ?_ ?_ ?_); rfl; rfl) | (refine qaK ?_; (first | refine qaa (qaB rfl rfl (by first | assumption | with_reducible rfl | decide)) rfl ?_ ?_ ?_ | refine qaa (qay rfl rfl (by first | assumption | with_reducible rfl | decide)) rfl ?_ ?_ ?_); rfl; rfl) | refine qav ?_ | refine qan ?_ | refine qaw ?_)
    refine qaU rfl rfl rfl (fun w' hl => ⟨by kernel_rfl, hl.mod⟩)
  by_cases k19 : k = [98, 111, 114, 100, 101, 114, 45, 98, 111, 116, 116, 111, 109]
  · subst k19
    repeat (first | refine qap ?_ | refine qak ?_ | refine qaf ?_ | refine qab ?_ | refine SX.block ?_ | refine qao rfl ?_ | refine qas rfl ?_ | (refine qam ?_; (refine qaa (qag rfl) rfl ?_ ?_ ?_); rfl; rfl) | (refine qau ?_; (refine qaa (qaj rfl) rfl ?_ ?_ ?_); rfl; rfl) | (refine qai ?_; (refine qaa (qae rfl) rfl ?_ ?_ ?_); rfl; rfl) | (refine qaW ?_; (refine qaa (qaQ rfl) rfl ?_ ?_ ?_); rfl; rfl) | (refine qaK ?_; (first | refine qaa (qaB rfl rfl (by first | assumption | with_reducible rfl | decide)) rfl ?_ ?_ ?_ | refine qaa (qay rfl rfl (by first | assumption | with_reducible rfl | decide)) rfl ?_ ?_ ?_); rfl; rfl) | refine qav ?_ | refine qan ?_ | refine qaw ?_)
    refine qaU rfl rfl rfl (fun w' hl => ⟨by kernel_rfl, hl.mod⟩)
  · have e : iptr k = (8, false) := by
      unfold iptr
      by_cases h6 : k = [97, 112, 97, 114, 116]
      · subst h6; kernel_rfl
      by_cases h7 : k = [104, 105, 100, 100, 101, 110]
      · subst h7; kernel_rfl
      have : idxOf intTexts k = none := by
        unfold idxOf
        rw [List.findIdx?_eq_none_iff]
        intro x hx
        rw [decide_eq_false_iff_not]
        rintro rfl
        simp only [intTexts, List.mem_cons, List.not_mem_nil, or_false] at hx
        simp_all
      rw [this]
    repeat (first | refine qap ?_ | refine qak ?_ | refine qaf ?_ | refine qab ?_ | refine SX.block ?_ | refine qaE ?_ | refine qas rfl ?_ | (refine qam ?_; (refine qaa (qag rfl) rfl ?_ ?_ ?_); rfl; rfl) | (refine qau ?_; (refine qaa (qaj rfl) rfl ?_ ?_ ?_); rfl; rfl) | (refine qai ?_; (refine qaa (qae rfl) rfl ?_ ?_ ?_); rfl; rfl) | (refine qaW ?_; (refine qaa (qaQ rfl) rfl ?_ ?_ ?_); rfl; rfl) | (refine qaK ?_; (refine qaa (qay rfl rfl (by first | assumption | with_reducible rfl | decide)) rfl ?_ ?_ ?_); rfl; rfl) | refine qav ?_ | refine qar ?_)
    exact qaU rfl rfl rfl (fun w' hl => ⟨by rw [e], hl.mod⟩)

set_option maxRecDepth 100000 in
set_option maxHeartbeats 4000000 in
theorem sl26Value_any (b : Nat) (k : List UInt8) (w : World) : Calls Tryz.prog 94 #[.pointer (some ⟨b, 0, none⟩), .string ⟨k.toArray⟩] w fun e w' => e = .returned (.tuple #[.pointer (some ⟨b, (vptr k).1, none⟩), .bool (vptr k).2]) ∧ Mod (fun _ => False) w w' := by
  refine calls_sx Tryz.func94 rfl rfl (fun a h1 h2 h3 => ((Fr.nil h1 h2).arg (h3 1 _ rfl)).arg (h3 0 _ rfl)) ?_
  by_cases k0 : k = [98, 97, 115, 105, 115]
  · subst k0
    repeat (first | refine qap ?_ | refine qak ?_ | refine qaf ?_ | refine qab ?_ | refine SX.block ?_ | refine qao rfl ?_ | (refine qam ?_; (refine qaa (qag rfl) rfl ?_ ?_ ?_); rfl; rfl) | (refine qau ?_; (refine qaa (qaj rfl) rfl ?_ ?_ ?_); rfl; rfl) | (refine qai ?_; (refine qaa (qae rfl) rfl ?_ ?_ ?_); rfl; rfl) | (refine qaW ?_; (refine qaa (qaQ rfl) rfl ?_ ?_ ?_); rfl; rfl) | (refine qaK ?_; (refine qaa (qaB rfl rfl (by first | assumption | with_reducible rfl | decide)) rfl ?_ ?_ ?_); rfl; rfl) | refine qav ?_ | refine qan ?_ | refine qaw ?_)
    refine qaU rfl rfl rfl (fun w' hl => ⟨by kernel_rfl, hl.mod⟩)
  by_cases k1 : k = [119, 105, 100, 116, 104]
  · subst k1
    repeat (first | refine qap ?_ | refine qak ?_ | refine qaf ?_ | refine qab ?_ | refine SX.block ?_ | refine qao rfl ?_ | refine qas rfl ?_ | (refine qam ?_; (refine qaa (qag rfl) rfl ?_ ?_ ?_); rfl; rfl) | (refine qau ?_; (refine qaa (qaj rfl) rfl ?_ ?_ ?_); rfl; rfl) | (refine qai ?_; (refine qaa (qae rfl) rfl ?_ ?_ ?_); rfl; rfl) | (refine qaW ?_; (refine qaa (qaQ rfl) rfl ?_ ?_ ?_); rfl; rfl) | (refine qaK ?_; (first | refine qaa (qaB rfl rfl (by first | assumption | with_reducible rfl | decide)) rfl ?_ ?_ ?_ | refine qaa (qay rfl rfl (by first | assumption | with_reducible rfl | decide)) rfl ?_ ?_ ?_); rfl; rfl) | refine qav ?_ | refine qan ?_ | refine qaw ?_)
    refine qaU rfl rfl rfl (fun w' hl => ⟨by kernel_rfl, hl.mod⟩)
  by_cases k2 : k = [104, 101, 105, 103, 104, 116]
  · subst k2
    repeat (first | refine qap ?_ | refine qak ?_ | refine qaf ?_ | refine qab ?_ | refine SX.block ?_ | refine qao rfl ?_ | refine qas rfl ?_ | (refine qam ?_; (refine qaa (qag rfl) rfl ?_ ?_ ?_); rfl; rfl) | (refine qau ?_; (refine qaa (qaj rfl) rfl ?_ ?_ ?_); rfl; rfl) | (refine qai ?_; (refine qaa (qae rfl) rfl ?_ ?_ ?_); rfl; rfl) | (refine qaW ?_; (refine qaa (qaQ rfl) rfl ?_ ?_ ?_); rfl; rfl) | (refine qaK ?_; (first | refine qaa (qaB rfl rfl (by first | assumption | with_reducible rfl | decide)) rfl ?_ ?_ ?_ | refine qaa (qay rfl rfl (by first | assumption | with_reducible rfl | decide)) rfl ?_ ?_ ?_); rfl; rfl) | refine qav ?_ | refine qan ?_ | refine qaw ?_)
    refine qaU rfl rfl rfl (fun w' hl => ⟨by kernel_rfl, hl.mod⟩)
  by_cases k3 : k = [109, 105, 110, 45, 119, 105, 100, 116, 104]
  · subst k3
    repeat (first | refine qap ?_ | refine qak ?_ | refine qaf ?_ | refine qab ?_ | refine SX.block ?_ | refine qao rfl ?_ | refine qas rfl ?_ | (refine qam ?_; (refine qaa (qag rfl) rfl ?_ ?_ ?_); rfl; rfl) | (refine qau ?_; (refine qaa (qaj rfl) rfl ?_ ?_ ?_); rfl; rfl) | (refine qai ?_; (refine qaa (qae rfl) rfl ?_ ?_ ?_); rfl; rfl) | (refine qaW ?_; (refine qaa (qaQ rfl) rfl ?_ ?_ ?_); rfl; rfl) | (refine qaK ?_; (first | refine qaa (qaB rfl rfl (by first | assumption | with_reducible rfl | decide)) rfl ?_ ?_ ?_ | refine qaa (qay rfl rfl (by first | assumption | with_reducible rfl | decide)) rfl ?_ ?_ ?_); rfl; rfl) | refine qav ?_ | refine qan ?_ | refine qaw ?_)
    refine qaU rfl rfl rfl (fun w' hl => ⟨by kernel_rfl, hl.mod⟩)
  by_cases k4 : k = [109, 105, 110, 45, 104, 101, 105, 103, 104, 116]
  · subst k4
    repeat (first | refine qap ?_ | refine qak ?_ | refine qaf ?_ | refine qab ?_ | refine SX.block ?_ | refine qao rfl ?_ | refine qas rfl ?_ | (refine qam ?_; (refine qaa (qag rfl) rfl ?_ ?_ ?_); rfl; rfl) | (refine qau ?_; (refine qaa (qaj rfl) rfl ?_ ?_ ?_); rfl; rfl) | (refine qai ?_; (refine qaa (qae rfl) rfl ?_ ?_ ?_); rfl; rfl) | (refine qaW ?_; (refine qaa (qaQ rfl) rfl ?_ ?_ ?_); rfl; rfl) | (refine qaK ?_; (first | refine qaa (qaB rfl rfl (by first | assumption | with_reducible rfl | decide)) rfl ?_ ?_ ?_ | refine qaa (qay rfl rfl (by first | assumption | with_reducible rfl | decide)) rfl ?_ ?_ ?_); rfl; rfl) | refine qav ?_ | refine qan ?_ | refine qaw ?_)
    refine qaU rfl rfl rfl (fun w' hl => ⟨by kernel_rfl, hl.mod⟩)
  by_cases k5 : k = [109, 97, 120, 45, 119, 105, 100, 116, 104]
  · subst k5
    repeat (first | refine qap ?_ | refine qak ?_ | refine qaf ?_ | refine qab ?_ | refine SX.block ?_ | refine qao rfl ?_ | refine qas rfl ?_ | (refine qam ?_; (refine qaa (qag rfl) rfl ?_ ?_ ?_); rfl; rfl) | (refine qau ?_; (refine qaa (qaj rfl) rfl ?_ ?_ ?_); rfl; rfl) | (refine qai ?_; (refine qaa (qae rfl) rfl ?_ ?_ ?_); rfl; rfl) | (refine qaW ?_; (refine qaa (qaQ rfl) rfl ?_ ?_ ?_); rfl; rfl) | (refine qaK ?_; (first | refine qaa (qaB rfl rfl (by first | assumption | with_reducible rfl | decide)) rfl ?_ ?_ ?_ | refine qaa (qay rfl rfl (by first | assumption | with_reducible rfl | decide)) rfl ?_ ?_ ?_); rfl; rfl) | refine qav ?_ | refine qan ?_ | refine qaw ?_)
    refine qaU rfl rfl rfl (fun w' hl => ⟨by kernel_rfl, hl.mod⟩)
  by_cases k6 : k = [109, 97, 120, 45, 104, 101, 105, 103, 104, 116]
  · subst k6
    repeat (first | refine qap ?_ | refine qak ?_ | refine qaf ?_ | refine qab ?_ | refine SX.block ?_ | refine qao rfl ?_ | refine qas rfl ?_ | (refine qam ?_; (refine qaa (qag rfl) rfl ?_ ?_ ?_); rfl; rfl) | (refine qau ?_; (refine qaa (qaj rfl) rfl ?_ ?_ ?_); rfl; rfl) | (refine qai ?_; (refine qaa (qae rfl) rfl ?_ ?_ ?_); rfl; rfl) | (refine qaW ?_; (refine qaa (qaQ rfl) rfl ?_ ?_ ?_); rfl; rfl) | (refine qaK ?_; (first | refine qaa (qaB rfl rfl (by first | assumption | with_reducible rfl | decide)) rfl ?_ ?_ ?_ | refine qaa (qay rfl rfl (by first | assumption | with_reducible rfl | decide)) rfl ?_ ?_ ?_); rfl; rfl) | refine qav ?_ | refine qan ?_ | refine qaw ?_)
    refine qaU rfl rfl rfl (fun w' hl => ⟨by kernel_rfl, hl.mod⟩)
  by_cases k7 : k = [109, 97, 114, 103, 105, 110, 45, 108, 101, 102, 116]
  · subst k7
    repeat (first | refine qap ?_ | refine qak ?_ | refine qaf ?_ | refine qab ?_ | refine SX.block ?_ | refine qao rfl ?_ | refine qas rfl ?_ | (refine qam ?_; (refine qaa (qag rfl) rfl ?_ ?_ ?_); rfl; rfl) | (refine qau ?_; (refine qaa (qaj rfl) rfl ?_ ?_ ?_); rfl; rfl) | (refine qai ?_; (refine qaa (qae rfl) rfl ?_ ?_ ?_); rfl; rfl) | (refine qaW ?_; (refine qaa (qaQ rfl) rfl ?_ ?_ ?_); rfl; rfl) | (refine qaK ?_; (first | refine qaa (qaB rfl rfl (by first | assumption | with_reducible rfl | decide)) rfl ?_ ?_ ?_ | refine qaa (qay rfl rfl (by first | assumption | with_reducible rfl | decide)) rfl ?_ ?_ ?_); rfl; rfl) | refine qav ?_ | refine qan ?_ | refine qaw ?_)
    refine qaU rfl rfl rfl (fun w' hl => ⟨by kernel_rfl, hl.mod⟩)
  by_cases k8 : k = [109, 97, 114, 103, 105, 110, 45, 116, 111, 112]
  · subst k8
    repeat (first | refine qap ?_ | refine qak ?_ | refine qaf ?_ | refine qab ?_ | refine SX.block ?_ | refine qao rfl ?_ | refine qas rfl ?_ | (refine qam ?_; (refine qaa (qag rfl) rfl ?_ ?_ ?_); rfl; rfl) | (refine qau ?_; (refine qaa (qaj rfl) rfl ?_ ?_ ?_); rfl; rfl) | (refine qai ?_; (refine qaa (qae rfl) rfl ?_ ?_ ?_); rfl; rfl) | (refine qaW ?_; (refine qaa (qaQ rfl) rfl ?_ ?_ ?_); rfl; rfl) | (refine qaK ?_; (first | refine qaa (qaB rfl rfl (by first | assumption | with_reducible rfl | decide)) rfl ?_ ?_ ?_ | refine qaa (qay rfl rfl (by first | assumption | with_reducible rfl | decide)) rfl ?_ ?_ ?_); rfl; rfl) | refine qav ?_ | refine qan ?_ | refine qaw ?_)
    refine qaU rfl rfl rfl (fun w' hl => ⟨by kernel_rfl, hl.mod⟩)
  by_cases k9 : k = [109, 97, 114, 103, 105, 110, 45, 114, 105, 103, 104, 116]
  · subst k9
    repeat (first | refine qap ?_ | refine qak ?_ | refine qaf ?_ | refine qab ?_ | refine SX.block ?_ | refine qao rfl ?_ | refine qas rfl ?_ | (refine qam ?_; (refine qaa (qag rfl) rfl ?_ ?_ ?_); rfl; rfl) | (refine qau ?_; (refine qaa (qaj rfl) rfl ?_ ?_ ?_); rfl; rfl) | (refine qai ?_; (refine qaa (qae rfl) rfl ?_ ?_ ?_); rfl; rfl) | (refine qaW ?_; (refine qaa (qaQ rfl) rfl ?_ ?_ ?_); rfl; rfl) | (refine qaK ?_; (first | refine qaa (qaB rfl rfl (by first | assumption | with_reducible rfl | decide)) rfl ?_ ?_ ?_ | refine qaa (qay rfl rfl (by first | assumption | with_reducible rfl | decide)) rfl ?_ ?_ ?_); rfl; rfl) | refine qav ?_ | refine qan ?_ | refine qaw ?_)
    refine qaU rfl rfl rfl (fun w' hl => ⟨by kernel_rfl, hl.mod⟩)
  by_cases k10 : k = [109, 97, 114, 103, 105, 110, 45, 98, 111, 116, 116, 111, 109]
  · subst k10
    repeat (first | refine qap ?_ | refine qak ?_ | refine qaf ?_ | refine qab ?_ | refine SX.block ?_ | refine qao rfl ?_ | refine qas rfl ?_ | (refine qam ?_; (refine qaa (qag rfl) rfl ?_ ?_ ?_); rfl; rfl) | (refine qau ?_; (refine qaa (qaj rfl) rfl ?_ ?_ ?_); rfl; rfl) | (refine qai ?_; (refine qaa (qae rfl) rfl ?_ ?_ ?_); rfl; rfl) | (refine qaW ?_; (refine qaa (qaQ rfl) rfl ?_ ?_ ?_); rfl; rfl) | (refine qaK ?_; (first | refine qaa (qaB rfl rfl (by first | assumption | with_reducible rfl | decide)) rfl ?_ ?_ ?_ | refine qaa (qay rfl rfl (by first | assumption | with_reducible rfl | decide)) rfl ?_ ?_ ?_); rfl; rfl) | refine qav ?_ | refine qan ?_ | refine qaw ?_)
    refine qaU rfl rfl rfl (fun w' hl => ⟨by kernel_rfl, hl.mod⟩)
  by_cases k11 : k = [109, 97, 114, 103, 105, 110, 45, 115, 116, 97, 114, 116]
  · subst k11
    repeat (first | refine qap ?_ | refine qak ?_ | refine qaf ?_ | refine qab ?_ | refine SX.block ?_ | refine qao rfl ?_ | refine qas rfl ?_ | (refine qam ?_; (refine qaa (qag rfl) rfl ?_ ?_ ?_); rfl; rfl) | (refine qau ?_; (refine qaa (qaj rfl) rfl ?_ ?_ ?_); rfl; rfl) | (refine qai ?_; (refine qaa (qae rfl) rfl ?_ ?_ ?_); rfl; rfl) | (refine qaW ?_; (refine qaa (qaQ rfl) rfl ?_ ?_ ?_); rfl; rfl) | (refine qaK ?_; (first | refine qaa (qaB rfl rfl (by first | assumption | with_reducible rfl | decide)) rfl ?_ ?_ ?_ | refine qaa (qay rfl rfl (by first | assumption | with_reducible rfl | decide)) rfl ?_ ?_ ?_); rfl; rfl) | refine qav ?_ | refine qan ?_ | refine qaw ?_)
    refine qaU rfl rfl rfl (fun w' hl => ⟨by kernel_rfl, hl.mod⟩)
  by_cases k12 : k = [109, 97, 114, 103, 105, 110, 45, 101, 110, 100]
  · subst k12
    repeat (first | refine qap ?_ | refine qak ?_ | refine qaf ?_ | refine qab ?_ | refine SX.block ?_ | refine qao rfl ?_ | refine qas rfl ?_ | (refine qam ?_; (refine qaa (qag rfl) rfl ?_ ?_ ?_); rfl; rfl) | (refine qau ?_; (refine qaa (qaj rfl) rfl ?_ ?_ ?_); rfl; rfl) | (refine qai ?_; (refine qaa (qae rfl) rfl ?_ ?_ ?_); rfl; rfl) | (refine qaW ?_; (refine qaa (qaQ rfl) rfl ?_ ?_ ?_); rfl; rfl) | (refine qaK ?_; (first | refine qaa (qaB rfl rfl (by first | assumption | with_reducible rfl | decide)) rfl ?_ ?_ ?_ | refine qaa (qay rfl rfl (by first | assumption | with_reducible rfl | decide)) rfl ?_ ?_ ?_); rfl; rfl) | refine qav ?_ | refine qan ?_ | refine qaw ?_)
    refine qaU rfl rfl rfl (fun w' hl => ⟨by kernel_rfl, hl.mod⟩)
  by_cases k13 : k = [105, 110, 115, 101, 116, 45, 108, 101, 102, 116]
  · subst k13
    repeat (first | refine qap ?_ | refine qak ?_ | refine qaf ?_ | refine qab ?_ | refine SX.block ?_ | refine qao rfl ?_ | refine qas rfl ?_ | (refine qam ?_; (refine qaa (qag rfl) rfl ?_ ?_ ?_); rfl; rfl) | (refine qau ?_; (refine qaa (qaj rfl) rfl ?_ ?_ ?_); rfl; rfl) | (refine qai ?_; (refine qaa (qae rfl) rfl ?_ ?_ ?_); rfl; rfl) | (refine qaW ?_; (refine qaa (qaQ rfl) rfl ?_ ?_ ?_); rfl; rfl) | (refine qaK ?_; (first | refine qaa (qaB rfl rfl (by first | assumption | with_reducible rfl | decide)) rfl ?_ ?_ ?_ | refine qaa (qay rfl rfl (by first | assumption | with_reducible rfl | decide)) rfl ?_ ?_ ?_); rfl; rfl) | refine qav ?_ | refine qan ?_ | refine qaw ?_)
    refine qaU rfl rfl rfl (fun w' hl => ⟨by kernel_rfl, hl.mod⟩)
  by_cases k14 : k = [105, 110, 115, 101, 116, 45, 116, 111, 112]
  · subst k14
    repeat (first | refine qap ?_ | refine qak ?_ | refine qaf ?_ | refine qab ?_ | refine SX.block ?_ | refine qao rfl ?_ | refine qas rfl ?_ | (refine qam ?_; (refine qaa (qag rfl) rfl ?_ ?_ ?_); rfl; rfl) | (refine qau ?_; (refine qaa (qaj rfl) rfl ?_ ?_ ?_); rfl; rfl) | (refine qai ?_; (refine qaa (qae rfl) rfl ?_ ?_ ?_); rfl; rfl) | (refine qaW ?_; (refine qaa (qaQ rfl) rfl ?_ ?_ ?_); rfl; rfl) | (refine qaK ?_; (first | refine qaa (qaB rfl rfl (by first | assumption | with_reducible rfl | decide)) rfl ?_ ?_ ?_ | refine qaa (qay rfl rfl (by first | assumption | with_reducible rfl | decide)) rfl ?_ ?_ ?_); rfl; rfl) | refine qav ?_ | refine qan ?_ | refine qaw ?_)
    refine qaU rfl rfl rfl (fun w' hl => ⟨by kernel_rfl, hl.mod⟩)
  by_cases k15 : k = [105, 110, 115, 101, 116, 45, 114, 105, 103, 104, 116]
  · subst k15
    repeat (first | refine qap ?_ | refine qak ?_ | refine qaf ?_ | refine qab ?_ | refine SX.block ?_ | refine qao rfl ?_ | refine qas rfl ?_ | (refine qam ?_; (refine qaa (qag rfl) rfl ?_ ?_ ?_); rfl; rfl) | (refine qau ?_; (refine qaa (qaj rfl) rfl ?_ ?_ ?_); rfl; rfl) | (refine qai ?_; (refine qaa (qae rfl) rfl ?_ ?_ ?_); rfl; rfl) | (refine qaW ?_; (refine qaa (qaQ rfl) rfl ?_ ?_ ?_); rfl; rfl) | (refine qaK ?_; (first | refine qaa (qaB rfl rfl (by first | assumption | with_reducible rfl | decide)) rfl ?_ ?_ ?_ | refine qaa (qay rfl rfl (by first | assumption | with_reducible rfl | decide)) rfl ?_ ?_ ?_); rfl; rfl) | refine qav ?_ | refine qan ?_ | refine qaw ?_)
    refine qaU rfl rfl rfl (fun w' hl => ⟨by kernel_rfl, hl.mod⟩)
  by_cases k16 : k = [105, 110, 115, 101, 116, 45, 98, 111, 116, 116, 111, 109]
  · subst k16
    repeat (first | refine qap ?_ | refine qak ?_ | refine qaf ?_ | refine qab ?_ | refine SX.block ?_ | refine qao rfl ?_ | refine qas rfl ?_ | (refine qam ?_; (refine qaa (qag rfl) rfl ?_ ?_ ?_); rfl; rfl) | (refine qau ?_; (refine qaa (qaj rfl) rfl ?_ ?_ ?_); rfl; rfl) | (refine qai ?_; (refine qaa (qae rfl) rfl ?_ ?_ ?_); rfl; rfl) | (refine qaW ?_; (refine qaa (qaQ rfl) rfl ?_ ?_ ?_); rfl; rfl) | (refine qaK ?_; (first | refine qaa (qaB rfl rfl (by first | assumption | with_reducible rfl | decide)) rfl ?_ ?_ ?_ | refine qaa (qay rfl rfl (by first | assumption | with_reducible rfl | decide)) rfl ?_ ?_ ?_); rfl; rfl) | refine qav ?_ | refine qan ?_ | refine qaw ?_)
    refine qaU rfl rfl rfl (fun w' hl => ⟨by kernel_rfl, hl.mod⟩)
  by_cases k17 : k = [105, 110, 115, 101, 116, 45, 115, 116, 97, 114, 116]
  · subst k17
    repeat (first | refine qap ?_ | refine qak ?_ | refine qaf ?_ | refine qab ?_ | refine SX.block ?_ | refine qao rfl ?_ | refine qas rfl ?_ | (refine qam ?_; (refine qaa (qag rfl) rfl ?_ ?_ ?_); rfl; rfl) | (refine qau ?_; (refine qaa (qaj rfl) rfl ?_ ?_ ?_); rfl; rfl) | (refine qai ?_; (refine qaa (qae rfl) rfl ?_ ?_ ?_); rfl; rfl) | (refine qaW ?_; (refine qaa (qaQ rfl) rfl ?_ ?_ ?_); rfl; rfl) | (refine qaK ?_; (first | refine qaa (qaB rfl rfl (by first | assumption | with_reducible rfl | decide)) rfl ?_ ?_ ?_ | refine qaa (qay rfl rfl (by first | assumption | with_reducible rfl | decide)) rfl ?_ ?_ ?_); rfl; rfl) | refine qav ?_ | refine qan ?_ | refine qaw ?_)
    refine qaU rfl rfl rfl (fun w' hl => ⟨by kernel_rfl, hl.mod⟩)
  by_cases k18 : k = [105, 110, 115, 101, 116, 45, 101, 110, 100]
  · subst k18
    repeat (first | refine qap ?_ | refine qak ?_ | refine qaf ?_ | refine qab ?_ | refine SX.block ?_ | refine qao rfl ?_ | refine qas rfl ?_ | (refine qam ?_; (refine qaa (qag rfl) rfl ?_ ?_ ?_); rfl; rfl) | (refine qau ?_; (refine qaa (qaj rfl) rfl ?_ ?_ ?_); rfl; rfl) | (refine qai ?_; (refine qaa (qae rfl) rfl ?_ ?_ ?_); rfl; rfl) | (refine qaW ?_; (refine qaa (qaQ rfl) rfl ?_ ?_ ?_); rfl; rfl) | (refine qaK ?_; (first | refine qaa (qaB rfl rfl (by first | assumption | with_reducible rfl | decide)) rfl ?_ ?_ ?_ | refine qaa (qay rfl rfl (by first | assumption | with_reducible rfl | decide)) rfl ?_ ?_ ?_); rfl; rfl) | refine qav ?_ | refine qan ?_ | refine qaw ?_)
    refine qaU rfl rfl rfl (fun w' hl => ⟨by kernel_rfl, hl.mod⟩)
  · have e : vptr k = (11, false) := by
      unfold vptr
      have : idxOf valueTexts k = none := by
        unfold idxOf
        rw [List.findIdx?_eq_none_iff]
        intro x hx
        rw [decide_eq_false_iff_not]
        rintro rfl
        simp only [valueTexts, List.mem_cons, List.not_mem_nil, or_false] at hx
        simp_all
      rw [this]
    repeat (first | refine qap ?_ | refine qak ?_ | refine qaf ?_ | refine qab ?_ | refine SX.block ?_ | refine qaE ?_ | refine qas rfl ?_ | (refine qam ?_; (refine qaa (qag rfl) rfl ?_ ?_ ?_); rfl; rfl) | (refine qau ?_; (refine qaa (qaj rfl) rfl ?_ ?_ ?_); rfl; rfl) | (refine qai ?_; (refine qaa (qae rfl) rfl ?_ ?_ ?_); rfl; rfl) | (refine qaW ?_; (refine qaa (qaQ rfl) rfl ?_ ?_ ?_); rfl; rfl) | (refine qaK ?_; (refine qaa (qay rfl rfl (by first | assumption | with_reducible rfl | decide)) rfl ?_ ?_ ?_); rfl; rfl) | refine qav ?_ | refine qar ?_)
    exact qaU rfl rfl rfl (fun w' hl => ⟨by rw [e], hl.mod⟩)
end Go.Proofs.YtkkjjhooamlljaaGreatDoor
namespace Go.Proofs.YtkkjjhooamlljaaGreatDoor
open Go.RowKit

theorem bitOf_any (b : Bool) (w : World) : Calls Tryz.prog 110 #[.bool b] w fun e w' => e = .returned (.int .i64 (bitOf b)) ∧ Mod (fun _ => False) w w' := by
  refine calls_sx Tryz.func110 rfl rfl (fun a h1 h2 h3 => ((Fr.nil h1 h2).arg (h3 0 _ rfl))) ?_
  cases b
  · repeat (first | refine qap ?_ | refine qak ?_ | refine qaf ?_ | refine qab ?_ | refine qaE ?_ | refine qas rfl ?_ | (refine qau ?_; (refine qaa (qaj rfl) rfl ?_ ?_ ?_); rfl; rfl) | (refine qai ?_; (refine qaa (qae rfl) rfl ?_ ?_ ?_); rfl; rfl) | refine qav ?_)
    refine qaC rfl rfl (fun w' hl => ⟨rfl, hl.mod⟩)
  · repeat (first | refine qap ?_ | refine qak ?_ | refine qaf ?_ | refine qab ?_ | refine qao rfl ?_ | (refine qau ?_; (refine qaa (qaj rfl) rfl ?_ ?_ ?_); rfl; rfl) | (refine qai ?_; (refine qaa (qae rfl) rfl ?_ ?_ ?_); rfl; rfl) | refine qav ?_ | refine qan ?_)
    refine qaC rfl rfl (fun w' hl => ⟨rfl, hl.mod⟩)
def numOf (s : Style) (k : List UInt8) : Int × Bool :=
  match idxOf intTexts k with
  | some i => ((styleInts s).getD i 0, true)
  | none => (0, false)
/-- A style's cells lie in block b. -/
def StyleAt (w : World) (b : Nat) (s : Style) : Prop := ∀ j v, s.cells[j]? = some v → w.cell? ⟨b, j, none⟩ = some v
set_option maxRecDepth 100000 in
set_option maxHeartbeats 4000000 in
theorem sl26Num_any (s : Style) (b : Nat) (k : List UInt8) (w : World) (hc : StyleAt w b s) : Calls Tryz.prog 93 #[.pointer (some ⟨b, 0, none⟩), .string ⟨k.toArray⟩] w fun e w' => e = .returned (.tuple #[.int .i64 (numOf s k).1, .bool (numOf s k).2]) ∧ Mod (fun _ => False) w w' := by
  refine calls_sx Tryz.func93 rfl rfl (fun a h1 h2 h3 => ((Fr.nil h1 h2).arg (h3 1 _ rfl)).arg (h3 0 _ rfl)) ?_
  by_cases k1 : k = [97, 112, 97, 114, 116]
  · subst k1
    have c6 := hc 6 _ rfl
    repeat (first | refine qap ?_ | refine qak ?_ | refine qaf ?_ | refine qab ?_ | refine SX.block ?_ | refine qao rfl ?_ | (refine qaA ?_; (refine qaa (qal rfl (fun w hl => bitOf_any _ _)) rfl ?_ ?_ ?_); rfl; rfl) | (refine qaF ?_; (refine qaa (OpW.loadOld rfl (by assumption) (fun h => h)) rfl ?_ ?_ ?_); rfl; rfl) | (refine qam ?_; (refine qaa (qag rfl) rfl ?_ ?_ ?_); rfl; rfl) | (refine qau ?_; (refine qaa (qaj rfl) rfl ?_ ?_ ?_); rfl; rfl) | (refine qai ?_; (refine qaa (qae rfl) rfl ?_ ?_ ?_); rfl; rfl) | (refine qaW ?_; (refine qaa (qaQ rfl) rfl ?_ ?_ ?_); rfl; rfl) | (refine qaK ?_; (refine qaa (qaB rfl rfl (by first | assumption | with_reducible rfl | decide)) rfl ?_ ?_ ?_); rfl; rfl) | refine qav ?_ | refine qan ?_ | refine qaw ?_)
    refine qaU rfl rfl rfl (fun w' hl => ⟨rfl, hl.mod⟩)
  by_cases k2 : k = [104, 105, 100, 100, 101, 110]
  · subst k2
    have c7 := hc 7 _ rfl
    repeat (first | refine qap ?_ | refine qak ?_ | refine qaf ?_ | refine qab ?_ | refine SX.block ?_ | refine qao rfl ?_ | refine qas rfl ?_ | (refine qaA ?_; (refine qaa (qal rfl (fun w hl => bitOf_any _ _)) rfl ?_ ?_ ?_); rfl; rfl) | (refine qaF ?_; (refine qaa (OpW.loadOld rfl (by assumption) (fun h => h)) rfl ?_ ?_ ?_); rfl; rfl) | (refine qam ?_; (refine qaa (qag rfl) rfl ?_ ?_ ?_); rfl; rfl) | (refine qau ?_; (refine qaa (qaj rfl) rfl ?_ ?_ ?_); rfl; rfl) | (refine qai ?_; (refine qaa (qae rfl) rfl ?_ ?_ ?_); rfl; rfl) | (refine qaW ?_; (refine qaa (qaQ rfl) rfl ?_ ?_ ?_); rfl; rfl) | (refine qaK ?_; (first | refine qaa (qaB rfl rfl (by first | assumption | with_reducible rfl | decide)) rfl ?_ ?_ ?_ | refine qaa (qay rfl rfl (by first | assumption | with_reducible rfl | decide)) rfl ?_ ?_ ?_); rfl; rfl) | refine qav ?_ | refine qan ?_ | refine qaw ?_)
    refine qaU rfl rfl rfl (fun w' hl => ⟨rfl, hl.mod⟩)
  have hcall := sl26Int_any b k
  cases hi : idxOf intTexts k with
  | none =>
    have e1 : iptr k = (8, false) := by unfold iptr; rw [hi]
    have e2 : numOf s k = (0, false) := by unfold numOf; rw [hi]
    rw [e1] at hcall
    rw [e2]
    repeat (first | refine qap ?_ | refine qak ?_ | refine qaf ?_ | refine qab ?_ | refine SX.block ?_ | refine qaE ?_ | refine qao rfl ?_ | refine qas rfl ?_ | (refine qaA ?_; (refine qaa (qal rfl (fun w hl => hcall _)) rfl ?_ ?_ ?_); rfl; rfl) | (refine qau ?_; (refine qaa (qaj rfl) rfl ?_ ?_ ?_); rfl; rfl) | (refine qai ?_; (refine qaa (qae rfl) rfl ?_ ?_ ?_); rfl; rfl) | (refine qaK ?_; (refine qaa (qay rfl rfl (by first | assumption | with_reducible rfl | decide)) rfl ?_ ?_ ?_); rfl; rfl) | (refine l_not ?_; (refine qaa (OpW.not rfl) rfl ?_ ?_ ?_); rfl; rfl) | (refine qaP ?_; (refine qaa (OpW.extract rfl rfl) rfl ?_ ?_ ?_); rfl; rfl) | refine qav ?_ | refine qan ?_ | refine qar ?_)
    refine qaU rfl rfl rfl (fun w' hl => ⟨rfl, hl.mod⟩)
  | some i =>
    have hlt : i < 22 := idxOf_lt hi
    have hat := idxOf_at hi
    have h6 : i ≠ 6 := fun e => by subst e; exact k1 (Option.some.inj hat).symm
    have h7 : i ≠ 7 := fun e => by subst e; exact k2 (Option.some.inj hat).symm
    have e1 : iptr k = (ioffs.getD i 0, true) := by unfold iptr; rw [hi]; simp [h6, h7]
    have e2 : numOf s k = ((styleInts s).getD i 0, true) := by unfold numOf; rw [hi]
    have hv := hc _ _ (int_at s hlt h6 h7)
    rw [e1] at hcall
    rw [e2]
    repeat (first | refine qap ?_ | refine qak ?_ | refine qaf ?_ | refine qab ?_ | refine SX.block ?_ | refine qaE ?_ | refine qas rfl ?_ | (refine qaA ?_; (refine qaa (qal rfl (fun w hl => hcall _)) rfl ?_ ?_ ?_); rfl; rfl) | (refine qaF ?_; (refine qaa (OpW.loadOld rfl (by assumption) (fun h => h)) rfl ?_ ?_ ?_); rfl; rfl) | (refine qau ?_; (refine qaa (qaj rfl) rfl ?_ ?_ ?_); rfl; rfl) | (refine qai ?_; (refine qaa (qae rfl) rfl ?_ ?_ ?_); rfl; rfl) | (refine qaW ?_; (refine qaa (qaQ rfl) rfl ?_ ?_ ?_); rfl; rfl) | (refine qaK ?_; (refine qaa (qay rfl rfl (by first | assumption | with_reducible rfl | decide)) rfl ?_ ?_ ?_); rfl; rfl) | (refine l_not ?_; (refine qaa (OpW.not rfl) rfl ?_ ?_ ?_); rfl; rfl) | (refine qaP ?_; (refine qaa (OpW.extract rfl rfl) rfl ?_ ?_ ?_); rfl; rfl) | refine qav ?_ | refine qar ?_)
    refine qaU rfl rfl rfl (fun w' hl => ⟨rfl, hl.mod⟩)

set_option maxRecDepth 100000 in
set_option maxHeartbeats 4000000 in
theorem skeyOf_any (s : Style) (k : List UInt8) (w : World) : Calls Tryz.prog 63 #[.agg s.cells.toArray, .string ⟨k.toArray⟩] w fun e w' => e = .returned (.tuple #[.agg (keyOf s k).1.cells.toArray, .bool (keyOf s k).2]) ∧ Mod (fun _ => False) w w' := by
  refine calls_sx Tryz.func63 rfl rfl (fun a h1 h2 h3 => ((Fr.nil h1 h2).arg (h3 1 _ rfl)).arg (h3 0 _ rfl)) ?_
  have hnum := sl26Num_any s
  have hval := sl26Value_any
  cases hi : idxOf intTexts k with
  | some i =>
    have e2 : numOf s k = ((styleInts s).getD i 0, true) := by unfold numOf; rw [hi]
    have e3 : keyOf s k = (⟨1, (styleInts s).getD i 0⟩, true) := by unfold keyOf; rw [hi]
    rw [e3]
    replace hnum := fun b => hnum b k
    rw [e2] at hnum
    repeat (first | refine qap ?_ | refine qak ?_ | refine qaf ?_ | refine qab ?_ | refine qao rfl ?_ | (refine qaA ?_; (refine qaa (qal rfl (fun w hl => hnum _ _ (fun j v hj => hl.cell (i := 1) rfl hj))) rfl ?_ ?_ ?_); rfl; rfl) | (refine qau ?_; (refine qaa (qaj rfl) rfl ?_ ?_ ?_); rfl; rfl) | (refine qai ?_; (refine qaa (qae rfl) rfl ?_ ?_ ?_); rfl; rfl) | (refine qaO ?_; (refine qaa (qaz rfl rfl) rfl ?_ ?_ ?_); rfl; rfl) | (refine qaP ?_; (refine qaa (OpW.extract rfl rfl) rfl ?_ ?_ ?_); rfl; rfl) | (refine qaT ?_; refine SXl.alloc ?_ ?_ (fun g => ?_); rfl; rfl) | (refine l_box ?_; refine qaV ?_ ?_ rfl rfl (fun g => ?_); rfl; rfl) | (refine qaD ?_; first | ((first | refine qad 0 ?_ rfl rfl rfl rfl rfl rfl rfl ?_ | refine qad 1 ?_ rfl rfl rfl rfl rfl rfl rfl ?_ | refine qad 2 ?_ rfl rfl rfl rfl rfl rfl rfl ?_); rfl; simp only [List.set_cons_zero, List.set_cons_succ]) | ((first | refine qac 0 ?_ rfl rfl rfl rfl rfl rfl rfl ?_ | refine qac 1 ?_ rfl rfl rfl rfl rfl rfl rfl ?_ | refine qac 2 ?_ rfl rfl rfl rfl rfl rfl rfl ?_); rfl; simp only [over, List.set_cons_zero, List.set_cons_succ])) | refine qav ?_ | refine qan ?_)
    refine qaL 0 rfl rfl rfl rfl rfl (fun w' hl => ⟨rfl, hl.mod⟩)
  | none =>
    have e2 : numOf s k = (0, false) := by unfold numOf; rw [hi]
    replace hnum := fun b => hnum b k
    rw [e2] at hnum
    cases hv : idxOf valueTexts k with
    | none =>
      have e1 : vptr k = (11, false) := by unfold vptr; rw [hv]
      have e3 : keyOf s k = (⟨0, 0⟩, false) := by unfold keyOf; rw [hi]; simp only; rw [hv]
      rw [e3]
      replace hval := fun b => hval b k
      rw [e1] at hval
      repeat (first | refine qap ?_ | refine qak ?_ | refine qaf ?_ | refine qab ?_ | refine qaE ?_ | refine qao rfl ?_ | refine qas rfl ?_ | (refine qaA ?_; (first | refine qaa (qal rfl (fun w hl => hnum _ _ (fun j v hj => hl.cell (i := 1) rfl hj))) rfl ?_ ?_ ?_ | refine qaa (qal rfl (fun w hl => hval _ _)) rfl ?_ ?_ ?_); rfl; rfl) | (refine qau ?_; (refine qaa (qaj rfl) rfl ?_ ?_ ?_); rfl; rfl) | (refine qai ?_; (refine qaa (qae rfl) rfl ?_ ?_ ?_); rfl; rfl) | (refine qaO ?_; (refine qaa (qaz rfl rfl) rfl ?_ ?_ ?_); rfl; rfl) | (refine l_not ?_; (refine qaa (OpW.not rfl) rfl ?_ ?_ ?_); rfl; rfl) | (refine qaP ?_; (refine qaa (OpW.extract rfl rfl) rfl ?_ ?_ ?_); rfl; rfl) | (refine qaT ?_; refine SXl.alloc ?_ ?_ (fun g => ?_); rfl; rfl) | (refine l_box ?_; refine qaV ?_ ?_ rfl rfl (fun g => ?_); rfl; rfl) | (refine qaD ?_; first | ((first | refine qad 0 ?_ rfl rfl rfl rfl rfl rfl rfl ?_ | refine qad 1 ?_ rfl rfl rfl rfl rfl rfl rfl ?_ | refine qad 2 ?_ rfl rfl rfl rfl rfl rfl rfl ?_); rfl; simp only [List.set_cons_zero, List.set_cons_succ]) | ((first | refine qac 0 ?_ rfl rfl rfl rfl rfl rfl rfl ?_ | refine qac 1 ?_ rfl rfl rfl rfl rfl rfl rfl ?_ | refine qac 2 ?_ rfl rfl rfl rfl rfl rfl rfl ?_); rfl; simp only [over, List.set_cons_zero, List.set_cons_succ])) | refine qav ?_ | refine qan ?_)
      refine qaL 0 rfl rfl rfl rfl rfl (fun w' hl => ⟨rfl, hl.mod⟩)
    | some i =>
      have hlt : i < 19 := idxOf_lt hv
      obtain ⟨hr, hle⟩ := val_at s hlt
      have e1 : vptr k = (voffs.getD i 0, true) := by unfold vptr; rw [hv]
      have e3 : keyOf s k = ((styleVals s).getD i ⟨0, 0⟩, true) := by unfold keyOf; rw [hi]; simp only; rw [hv]
      rw [e3]
      replace hval := fun b => hval b k
      rw [e1] at hval
      repeat (first | refine qap ?_ | refine qak ?_ | refine qaf ?_ | refine qab ?_ | refine qaE ?_ | refine qas rfl ?_ | (refine qaA ?_; (first | refine qaa (qal rfl (fun w hl => hnum _ _ (fun j v hj => hl.cell (i := 1) rfl hj))) rfl ?_ ?_ ?_ | refine qaa (qal rfl (fun w hl => hval _ _)) rfl ?_ ?_ ?_); rfl; rfl) | (refine qaF ?_; (refine qaa (qaJ (cells := s.cells) 1 rfl rfl (Nat.ble_eq_true_of_le hle) hr) rfl ?_ ?_ ?_); rfl; rfl) | (refine qau ?_; (refine qaa (qaj rfl) rfl ?_ ?_ ?_); rfl; rfl) | (refine qai ?_; (refine qaa (qae rfl) rfl ?_ ?_ ?_); rfl; rfl) | (refine qaW ?_; (refine qaa (qaQ rfl) rfl ?_ ?_ ?_); rfl; rfl) | (refine l_not ?_; (refine qaa (OpW.not rfl) rfl ?_ ?_ ?_); rfl; rfl) | (refine qaP ?_; (refine qaa (OpW.extract rfl rfl) rfl ?_ ?_ ?_); rfl; rfl) | (refine qaT ?_; refine SXl.alloc ?_ ?_ (fun g => ?_); rfl; rfl) | (refine l_box ?_; refine qaV ?_ ?_ rfl rfl (fun g => ?_); rfl; rfl) | (refine qaD ?_; first | ((first | refine qad 0 ?_ rfl rfl rfl rfl rfl rfl rfl ?_ | refine qad 1 ?_ rfl rfl rfl rfl rfl rfl rfl ?_ | refine qad 2 ?_ rfl rfl rfl rfl rfl rfl rfl ?_); rfl; simp only [List.set_cons_zero, List.set_cons_succ]) | ((first | refine qac 0 ?_ rfl rfl rfl rfl rfl rfl rfl ?_ | refine qac 1 ?_ rfl rfl rfl rfl rfl rfl rfl ?_ | refine qac 2 ?_ rfl rfl rfl rfl rfl rfl rfl ?_); rfl; simp only [over, List.set_cons_zero, List.set_cons_succ])) | refine qav ?_)
      refine qaL 0 rfl rfl rfl rfl rfl (fun w' hl => ⟨rfl, hl.mod⟩)

end Go.Proofs.YtkkjjhooamlljaaGreatDoor
namespace Go.Proofs.YtkkjjhooamlljaaGreatDoor
open Go.RowKit

def inB (n a b : Int) : Bool := decide (a ≤ n ∧ n ≤ b)
theorem inB_true {n a b : Int} (h1 : a ≤ n) (h2 : n ≤ b) : inB n a b = true := by simp [inB, h1, h2]
theorem inB_low {n a b : Int} (h : n < a) : inB n a b = false := by simp [inB]; omega
theorem inB_high {n a b : Int} (h : b < n) : inB n a b = false := by simp [inB]; omega

theorem in_any (n a b : Int) (w : World) : Calls Tryz.prog 39 #[.int .i64 n, .int .i64 a, .int .i64 b] w fun e w' => e = .returned (.bool (inB n a b)) ∧ w = w' := by
  by_cases h1 : a ≤ n
  · by_cases h2 : n ≤ b
    · rw [inB_true h1 h2]
      go_enter Tryz.func39, Tryz.ntmps39
      go_wp2
      go_ret
      exact ⟨rfl, rfl⟩
    · rw [inB_high (by omega)]
      go_enter Tryz.func39, Tryz.ntmps39
      go_wp2
      go_ret
      exact ⟨rfl, rfl⟩
  · rw [inB_low (by omega)]
    go_enter Tryz.func39, Tryz.ntmps39
    go_wp2
    go_ret
    exact ⟨rfl, rfl⟩

theorem l01In_any (n a b : Int) (w : World) : Calls Tryz.prog 90 #[.int .i64 n, .int .i64 a, .int .i64 b] w fun e w' => e = .returned (.bool (inB n a b)) ∧ w = w' := by
  by_cases h1 : a ≤ n
  · by_cases h2 : n ≤ b
    · rw [inB_true h1 h2]
      go_enter Tryz.func90, Tryz.ntmps90
      go_wp2
      go_ret
      exact ⟨rfl, rfl⟩
    · rw [inB_high (by omega)]
      go_enter Tryz.func90, Tryz.ntmps90
      go_wp2
      go_ret
      exact ⟨rfl, rfl⟩
  · rw [inB_low (by omega)]
    go_enter Tryz.func90, Tryz.ntmps90
    go_wp2
    go_ret
    exact ⟨rfl, rfl⟩

end Go.Proofs.YtkkjjhooamlljaaGreatDoor
namespace Go.Proofs.YtkkjjhooamlljaaGreatDoor
open Go.RowKit

/-- The sign of a digit. -/
def digit (d : Nat) : UInt8 := UInt8.ofNat (48 + d)
/-- What is left to write of n, and what is written. -/
def DigInv (n m : Int) (l : List UInt8) : Prop := Lib.decDigits n.natAbs = (if m = 0 then l else Lib.decDigits m.natAbs ++ l)
theorem DigInv.start (n : Int) (h : n ≠ 0) : DigInv n n [] := by unfold DigInv; rw [if_neg h]; simp
theorem digInv_step {n m q : Int} {l : List UInt8} {d : Nat} (h : DigInv n m l) (hm : m ≠ 0) (hq : q.natAbs = m.natAbs / 10) (hd : d = m.natAbs % 10) : DigInv n q (digit d :: l) := by
  unfold DigInv digit at *
  rw [if_neg hm] at h
  rw [h, Lib.decDigits]
  subst hd
  by_cases h10 : m.natAbs < 10
  · rw [dif_pos h10, if_pos (by omega), Nat.mod_eq_of_lt h10]
    rfl
  · rw [dif_neg h10, if_neg (by omega), hq]
    simp
theorem DigInv.done {n : Int} {l : List UInt8} (h : DigInv n 0 l) : Lib.decDigits n.natAbs = l := by unfold DigInv at h; simpa using h

theorem DigInv.short {n m : Int} {l : List UInt8} (h : DigInv n m l) (h0 : -9223372036854775808 ≤ n) (h1 : n ≤ 9223372036854775807) : l.length ≤ 20 := by
  have h2 := congrArg List.length h
  rw [Lib.decDigits_length] at h2
  have h3 := Lib.nDigits_le20 n.natAbs (by omega)
  split at h2
  · omega
  · rw [List.length_append] at h2; omega
theorem conv_digit (d : Nat) (hd : d < 10) (W : World) : (convert 34 9 (.slice (some ⟨W.heap.size, 0, none⟩) 1 1)).run Tryz.prog (W.alloc (.cells #[.int .u8 (48 + (d : Int))] 5)) = .ok (.string ⟨#[digit d]⟩) (W.alloc (.cells #[.int .u8 (48 + (d : Int))] 5)) := by
  have e : (digit d).toNat = 48 + d := by unfold digit; simp; omega
  have := run_convert_bytes_back (P := Tryz.prog) (W.alloc (.cells #[.int .u8 (48 + (d : Int))] 5)) 34 9 5 ⟨W.heap.size, 0, none⟩ 1 [digit d] Tryz.underlying34 Tryz.underlying5 Tryz.underlying9 (by
    intro j hj
    obtain rfl : j = 0 := by simpa using hj
    simp [go_sem, Addr.add, e])
  simpa using this

theorem itoa_pos {n : Int} (h : 0 ≤ n) : Lib.itoa n = Lib.decDigits n.natAbs := by
  unfold Lib.itoa
  rw [if_neg (by omega), show n.toNat = n.natAbs by omega]
theorem itoa_neg' {n : Int} (h : n < 0) : Lib.itoa n = 45 :: Lib.decDigits n.natAbs := by
  unfold Lib.itoa
  rw [if_pos h]
theorem ret_string {a b : List UInt8} (h : a = b) : Ending.returned (.string ⟨a.toArray⟩) = .returned (.string ⟨b.toArray⟩) := by rw [h]
theorem cat_one (c : UInt8) (l : List UInt8) : ((⟨#[c]⟩ : ByteArray) ++ ⟨l.toArray⟩) = ⟨(c :: l).toArray⟩ := by
  apply ByteArray.ext
  simp [ByteArray.data_append]

set_option maxRecDepth 100000 in
set_option maxHeartbeats 2000000 in
theorem sdecimal_any (n : Int) (h0 : -9223372036854775808 ≤ n) (h1 : n ≤ 9223372036854775807) (w : World) :
    Calls Tryz.prog 62 #[.int .i64 n] w fun e w' => e = .returned (.string ⟨(Lib.itoa n).toArray⟩) ∧ Mod (fun _ => False) w w' := by
  by_cases hz : n = 0
  · subst hz
    have e0 : Lib.itoa 0 = [48] := by rw [itoa_pos (by omega)]; rw [Lib.decDigits]; rfl
    rw [e0]
    go_enter Tryz.func62, Tryz.ntmps62
    go_wp2
    go_ret
    exact ⟨rfl, Mod.refl _ _⟩
  · have hz' : (n == 0) = false := by simpa using hz
    have hst := DigInv.start n hz
    by_cases hneg : n < 0
    · skip
      go_enter Tryz.func62, Tryz.ntmps62
      go_wp2
      go_loopw [0, 4] (fun v s wr => ∃ (k : Nat) (l : List UInt8), k ≤ 9223372036854775808 ∧ v = .int .i64 (-(k : Int)) ∧ s = .string ⟨l.toArray⟩ ∧ DigInv n (-(k : Int)) l ∧ Mod (fun _ => False) w wr) (fun v _ _ => (intOf v).natAbs)
      case atStart => exact ⟨n.natAbs, [], by omega, by rw [show -(n.natAbs : Int) = n by omega], rfl, by rw [show -(n.natAbs : Int) = n by omega]; exact hst, Mod.refl _ _⟩
      case round =>
        obtain ⟨k, l, hk0, rfl, rfl, hI, hM⟩ := hrel
        clear hst hz hz'
        have hl20 := hI.short h0 h1
        clear h0 h1
        by_cases hm : k = 0
        · subst hm
          have hres := hid hI.done
          clear hI
          have hcat := cat_one 45 l
          go_wp2
          go_ret
          exact ⟨by rw [itoa_neg' hneg, hres.out]; rfl, hM⟩
        · have hk1 : 1 ≤ k := by omega
          obtain ⟨d, hd⟩ : ∃ d, d = k % 10 := ⟨_, rfl⟩
          obtain ⟨q, hq⟩ : ∃ q, q = k / 10 := ⟨_, rfl⟩
          have hd10 : d < 10 := by omega
          have hq' : q ≤ 922337203685477580 := by omega
          have hqk : q < k := by omega
          have hstep := hid (digInv_step (q := -(q : Int)) hI (by omega) (by omega) (show d = (-(k : Int)).natAbs % 10 by omega))
          have e1 : (-(k : Int)).tmod 10 = -(d : Int) := by rw [Int.neg_tmod, Int.tmod_eq_emod_of_nonneg (by omega), hd]; omega
          have e2 : (-(k : Int)).tdiv 10 = -(q : Int) := by rw [Int.neg_tdiv, Int.tdiv_eq_ediv_of_nonneg (by omega), hq]; omega
          have hc := conv_digit d hd10
          have hcat := cat_one (digit d) l
          clear hI
          have hn1 : decide (-(k : Int) = 0) = false := by simp; omega
          clear hd hq
          by_cases hd0 : d = 0
          · subst hd0
            have hc : ∀ W : World, (convert 34 9 (.slice (some ⟨W.heap.size, 0, none⟩) 1 1)).run Tryz.prog (W.alloc (.cells #[.int .u8 48] 5)) = .ok (.string ⟨#[digit 0]⟩) (W.alloc (.cells #[.int .u8 48] 5)) := fun W => conv_digit 0 (by omega) W
            go_wp2
            go_roundw
            case rel => exact ⟨q, digit 0 :: l, by omega, rfl, rfl, hstep.out, hM.alloc _⟩
            case measure => simp [intOf]; omega
          · have hd1 : 1 ≤ d := by omega
            go_wp2
            go_roundw
            case rel => exact ⟨q, digit d :: l, by omega, rfl, rfl, hstep.out, hM.alloc _⟩
            case measure => simp [intOf]; omega
    · skip
      go_enter Tryz.func62, Tryz.ntmps62
      go_wp2
      go_loopw [0, 4] (fun v s wr => ∃ (k : Nat) (l : List UInt8), k ≤ 9223372036854775807 ∧ v = .int .i64 (k : Int) ∧ s = .string ⟨l.toArray⟩ ∧ DigInv n (k : Int) l ∧ Mod (fun _ => False) w wr) (fun v _ _ => (intOf v).natAbs)
      case atStart => exact ⟨n.natAbs, [], by omega, by rw [show (n.natAbs : Int) = n by omega], rfl, by rw [show (n.natAbs : Int) = n by omega]; exact hst, Mod.refl _ _⟩
      case round =>
        obtain ⟨k, l, hk0, rfl, rfl, hI, hM⟩ := hrel
        clear hst hz hz'
        have hl20 := hI.short h0 h1
        clear h0 h1
        by_cases hm : k = 0
        · subst hm
          have hres := hid hI.done
          clear hI
          have hcat := cat_one 45 l
          go_wp2
          go_ret
          exact ⟨by rw [itoa_pos (by omega), hres.out]; rfl, hM⟩
        · have hk1 : 1 ≤ k := by omega
          obtain ⟨d, hd⟩ : ∃ d, d = k % 10 := ⟨_, rfl⟩
          obtain ⟨q, hq⟩ : ∃ q, q = k / 10 := ⟨_, rfl⟩
          have hd10 : d < 10 := by omega
          have hq' : q ≤ 922337203685477580 := by omega
          have hqk : q < k := by omega
          have hstep := hid (digInv_step (q := (q : Int)) hI (by omega) (by omega) (show d = ((k : Int)).natAbs % 10 by omega))
          have e1 : ((k : Int)).tmod 10 = (d : Int) := by rw [Int.tmod_eq_emod_of_nonneg (by omega), hd]; omega
          have e2 : ((k : Int)).tdiv 10 = (q : Int) := by rw [Int.tdiv_eq_ediv_of_nonneg (by omega), hq]; omega
          have hc := conv_digit d hd10
          have hcat := cat_one (digit d) l
          clear hI
          have e3 : (k : Int) % 10 = d := by omega
          have e4 : (k : Int) / 10 = q := by omega
          clear hd hq
          go_wp2
          go_roundw
          case rel => exact ⟨q, digit d :: l, by omega, rfl, rfl, hstep.out, hM.alloc _⟩
          case measure => simp [intOf]; omega

end Go.Proofs.YtkkjjhooamlljaaGreatDoor
namespace Go.Proofs.YtkkjjhooamlljaaGreatDoor
open Go.RowKit

def icell (x : Int) : List Value := [.int .i64 x]
abbrev IntSlice (R : Nat → Prop) (w : World) (a : Option Addr) (l : List Int) : Prop := SliceAt (Flat icell) 1 R w a l

theorem IntSlice.get {R : Nat → Prop} {w : World} {a : Option Addr} {l : List Int} (h : IntSlice R w a l) {k : Nat} (hk : k < l.length) :
    ∃ b o x, a = some ⟨b, o, none⟩ ∧ R b ∧ b < w.heap.size ∧ Hid (l[k]? = some x) ∧ w.cell? ⟨b, o + k, none⟩ = some (.int .i64 x) := by
  obtain ⟨b, o, x, r, rfl, hR, hb, hx, hr, _, hc⟩ := SliceAt.get h hk
  obtain rfl : r = icell x := hr
  have := hc 0 _ rfl
  rw [Nat.mul_one, Nat.add_zero] at this
  exact ⟨b, o, x, rfl, hR, hb, hx, this⟩
theorem IntSlice.at {R : Nat → Prop} {w : World} {a : Option Addr} {l : List Int} (h : IntSlice R w a l) : IntsAt w a l := by
  by_cases hl : l = []
  · exact .inl hl
  · obtain ⟨b, o, x, rfl, _⟩ := h.get (List.length_pos_iff.2 hl)
    refine .inr ⟨b, o, rfl, fun i hi => ?_⟩
    obtain ⟨b', o', y, e, _, _, hy, hc⟩ := h.get hi
    simp only [Option.some.injEq, Addr.mk.injEq, and_true] at e
    obtain ⟨rfl, rfl⟩ := e
    rw [hc]
    have := hy.out
    simp [List.getD, this]
end Go.Proofs.YtkkjjhooamlljaaGreatDoor
namespace Go.Proofs.YtkkjjhooamlljaaGreatDoor
open Go.RowKit

/-- The library's table of powers lies as its text lays it. -/
def Tab (w : World) : Prop := Lib.TabIs Tryz.prog w "internal/strconv.uint64pow10" .u64 Lib.pow10Tab
theorem var_keep {P : Program} {w w' : World} {n : String} {cs : Array Value} (hm : Mod (fun _ => False) w w') (h : w.var? P n = some cs) : w'.var? P n = some cs := by
  unfold World.var? at h ⊢
  cases hg : P.globalNamed n with
  | none => rw [hg] at h; simp at h
  | some g =>
    rw [hg] at h
    simp only [Option.bind_some] at h ⊢
    have hlt : g < w.heap.size := by
      rcases Nat.lt_or_ge g w.heap.size with h' | h'
      · exact h'
      · rw [Array.getElem?_eq_none h'] at h; cases h
    rw [hm.block g hlt (fun f => f)]
    exact h
theorem Tab.keep {w w' : World} (h : Tab w) (hm : Mod (fun _ => False) w w') : Tab w' := var_keep hm h
theorem grow_keep (w : World) (os : Array Obj) : Mod (fun _ => False) w (Sort.grow w os) :=
  ⟨rfl, rfl, rfl, by simp [Sort.grow], fun k hk _ => by simp [Sort.grow, Array.getElem?_append, hk]⟩
theorem below_kept {w w' : World} (h : Below w.heap.size w w') : Mod (fun _ => False) w w' := ⟨h.os, h.tape, h.output, h.size, fun k hk _ => h.block k hk⟩

theorem decimal_any (n : Int) (hb : I64 n) (w : World) (ht : Tab w) : Calls Tryz.prog 40 #[.int .i64 n] w fun e w' => e = .returned (.string ⟨(Lib.itoa n).toArray⟩) ∧ Mod (fun _ => False) w w' := by
  have k := Tryz.strconv_Itoa n hb.1 hb.2 w ht
  clear hb ht
  go_enter Tryz.func40, Tryz.ntmps40
  go_wp2_with fail
  refine k.mono ?_
  rintro e w' ⟨rfl, n, os, rfl⟩
  have hm : Mod (fun _ => False) w (Sort.grow (w.drewN n) os) := ((Mod.refl _ w).drewN n).trans (grow_keep _ _)
  generalize Sort.grow (w.drewN n) os = w1 at hm
  go_wp2
  go_ret
  exact ⟨rfl, hm⟩

theorem bytes_back (l : List (List UInt8)) : (l.map fun x => (⟨x.toArray⟩ : ByteArray)).map (·.data.toList) = l := by
  induction l with
  | nil => rfl
  | cons y l ih => rw [List.map_cons, List.map_cons, ih]
/-- What the program's Join gives of texts that the call itself has laid. -/
theorem join_own {w : World} {base n c : Nat} {a : Option Addr} {l : List (List UInt8)} (sep : List UInt8) (h : w.ownsRow base 9 1 (.slice a n c) n (l.map tcell).flatten) (hn : n = l.length) (hl : l.length ≤ 1048576) (hj : (Lib.join l sep).length ≤ 140737488355328) :
    Calls Tryz.prog 30 #[.slice a n c, .string ⟨sep.toArray⟩] w fun e w' => e = .returned (.string ⟨(Lib.join l sep).toArray⟩) ∧ Mod (fun _ => False) w w' := by
  subst hn
  rcases own_parts h with h0 | ⟨b, rfl, h1, h2, h3, _⟩
  · have hl0 : l = [] := List.length_eq_zero_iff.1 h0
    subst hl0
    exact (Tryz.strings_Join_none a c ⟨sep.toArray⟩ w).mono fun e w' ⟨he, hw⟩ => by subst hw; exact ⟨he, Mod.refl _ _⟩
  · have hc : l.length ≤ c := by
      rcases h.2 with ⟨_, h4⟩ | ⟨g, cap, cur, hv, _, _, hnc, _⟩
      · omega
      · injection hv with _ _ e
        omega
    have e := bytes_back l
    have hcells : ∀ (j : Nat) x, (l.map fun x => (⟨x.toArray⟩ : ByteArray))[j]? = some x → w.cell? ⟨b, 0 + j, none⟩ = some (.string x) := by
      intro j x hj
      rw [List.getElem?_map] at hj
      cases hy : l[j]? with
      | none => rw [hy] at hj; simp at hj
      | some y =>
        rw [hy] at hj
        simp only [Option.map_some, Option.some.injEq] at hj
        subst hj
        rw [Nat.zero_add]
        refine h3 j _ ?_
        have hmem : (l.map tcell)[j]? = some (tcell y) := by rw [List.getElem?_map, hy]; rfl
        have := flatten_at (rows := l.map tcell) (sz := 1) (by intro r hr; obtain ⟨z, _, rfl⟩ := List.mem_map.1 hr; rfl) hmem (j := 0) rfl
        simpa using this
    have k := Tryz.strings_Join b 0 c (l.map fun x => (⟨x.toArray⟩ : ByteArray)) ⟨sep.toArray⟩ w hcells h2 (by simp; omega) (by simpa using hc) (by rw [e]; exact hj)
    rw [e] at k
    rw [List.length_map] at k
    exact k.mono fun e w' ⟨he, hb⟩ => ⟨he, below_kept hb⟩


end Go.Proofs.YtkkjjhooamlljaaGreatDoor
namespace Go.Proofs.YtkkjjhooamlljaaGreatDoor
open Go.RowKit

/-- The library's MaxLen holds a number. -/
def Num0 (w : World) : Prop := ∃ m, w.cell? ⟨0, 0, none⟩ = some (.int .i64 m)
theorem Num0.keep {w w' : World} (h : Num0 w) (hm : Mod (fun _ => False) w w') : Num0 w' := by
  obtain ⟨m, h⟩ := h
  exact ⟨m, hm.keep _ _ h⟩

theorem num0 {w : World} (h : w.ShapedOpen Tryz.prog) : Num0 w := Tryz.laysM146.s1_3 w h
/-- What a call gives that makes texts. -/
def NewTexts (w : World) (l : List (List UInt8)) (e : Ending) (w' : World) : Prop :=
  ∃ (a : Option Addr) (c : Nat), e = .returned (.slice a l.length c) ∧ w'.ownsRow w.heap.size 9 1 (.slice a l.length c) l.length (l.map tcell).flatten ∧ Mod (fun _ => False) w w'
theorem new_texts {w : World} {cs : List Value} {l : List (List UInt8)} {n : Nat} (h : cs = (l.map tcell).flatten) (hn : n = l.length) (hb : l.length ≤ 1000) : NewTexts w l (.returned (.slice (some ⟨w.heap.size, 0, none⟩) n n)) (w.alloc (.cells cs.toArray 9)) := by
  subst h hn
  have hfl := flat_length (cells := tcell) (sz := 1) (fun _ => rfl) l
  refine ⟨_, _, rfl, ⟨by rw [hfl], .inr ⟨w.heap.size, l.length, _, rfl, Nat.le_refl _, heap_alloc_new w _, Nat.le_refl _, by unfold maxLen; omega, by rw [List.size_toArray, hfl], ?_⟩⟩, (Mod.refl _ w).alloc _⟩
  exact List.take_of_length_le (by show (l.map tcell).flatten.length ≤ _; omega)
theorem NewTexts.text {w w' : World} {l : List (List UInt8)} {e : Ending} (h : NewTexts w l e w') : NewSlice 9 1 w l.length (l.map tcell).flatten e w' := by
  obtain ⟨a, c, h1, h2, h3⟩ := h
  exact ⟨a, c, h1, h2, h3⟩

set_option maxRecDepth 100000 in
theorem intKeys_any (w : World) (hz : Num0 w) : Calls Tryz.prog 82 #[] w (NewTexts w intTexts) := by
  obtain ⟨m, hm⟩ := hz
  go_enter Tryz.func82, Tryz.ntmps82
  go_wp2_with fail
  refine (Tryz.strings_Split _ _ m _ (by decide +kernel) hm (by decide +kernel)).mono ?_
  rintro e w' ⟨he, hw⟩
  have e1 : e = .returned (.slice (some ⟨w.heap.size, 0, none⟩) 22 22) := he.trans (by kernel_rfl)
  have e2 : w' = w.alloc (.cells (intTexts.map tcell).flatten.toArray 9) := hw.trans (congrArg (fun l : List Value => w.alloc (.cells l.toArray 9)) (by kernel_rfl))
  clear he hw
  subst e1 e2
  go_wp2
  go_ret
  exact new_texts rfl rfl (by decide)

set_option maxRecDepth 100000 in
theorem valueKeys_any (w : World) (hz : Num0 w) : Calls Tryz.prog 83 #[] w (NewTexts w valueTexts) := by
  obtain ⟨m, hm⟩ := hz
  go_enter Tryz.func83, Tryz.ntmps83
  go_wp2_with fail
  refine (Tryz.strings_Split _ _ m _ (by decide +kernel) hm (by decide +kernel)).mono ?_
  rintro e w' ⟨he, hw⟩
  have e1 : e = .returned (.slice (some ⟨w.heap.size, 0, none⟩) 19 19) := he.trans (by kernel_rfl)
  have e2 : w' = w.alloc (.cells (valueTexts.map tcell).flatten.toArray 9) := hw.trans (congrArg (fun l : List Value => w.alloc (.cells l.toArray 9)) (by kernel_rfl))
  clear he hw
  subst e1 e2
  go_wp2
  go_ret
  exact new_texts rfl rfl (by decide)

set_option maxRecDepth 100000 in
theorem sl26Ints_any (w : World) : Calls Tryz.prog 130 #[] w (NewTexts w intTexts) := by
  go_enter Tryz.func130, Tryz.ntmps130
  go_wp2
  go_ret
  exact new_texts rfl rfl (by decide)

set_option maxRecDepth 100000 in
theorem sl26Values_any (w : World) : Calls Tryz.prog 131 #[] w (NewTexts w valueTexts) := by
  go_enter Tryz.func131, Tryz.ntmps131
  go_wp2
  go_ret
  exact new_texts rfl rfl (by decide)

set_option maxRecDepth 100000 in
theorem keyNames_any (w : World) (hz : Num0 w) : Calls Tryz.prog 42 #[] w (NewTexts w keyTexts) := by
  obtain ⟨i0, hi, hz0, hz1, hz2⟩ := info_parts info_string
  have Hi := hid hi
  have Hz0 := hid hz0
  have Hz1 := hid hz1
  have Hz2 := hid hz2
  clear hi hz0 hz1 hz2
  go_enter Tryz.func42, Tryz.ntmps42
  go_wp2_with fail
  refine (intKeys_any _ hz).mono ?_
  rintro e w1 ⟨a1, c1, rfl, hO1, hm1⟩
  go_wp2_with fail
  refine (valueKeys_any _ (hz.keep hm1)).mono ?_
  rintro e w2 ⟨a2, c2, rfl, hO2, hm2⟩
  have hO3 := own_mod hO1 hm2 (fun _ _ f => f)
  have hS := own_slice (cells := tcell) hO2 (fun _ => rfl) (by decide)
  have hM := hm1.thenNone hm2
  have hroom : w.heap.size ≤ w2.heap.size := hM.size
  have hl : intTexts.length + valueTexts.length ≤ 1000 := by decide
  have HS := hid hS
  clear hS hO2
  go_wp2_with (first | (at_builtin; refine wpList_append_slice (cells := tcell) (B := w.heap.size) rfl _ _ ⟨Tryz.underlying44, Hi.out, Hz0.out, Hz1.out, Hz2.out, by decide⟩ rfl (fun _ => rfl) (fun x u hu => by simp [tcell] at hu; subst hu; rfl) rfl rfl hO3 hroom rfl rfl HS.out (by unfold maxLen; omega) (by omega) ?_))
  intro a3 c3 w3 hO hg
  have hM3 := hM.appendedAt hO3 (Nat.le_refl _) hg
  have e : keyTexts.length = intTexts.length + valueTexts.length := rfl
  go_wp2
  go_ret
  refine ⟨a3, c3, rfl, ?_, hM3⟩
  rw [e]
  unfold keyTexts
  rw [List.map_append, List.flatten_append]
  exact hO

set_option maxRecDepth 100000 in
theorem skeyNames_any (w : World) : Calls Tryz.prog 116 #[] w (NewTexts w keyTexts) := by
  obtain ⟨i0, hi, hz0, hz1, hz2⟩ := info_parts info_string
  have Hi := hid hi
  have Hz0 := hid hz0
  have Hz1 := hid hz1
  have Hz2 := hid hz2
  clear hi hz0 hz1 hz2
  go_enter Tryz.func116, Tryz.ntmps116
  go_wp2_with fail
  refine (sl26Ints_any _).mono ?_
  rintro e w1 ⟨a1, c1, rfl, hO1, hm1⟩
  go_wp2_with fail
  refine (sl26Values_any _).mono ?_
  rintro e w2 ⟨a2, c2, rfl, hO2, hm2⟩
  have hO3 := own_mod hO1 hm2 (fun _ _ f => f)
  have hS := own_slice (cells := tcell) hO2 (fun _ => rfl) (by decide)
  have hM := hm1.thenNone hm2
  have hroom : w.heap.size ≤ w2.heap.size := hM.size
  have hl : intTexts.length + valueTexts.length ≤ 1000 := by decide
  have HS := hid hS
  clear hS hO2
  go_wp2_with (first | (at_builtin; refine wpList_append_slice (cells := tcell) (B := w.heap.size) rfl _ _ ⟨Tryz.underlying44, Hi.out, Hz0.out, Hz1.out, Hz2.out, by decide⟩ rfl (fun _ => rfl) (fun x u hu => by simp [tcell] at hu; subst hu; rfl) rfl rfl hO3 hroom rfl rfl HS.out (by unfold maxLen; omega) (by omega) ?_))
  intro a3 c3 w3 hO hg
  have hM3 := hM.appendedAt hO3 (Nat.le_refl _) hg
  have e : keyTexts.length = intTexts.length + valueTexts.length := rfl
  go_wp2
  go_ret
  refine ⟨a3, c3, rfl, ?_, hM3⟩
  rw [e]
  unfold keyTexts
  rw [List.map_append, List.flatten_append]
  exact hO

end Go.Proofs.YtkkjjhooamlljaaGreatDoor
namespace Go.Proofs.YtkkjjhooamlljaaGreatDoor
open Go.RowKit

/-- The keys' texts, where a call has laid them. -/
structure IntKept (q : SlP) (w : World) : Prop where
  h : (ownRes tcell 9 1 intTexts q).says w
structure ValKept (q : SlP) (w : World) : Prop where
  h : (ownRes tcell 9 1 valueTexts q).says w
end Go.Proofs.YtkkjjhooamlljaaGreatDoor
namespace Go.Proofs.YtkkjjhooamlljaaGreatDoor
open Go.RowKit
set_option linter.unusedVariables false
set_option linter.unusedSimpArgs false

/-- The keys' texts in block g. -/
structure KeysKept (g : Nat) (w : World) : Prop where
  h : ∀ j x, keyTexts[j]? = some x → w.cell? ⟨g, j, none⟩ = some (.string ⟨x.toArray⟩)
def keysRes (p : Nat × Nat) : Res where
  foot := fun k => k = p.1
  says := KeysKept p.1
  stable := fun S w w' h hm hs => ⟨fun j x hj => by
    have := h.h j x hj
    rw [hm.cell (World.block_lt_of_cell? w _ this) (hs p.1 rfl)]
    exact this⟩
theorem keys_of {w w' : World} {e : Ending} (h : NewTexts w keyTexts e w') : NewR (Nat × Nat) (fun p => .slice (some ⟨p.1, 0, none⟩) 41 p.2) keysRes w e w' := by
  obtain ⟨a, c, he, ho, hm⟩ := h
  rcases own_parts ho with h0 | ⟨b, rfl, h1, h2, h3, _⟩
  · cases h0
  · refine ⟨(b, c), he, ⟨⟨fun j x hj => ?_⟩, fun k hk => by subst hk; exact ⟨h1, h2⟩⟩, hm⟩
    refine h3 j _ ?_
    have hmem : (keyTexts.map tcell)[j]? = some (tcell x) := by rw [List.getElem?_map, hj]; rfl
    have := flatten_at (rows := keyTexts.map tcell) (sz := 1) (by intro r hr; obtain ⟨z, _, rfl⟩ := List.mem_map.1 hr; rfl) hmem (j := 0) rfl
    simpa using this
theorem skeyNames_new (w : World) : Calls Tryz.prog 116 #[] w (NewR (Nat × Nat) (fun p => .slice (some ⟨p.1, 0, none⟩) 41 p.2) keysRes w) := (skeyNames_any w).mono fun _ _ h => keys_of h

end Go.Proofs.YtkkjjhooamlljaaGreatDoor
namespace Go.Proofs.YtkkjjhooamlljaaGreatDoor
open Go.RowKit

/-- Only block g may turn, from the cells c to the cells c'. -/
def TP (g T : Nat) (c c' : List Value) (w w' : World) : Prop := Mod (fun k => k = g ∧ w.heap[k]? = some (.cells c.toArray T (0, 0)) ∧ w'.heap[k]? = some (.cells c'.toArray T (0, 0))) w w'
structure Near (W : World) (R : Rg W) (L : List Blk) (O : List Own) (E : List Res) (g : Nat) : Prop where
  new : R.q g ∨ W.heap.size ≤ g
  blk : ∀ b ∈ L, b.g ≠ g
  own : ∀ o ∈ O, o.v.ownBlock ≠ some g
  res : ∀ F ∈ E, ¬ F.foot g
/-- Block g holds c', told of operation ks. -/
def PV (g T : Nat) (c' : List Value) (_ : Nat → Value) (w : World) (_ : Value) : Prop := w.heap[g]? = some (.cells c'.toArray T (0, 0))
section
variable {P : Program} {n : Nat} {W : World} {R : Rg W} {L : List Blk} {O : List Own} {E : List Res} {w w' : World} {g T : Nat} {c c' : List Value}
theorem PV.keep {x : Nat → Value} {v : Value} (h : PV g T c' x w v) (hm : TP g T c c' w w') : PV g T c' x w' v := by
  unfold PV at *
  by_cases hs : g = g ∧ w.heap[g]? = some (.cells c.toArray T (0, 0)) ∧ w'.heap[g]? = some (.cells c'.toArray T (0, 0))
  · exact hs.2.2
  · rw [hm.block _ (Array.getElem?_eq_some_iff.1 h).1 hs]
    exact h
theorem Loc.erase {i : Nat} (h : Loc W R L O E w) : Loc W R (L.eraseIdx i) O E w where
  mod := h.mod
  inv := h.inv
  blk := fun b hb => h.blk b (List.mem_of_mem_eraseIdx hb)
  apart := h.apart.sublist (List.eraseIdx_sublist ..)
  own := fun o ho => ⟨(h.own o ho).1, fun b hb => (h.own o ho).2 b (List.mem_of_mem_eraseIdx hb)⟩
  ownApart := h.ownApart
  res := fun F hF => ⟨(h.res F hF).1, (h.res F hF).2.1, fun b hb => (h.res F hF).2.2.1 b (List.mem_of_mem_eraseIdx hb), (h.res F hF).2.2.2⟩
  resNew := h.resNew
  resApart := h.resApart
theorem Loc.near {i : Nat} (h : Loc W R L O E w) (hi : L[i]? = some ⟨g, c, T⟩) : Near W R (L.eraseIdx i) O E g := by
  have hm : (⟨g, c, T⟩ : Blk) ∈ L := List.mem_iff_getElem?.2 ⟨i, hi⟩
  refine ⟨(h.blk _ hm).1, fun b hb => ?_, fun o ho => (h.own o ho).2 _ hm, fun F hF => (h.res F hF).2.2.1 _ hm⟩
  obtain ⟨j, hj, hb⟩ := List.mem_eraseIdx_iff_getElem?.1 hb
  exact fun e => (pairwise_ne_of (fun _ _ h e => h e.symm) h.apart hb hi hj) e
theorem Loc.keepP (hf : Near W R L O E g) (h : Loc W R L O E w) {S : Nat → Prop} (hS : ∀ k, S k → k = g) (hm : Mod S w w') : Loc W R L O E w' :=
  h.frame hm (fun k hk hs => by have := hS k hs; subst this; rcases hf.new with h1 | h1; exact h1; omega) (fun b hb hs => hf.blk b hb (hS _ hs)) (fun o ho k hk hs => by have := hS k hs; subst this; exact hf.own o ho hk) (fun F hF k hk hs => by have := hS k hs; subst this; exact hf.res F hF hk)
theorem Loc.addP (hf : Near W R L O E g) (h : Loc W R L O E w) (hb : w.heap[g]? = some (.cells c'.toArray T (0, 0))) : Loc W R (⟨g, c', T⟩ :: L) O E w where
  mod := h.mod
  inv := h.inv
  blk := fun b hbm => by
    rcases List.mem_cons.1 hbm with rfl | hbm
    · exact ⟨hf.new, hb⟩
    · exact h.blk b hbm
  apart := List.pairwise_cons.2 ⟨fun b hbm e => hf.blk b hbm e.symm, h.apart⟩
  own := fun o ho => ⟨(h.own o ho).1, fun b hbm e => by
    rcases List.mem_cons.1 hbm with rfl | hbm
    · exact hf.own o ho e
    · exact (h.own o ho).2 b hbm e⟩
  ownApart := h.ownApart
  res := fun F hF => ⟨(h.res F hF).1, (h.res F hF).2.1, fun b hbm f => by
    rcases List.mem_cons.1 hbm with rfl | hbm
    · exact hf.res F hF f
    · exact (h.res F hF).2.2.1 b hbm f, (h.res F hF).2.2.2⟩
  resNew := h.resNew
  resApart := h.resApart
/-- Block g holds c or c'. -/
def Either (g T : Nat) (c c' : List Value) (w : World) : Prop := w.heap[g]? = some (.cells c.toArray T (0, 0)) ∨ w.heap[g]? = some (.cells c'.toArray T (0, 0))
theorem Either.keep (h : Either g T c c' w) (hm : Mod (fun _ => False) w w') : Either g T c c' w' := by
  rcases h with h | h
  · exact .inl (hm.blk h (fun f => f))
  · exact .inr (hm.blk h (fun f => f))
structure SXp (P : Program) (n : Nat) (W : World) (R : Rg W) (ops : Array Oper) (L : List Blk) (O : List Own) (E : List Res) (g T : Nat) (c c' : List Value) (k : Nat) (U : List (Nat × ((Nat → Value) → World → Value → Prop))) (f : List (Nat × Value)) (l : List Oper) (Q : Exit → Act → World → Prop) : Prop where
  run : ∀ F : Act, Fr n f F → RS P ops (TP g T c c') (fun w => Loc W R L O E w ∧ Either g T c c' w) Q k l (fun _ => F) U
end
section
variable {P : Program} {n : Nat} {W : World} {R : Rg W} {L L' : List Blk} {O : List Own} {E : List Res} {U : List (Nat × ((Nat → Value) → World → Value → Prop))} {f : List (Nat × Value)} {Q : Exit → Act → World → Prop} {ops : Array Oper} {rest : List Oper} {k g T : Nat} {c c' : List Value}
theorem SX.drawnPT {id : Nat} {l : List Oper} (m i : Nat) (c' : List Value) (hi : L[i]? = some ⟨g, c, T⟩) (hL : L.eraseIdx i = L') (hm : P.follows .mixedOrders = true) (hc : regOkTo m l.toArray = true) (ht : tailOk l.toArray m = true) (h : Near W R L' O E g → SXp P n W R l.toArray L' O E g T c c' 0 [] f (l.take m) (fun _ a w => wpList P l.toArray Q (l.drop m) a w)) : SX P n W R L O E f (.region id l.toArray true) Q := ⟨fun a w hf hl => by
  subst hL
  exact wp_region_rs_tail m (fun w' => Loc W R (L.eraseIdx i) O E w' ∧ Either g T c c' w') (TP g T c c') hm hc ht ⟨(hl.erase).keep ((Mod.refl _ w).drew), .inl ((hl.keep ((Mod.refl _ w).drew)).blk _ (List.mem_iff_getElem?.2 ⟨i, hi⟩)).2⟩ ((h (hl.near hi)).run _ hf)⟩
theorem SXp.v {o : Oper} {v : Value} {d : Nat} (hr : OpW P n W R L O E f o v) (hdst : o.dst = some d) (hw : wantO ops f o = some true) (hd : Nat.blt d n = true) (h : SXp P n W R ops L O E g T c c' (k + 1) U ((d, v) :: f) rest Q) : SXp P n W R ops L O E g T c c' k U f (o :: rest) Q := ⟨fun F hF =>
  RS.val [] (fun _ => v) rfl (fun _ _ _ => rfl) (fun _ => wanted_of hF hw) (fun _ w hS _ => wp_never (hr.run _ w hF hS.1) fun _ _ ⟨h1, h2⟩ => ⟨h1, ⟨hS.1.keep h2, hS.2.keep h2⟩, h2.mono fun _ _ f => f.elim⟩) (by rw [hdst]; exact h.run _ (hF.put hd v))⟩
theorem SXp.no {o : Oper} {d : Nat} (hw : wantO ops f o = some false) (hdst : o.dst = some d) (hd : Nat.blt d n = true) (h : SXp P n W R ops L O E g T c c' (k + 1) U ((d, undef) :: f) rest Q) : SXp P n W R ops L O E g T c c' k U f (o :: rest) Q := ⟨fun F hF =>
  RS.skip (fun _ => wanted_of hF hw) (by rw [hdst]; exact h.run _ (hF.put hd undef))⟩
variable {d m o T' : Nat} {xo yo : Operand} {ty : TypeId} {pos : String} {af : Array Edge} {gd : Option (Nat × Bool)} {v : Value}
theorem SXp.skips {o : Oper} (hf : Near W R L O E g) (hw : wantO ops f o = some true) (hdst : o.dst = none)
    (hrun : ∀ a w, Fr n f a → Either g T c c' w → ∃ w', (execOp a.eval o).run P w = .ok .skip w' ∧ w'.heap[g]? = some (.cells c'.toArray T (0, 0)) ∧ Mod (fun k => k = g) w w')
    (h : SXp P n W R ops L O E g T c c' (k + 1) ((k, PV g T c') :: U) f rest Q) : SXp P n W R ops L O E g T c c' k U f (o :: rest) Q := ⟨fun F hF =>
  RS.newx [] (PV g T c') id (fun _ _ _ _ => rfl) rfl ⟨fun _ _ _ _ h hm => h.keep hm, fun _ _ _ _ _ h => h⟩ (fun _ => wanted_of hF hw) (fun x w hS _ => by
    obtain ⟨w', h1, h2, h3⟩ := hrun F w hF hS.2
    have hT : TP g T c c' w w' := by
      rcases hS.2 with hc | hc
      · exact h3.mono fun k _ e => by subst e; exact ⟨rfl, hc, h2⟩
      · exact ⟨h3.os, h3.tape, h3.output, h3.size, fun k hk hn => by
          by_cases e : k = g
          · subst e; rw [h2, hc]
          · exact h3.block k hk e⟩
    unfold Oper.wp
    rw [h1, Oper.upon_skip, hdst]
    exact ⟨undef, rfl, h2, ⟨Loc.keepP hf hS.1 (fun k hk => hk) h3, .inr h2⟩, hT⟩) (by rw [hdst]; exact h.run _ hF)⟩
theorem SXp.store [TOne P T'] (hf : Near W R L O E g) (hw : wantO ops f ⟨none, .store T' xo yo, ty, pos, af, gd⟩ = some true) (hx : evO f xo = some (.pointer (some ⟨g, o, none⟩))) (hy : evO f yo = some v) (ho : Nat.blt o c.length = true) (hv : v.oneCell' = true) (hc : c.set o v = c')
    (h : SXp P n W R ops L O E g T c c' (k + 1) ((k, PV g T c') :: U) f rest Q) : SXp P n W R ops L O E g T c c' k U f (⟨none, .store T' xo yo, ty, pos, af, gd⟩ :: rest) Q :=
  SXp.skips hf hw rfl (fun a w hF hE => by
    have ho' : o < c.length := by simpa using ho
    have key : ∀ cs : List Value, cs.length = c.length → cs.set o v = c' → w.heap[g]? = some (.cells cs.toArray T (0, 0)) → ∃ w', (execOp a.eval ⟨none, .store T' xo yo, ty, pos, af, gd⟩).run P w = .ok .skip w' ∧ w'.heap[g]? = some (.cells c'.toArray T (0, 0)) ∧ Mod (fun k => k = g) w w' := fun cs hl hs hb => by
      obtain ⟨u, hu⟩ : ∃ u, cs[o]? = some u := ⟨_, List.getElem?_eq_getElem (by omega)⟩
      have h1 : w.cell? ⟨g, o, none⟩ = some u := by simp [World.cell?, hb, hu]
      have h2 : w.frozen? ⟨g, o, none⟩ = false := by simp [World.frozen?, hb]
      refine ⟨w.setCell ⟨g, o, none⟩ v, by simp [execOp, hF.eval hx, hF.eval hy, run_store1 h1 h2 hv], ?_, (Mod.refl _ w).setAt _ _ _⟩
      rw [← hs]
      simp [World.setCell, Array.getElem?_modify, hb]
    rcases hE with hE | hE
    · exact key c rfl hc hE
    · exact key c' (by rw [← hc, List.length_set]) (by rw [← hc, List.set_set]) hE) h
theorem over_over : ∀ (r c : List Value) (o : Nat), over (over c o r) o r = over c o r
  | [], _, _ => rfl
  | v :: r, c, o => by
    have comm : ∀ (r c : List Value) (p q : Nat) (u : Value), q < p → over (c.set q u) p r = (over c p r).set q u := by
      intro r
      induction r with
      | nil => intros; rfl
      | cons y r ih =>
        intro c p q u h
        simp only [over]
        rw [List.set_comm _ _ (by omega), ih _ _ _ _ (by omega)]
    simp only [over]
    rw [comm r _ _ _ _ (Nat.lt_succ_self o), comm r _ _ _ _ (Nat.lt_succ_self o), comm r _ _ _ _ (Nat.lt_succ_self o), over_over r, List.set_set]
theorem over_len : ∀ (r c : List Value) (o : Nat), (over c o r).length = c.length
  | [], _, _ => rfl
  | v :: r, c, o => by simp only [over]; rw [over_len, List.length_set]
theorem SXp.storeRow {r : List Value} [t : TRow P T' m] (hf : Near W R L O E g) (hw : wantO ops f ⟨none, .store T' xo yo, ty, pos, af, gd⟩ = some true) (hx : evO f xo = some (.pointer (some ⟨g, o, none⟩))) (hy : evO f yo = some (.agg r.toArray)) (ho : Nat.ble (o + m) c.length = true) (hm : r.length = m) (hv : r.all (·.oneCell') = true) (hc : over c o r = c')
    (h : SXp P n W R ops L O E g T c c' (k + 1) ((k, PV g T c') :: U) f rest Q) : SXp P n W R ops L O E g T c c' k U f (⟨none, .store T' xo yo, ty, pos, af, gd⟩ :: rest) Q :=
  SXp.skips hf hw rfl (fun a w hF hE => by
    have ho' : o + m ≤ c.length := Nat.le_of_ble_eq_true ho
    obtain ⟨_, h3⟩ := t.h
    have key : ∀ cs : List Value, cs.length = c.length → over cs o r = c' → w.heap[g]? = some (.cells cs.toArray T (0, 0)) → ∃ w', (execOp a.eval ⟨none, .store T' xo yo, ty, pos, af, gd⟩).run P w = .ok .skip w' ∧ w'.heap[g]? = some (.cells c'.toArray T (0, 0)) ∧ Mod (fun k => k = g) w w' := fun cs hl hs hb => by
      have e := run_store_row (P := P) (ty := T') h3 (w := w) (b := g) (o := o) (S := r.toArray) (by simp [hasRow, hb]; omega) (by simp [openRow, hb]) (by simpa using hm) (by simpa using hv)
      refine ⟨w.setCells g o r, by simp [execOp, hF.eval hx, hF.eval hy, e], ?_, mod_setCells g r o w⟩
      rw [setCells_heap g r o w _ _ _ hb, spl_over, hs]
    rcases hE with hE | hE
    · exact key c rfl hc hE
    · exact key c' (by rw [← hc, over_len]) (by rw [← hc, over_over]) hE) h
theorem SXp.nil (ks : Nat) (hf : Near W R L O E g) (hS : (ks, PV g T c') ∈ U) (h : SQ n W R (⟨g, c', T⟩ :: L) O E f .normal Q) : SXp P n W R ops L O E g T c c' k U f [] Q := ⟨fun F hF => RS.done fun x w hSw hU =>
  h.run _ w hF (Loc.addP hf hSw.1 (hU _ hS))⟩
theorem SXp.tail (ks : Nat) (hf : Near W R L O E g) (hS : (ks, PV g T c') ∈ U) (h : SXl P n W R ops (⟨g, c', T⟩ :: L) O E f rest Q) : SXp P n W R ops L O E g T c c' k U f [] (fun _ a w => wpList P ops Q rest a w) := ⟨fun F hF => RS.done fun x w hSw hU =>
  h.run _ w hF (Loc.addP hf hSw.1 (hU _ hS))⟩
end
end Go.Proofs.YtkkjjhooamlljaaGreatDoor
namespace Go.Proofs.YtkkjjhooamlljaaGreatDoor
open Go.RowKit
set_option linter.unusedVariables false
set_option linter.unusedSimpArgs false

/-- Only the cursor gc and block g may turn, this from the cells c to the cells c'. -/
def TZ (gc g T : Nat) (c c' : List Value) (w w' : World) : Prop := Mod (fun k => k = gc ∨ (k = g ∧ w.heap[k]? = some (.cells c.toArray T (0, 0)) ∧ w'.heap[k]? = some (.cells c'.toArray T (0, 0)))) w w'
/-- A value that was drawn. -/
def DV {ξ : Type} (v : ξ → Value) (K : ξ → Prop) (u : Value) : Prop := ∃ x, u = v x ∧ K x
/-- A literal slice of ints in new memory. -/
def IV (B e : Nat) (l : List Int) (w : World) (u : Value) : Prop := ∃ b, u = .slice (some ⟨b, 0, none⟩) l.length l.length ∧ B ≤ b ∧ w.heap[b]? = some (.cells (l.map (Value.int .i64)).toArray e (0, 0))
section
variable {P : Program} {n : Nat} {W : World} {L L' : List Blk} {O : List Own} {E E' : List Res} {w w' : World} {gc g T TC B : Nat} {c c' : List Value}
/-- The state of such a region. -/
structure SZ (W : World) (L : List Blk) (O : List Own) (E : List Res) (gc TC g T : Nat) (c c' : List Value) (B : Nat) (w : World) : Prop where
  loc : Loc W (Rg.none W) L O E w
  cur : (curRes TC W gc).says w
  blk : Either g T c c' w
  low : B ≤ w.heap.size
structure NearZ (W : World) (L : List Blk) (O : List Own) (E : List Res) (gc g B : Nat) : Prop where
  near : Near W (Rg.none W) L O E g
  nearC : Near W (Rg.none W) L O E gc
  ne : g ≠ gc
  lt : g < B ∧ gc < B
theorem SZ.keep (h : SZ W L O E gc TC g T c c' B w) (hm : Mod (fun _ => False) w w') : SZ W L O E gc TC g T c c' B w' :=
  ⟨h.loc.keep hm, (curRes TC W gc).stable _ _ _ h.cur hm (fun _ _ f => f), h.blk.keep hm, Nat.le_trans h.low hm.size⟩
theorem SZ.drawn (hn : NearZ W L O E gc g B) (h : SZ W L O E gc TC g T c c' B w) (hm : Mod (fun k => k = gc) w w') (hc : Cur W.heap.size TC w' gc) : SZ W L O E gc TC g T c c' B w' := by
  refine ⟨h.loc.keepP hn.nearC (fun k hk => hk) hm, ?_, ?_, Nat.le_trans h.low hm.size⟩
  · refine of_cur (fun k hk => ?_) hc
    have hg := h.cur.1
    rw [hm.block k (Nat.lt_of_lt_of_le hk h.loc.mod.size) (fun e => by omega), h.loc.mod.block k hk (fun f => f)]
  · rcases h.blk with hb | hb
    · exact .inl (hm.blk hb hn.ne)
    · exact .inr (hm.blk hb hn.ne)
structure SXz (P : Program) (n : Nat) (W : World) (ops : Array Oper) (L : List Blk) (O : List Own) (E : List Res) (gc TC g T : Nat) (c c' : List Value) (B : Nat) (k : Nat) (U : List (Nat × ((Nat → Value) → World → Value → Prop))) (f : (Nat → Value) → List (Nat × Value)) (l : List Oper) (Q : Exit → Go.Act → World → Prop) : Prop where
  run : ∀ F : (Nat → Value) → Go.Act, (∀ x, Fr n (f x) (F x)) → RS P ops (TZ gc g T c c') (SZ W L O E gc TC g T c c' B) Q k l F U
end
section
variable {P : Program} {n : Nat} {W : World} {L L' : List Blk} {O : List Own} {E E' : List Res} {U : List (Nat × ((Nat → Value) → World → Value → Prop))} {f : (Nat → Value) → List (Nat × Value)} {f0 : List (Nat × Value)} {Q : Exit → Go.Act → World → Prop} {ops : Array Oper} {rest : List Oper} {k gc TC g T B : Nat} {c c' : List Value}
theorem SXz.v {o : Oper} {v : Value} {d : Nat} (hr : ∀ x, OpW P n W (Rg.none W) L O E (f x) o v) (hdst : o.dst = some d) (hw : ∀ x, wantO ops (f x) o = some true) (hd : Nat.blt d n = true) (h : SXz P n W ops L O E gc TC g T c c' B (k + 1) U (fun x => (d, v) :: f x) rest Q) : SXz P n W ops L O E gc TC g T c c' B k U f (o :: rest) Q := ⟨fun F hF =>
  RS.val [] (fun _ => v) rfl (fun _ _ _ => rfl) (fun x => wanted_of (hF x) (hw x)) (fun x w hS _ => wp_never ((hr x).run _ w (hF x) hS.loc) fun _ _ ⟨h1, h2⟩ => ⟨h1, hS.keep h2, h2.mono fun _ _ f => f.elim⟩) (by rw [hdst]; exact h.run _ fun x => (hF x).put hd v)⟩
/-- A value that hangs on what operation ka gave. -/
theorem SXz.vk {o : Oper} {d : Nat} (ka : Nat) (v : Value → Value) (hus : ([ka].all fun i => (reach ops ops.size k).contains i) = true) (hr : ∀ x w, (∀ u ∈ U, u.1 = ka → u.2 x w (x u.1)) → OpW P n W (Rg.none W) L O E (f x) o (v (x ka))) (hdst : o.dst = some d) (hw : ∀ x, wantO ops (f x) o = some true) (hd : Nat.blt d n = true) (h : SXz P n W ops L O E gc TC g T c c' B (k + 1) U (fun x => (d, v (x ka)) :: f x) rest Q) : SXz P n W ops L O E gc TC g T c c' B k U f (o :: rest) Q := ⟨fun F hF =>
  RS.val [ka] (fun x => v (x ka)) hus (fun x y h => by rw [h ka List.mem_cons_self]) (fun x => wanted_of (hF x) (hw x)) (fun x w hS hK => wp_never ((hr x w (fun u hu e => hK u hu (by rw [e]; exact List.mem_cons_self))).run _ w (hF x) hS.loc) fun _ _ ⟨h1, h2⟩ => ⟨h1, hS.keep h2, h2.mono fun _ _ f => f.elim⟩) (by rw [hdst]; exact h.run _ fun x => (hF x).put hd (v (x ka)))⟩
variable {d m : Nat} {fn : FuncId} {ars : List Operand} {aT : Array TypeId} {xo yo : Operand} {ty T' : TypeId} {pos : String} {af : Array Edge} {gd : Option (Nat × Bool)}
/-- A draw. -/
theorem SXz.draw {ξ : Type} {v : ξ → Value} {args : (Nat → Value) → List Value} [TFun P fn] (us : List Nat) (hn : NearZ W L O E gc g B) (hus : (us.all fun i => (reach ops ops.size k).contains i) = true) (hw : ∀ x, wantO ops (f x) ⟨some d, .call ⟨.value (.func fn), ars.toArray, aT⟩, ty, pos, af, gd⟩ = some true) (hd : Nat.blt d n = true) (ha : ∀ x, evL (f x) ars = some (args x)) (K : ξ → Prop)
    (hc : ∀ x w, Loc W (Rg.none W) L O E w → Cur W.heap.size TC w gc → (∀ u ∈ U, u.1 ∈ us → u.2 x w (x u.1)) → Calls P fn (args x).toArray w (DrewV TC W.heap.size gc w v K))
    (h : SXz P n W ops L O E gc TC g T c c' B (k + 1) ((k, fun _ _ u => DV v K u) :: U) (fun x => (d, x k) :: f x) rest Q) : SXz P n W ops L O E gc TC g T c c' B k U f (⟨some d, .call ⟨.value (.func fn), ars.toArray, aT⟩, ty, pos, af, gd⟩ :: rest) Q := ⟨fun F hF =>
  RS.new us (fun _ u => DV v K u) id (fun _ _ _ => rfl) hus (fun _ _ _ h _ => h) (fun x => wanted_of (hF x) (hw x)) (fun x w hS hK => by
    unfold Oper.wp
    rw [run_callop (hF x) (ha x) w _ _, Oper.upon_enter]
    refine (hc x w hS.loc (cur_of hS.loc.mod hS.cur) hK).mono ?_
    rintro e w' ⟨y, rfl, h1, h2, h3⟩
    exact ⟨v y, rfl, ⟨y, rfl, h1⟩, hS.drawn hn h2 h3, h2.mono fun _ _ e => .inl e⟩) (h.run _ fun x => (hF x).put hd _)⟩
/-- A literal of ints. -/
theorem SXz.lit {e by_ : Nat} {zv : Value} {parts : List (Nat × Operand)} {vals : List (Nat × Value)} (l : List Int) [t : TSl P T' e 1] [te : TEl P e 1 by_ zv] (hn : NearZ W L O E gc g B) (hw : ∀ x, wantO ops (f x) ⟨some d, .buildSlice T' l.length parts.toArray, ty, pos, af, gd⟩ = some true) (hd : Nat.blt d n = true)
    (hp : ∀ x, evP (f x) parts = some vals) (hm : l.length ≤ 16777216) (hc : Instr.fill (fun i => some (i * 1, 1)) (Array.replicate (l.length * 1) zv) vals = some (l.map (Value.int .i64)).toArray) (hz : zv.cells = #[zv])
    (h : SXz P n W ops L O E gc TC g T c c' B (k + 1) ((k, fun _ => IV B e l) :: U) (fun x => (d, x k) :: f x) rest Q) : SXz P n W ops L O E gc TC g T c c' B k U f (⟨some d, .buildSlice T' l.length parts.toArray, ty, pos, af, gd⟩ :: rest) Q := ⟨fun F hF =>
  RS.new [] (IV B e l) id (fun _ _ _ => rfl) rfl (fun w w' v ⟨b, h1, h2, h3⟩ hm => ⟨b, h1, h2, hm.blk h3 (fun hs => by
    have := hn.lt
    rcases hs with hs | hs
    · omega
    · have := hs.1; omega)⟩) (fun x => wanted_of (hF x) (hw x)) (fun x w hS _ => by
    -- the literal, as SXl.lit walks it
    have hl := hS.loc
    have key : SXl P n W (Rg.none W) ops L O E (f x) [⟨some d, .buildSlice T' l.length parts.toArray, ty, pos, af, gd⟩] (fun _ _ _ => True) := SXl.lit (vals := vals) (cells := l.map (Value.int .i64)) (z := zv) (hw x) hd (hp x) hm hc hz (fun g => qak ⟨fun _ _ _ _ => trivial⟩)
    obtain ⟨i0, q1, q2, q3, q4, q5, q6⟩ := te.h
    have e1 := evP_map (hF x) parts vals (hp x)
    have e2 : (parts.toArray.map fun p => (p.1, (F x).eval p.2)).toList = vals := by simpa using e1
    have hm2 : ¬ 2 ^ 24 < l.length := by omega
    have e3 : (Array.range l.length).map (fun _ => zv) = Array.replicate l.length zv := by
      apply Array.ext_getElem?
      intro i
      simp [Array.getElem?_map, Array.getElem?_range, Array.getElem?_replicate]
    have hrun : (execOp (F x).eval ⟨some d, .buildSlice T' l.length parts.toArray, ty, pos, af, gd⟩).run P w = .ok (.value (.slice (some ⟨w.heap.size, 0, none⟩) l.length l.length)) (w.alloc (.cells (l.map (Value.int .i64)).toArray e)) := by
      simp only [Nat.mul_one] at hc
      simp only [execOp, Instr.buildSlice, Sem.run_bind, run_underlying t.h.1, Result.andThen_ok, sizeOf, typeInfo, run_program, q1, Sem.run_pure, q3, Nat.mul_one]
      by_cases h0 : l.length = 0
      · have h00 : l = [] := List.length_eq_zero_iff.1 h0
        subst h00
        have hc' : Instr.fill (fun i => some (i, 1)) #[] vals = some #[] := by simpa using hc
        have e4 : Array.map (fun _ : Nat => (default : Value)) (Array.range 0) = #[] := by simp
        simp [newRow, q1, q2, q3, e1, e4, hc']
      · simp [newRow, zeroValue, typeInfo, q1, q2, hz, h0, hm2, Nat.mod_one, e1, e3, hc]
    have hmod : Mod (fun _ => False) w (w.alloc (.cells (l.map (Value.int .i64)).toArray e)) := (Mod.refl _ w).alloc _
    unfold Oper.wp
    rw [hrun, Oper.upon_value]
    exact ⟨_, rfl, ⟨w.heap.size, rfl, hS.low, heap_alloc_new w _⟩, hS.keep hmod, hmod.mono fun _ _ f => f.elim⟩) (h.run _ fun x => (hF x).put hd _)⟩
/-- The write. -/
theorem SXz.storeRow {r : List Value} [t : TRow P T' m] (hn : NearZ W L O E gc g B) (hw : ∀ x, wantO ops (f x) ⟨none, .store T' xo yo, ty, pos, af, gd⟩ = some true) (hx : ∀ x, evO (f x) xo = some (.pointer (some ⟨g, 0, none⟩))) (hy : ∀ x, evO (f x) yo = some (.agg r.toArray)) (hlen : c.length = m) (hm : r.length = m) (hv : r.all (·.oneCell') = true) (hc : r = c')
    (h : SXz P n W ops L O E gc TC g T c c' B (k + 1) ((k, PV g T c') :: U) f rest Q) : SXz P n W ops L O E gc TC g T c c' B k U f (⟨none, .store T' xo yo, ty, pos, af, gd⟩ :: rest) Q := ⟨fun F hF =>
  RS.newx [] (PV g T c') id (fun _ _ _ _ => rfl) rfl ⟨fun _ w w' v h hm => by
    unfold PV at *
    by_cases hs : g = gc ∨ (g = g ∧ w.heap[g]? = some (.cells c.toArray T (0, 0)) ∧ w'.heap[g]? = some (.cells c'.toArray T (0, 0)))
    · rcases hs with hs | hs
      · exact (hn.ne hs).elim
      · exact hs.2.2
    · rw [hm.block _ (Array.getElem?_eq_some_iff.1 h).1 hs]
      exact h, fun _ _ _ _ _ h => h⟩ (fun x => wanted_of (hF x) (hw x)) (fun x w hS _ => by
    subst hc
    obtain ⟨_, h3⟩ := t.h
    have key : ∀ cs : List Value, cs.length = m → w.heap[g]? = some (.cells cs.toArray T (0, 0)) → (execOp (F x).eval ⟨none, .store T' xo yo, ty, pos, af, gd⟩).run P w = .ok .skip (w.setCells g 0 r) ∧ (w.setCells g 0 r).heap[g]? = some (.cells r.toArray T (0, 0)) := fun cs hcs hb => by
      have e := run_store_row (P := P) (ty := T') h3 (w := w) (b := g) (o := 0) (S := r.toArray) (by simp [hasRow, hb, hcs]) (by simp [openRow, hb]) (by simpa using hm) (by simpa using hv)
      refine ⟨by simp [execOp, (hF x).eval (hx x), (hF x).eval (hy x), e], ?_⟩
      rw [setCells_heap g r 0 w _ _ _ hb, spl_over]
      have := over_all r cs [] (by omega)
      simp only [List.nil_append, List.length_nil] at this
      rw [this]
    have hmm := mod_setCells g r 0 w
    have fin : (execOp (F x).eval ⟨none, .store T' xo yo, ty, pos, af, gd⟩).run P w = .ok .skip (w.setCells g 0 r) ∧ (w.setCells g 0 r).heap[g]? = some (.cells r.toArray T (0, 0)) ∧ TZ gc g T c r w (w.setCells g 0 r) := by
      rcases hS.blk with hb | hb
      · obtain ⟨k1, k2⟩ := key c hlen hb
        exact ⟨k1, k2, hmm.mono fun k _ e => by subst e; exact .inr ⟨rfl, hb, k2⟩⟩
      · obtain ⟨k1, k2⟩ := key r hm hb
        exact ⟨k1, k2, hmm.os, hmm.tape, hmm.output, hmm.size, fun k hk hn => by
          by_cases e : k = g
          · subst e; rw [k2, hb]
          · exact hmm.block k hk e⟩
    obtain ⟨k1, k2, k3⟩ := fin
    unfold Oper.wp
    rw [k1, Oper.upon_skip]
    exact ⟨undef, rfl, k2, ⟨Loc.keepP hn.near hS.loc (fun k hk => hk) hmm, (curRes TC W gc).stable _ _ _ hS.cur hmm (fun k hk e => hn.ne (e.symm.trans hk)), .inr k2, Nat.le_trans hS.low hmm.size⟩, k3⟩) (h.run _ hF)⟩
theorem SXz.tail (ks : Nat) (hn : NearZ W L O E gc g B) (hs : (ks, PV g T c') ∈ U) (h : ∀ x, (∀ u ∈ U, ∃ w, u.2 x w (x u.1)) → SXl P n W (Rg.none W) ops (⟨g, c', T⟩ :: L) O (curRes TC W gc :: E) (f x) rest Q) : SXz P n W ops L O E gc TC g T c c' B k U f [] (fun _ a w => wpList P ops Q rest a w) := ⟨fun F hF => RS.done fun x w hSw hU => by
  have h1 := Loc.addP hn.near hSw.loc (hU _ hs)
  refine (h x (fun u hu => ⟨w, hU u hu⟩)).run _ w (hF x) ?_
  exact {
    mod := h1.mod, inv := h1.inv, blk := h1.blk, apart := h1.apart, own := h1.own, ownApart := h1.ownApart
    res := fun F hF => by
      rcases List.mem_cons.1 hF with rfl | hF
      · refine ⟨hSw.cur, fun k hk => ?_, fun b hb e => ?_, fun o ho k hk e => ?_⟩
        · have hk' : k = gc := hk
          have := hn.lt.2; have := hSw.low; omega
        · have hb' : b.g = gc := e
          rcases List.mem_cons.1 hb with rfl | hb
          · exact hn.ne hb'
          · exact hn.nearC.blk b hb hb'
        · have hk' : k = gc := e
          subst hk'
          exact hn.nearC.own o ho hk
      · exact h1.res F hF
    resNew := fun F hF k hk => by
      rcases List.mem_cons.1 hF with rfl | hF
      · have hk' : k = gc := hk
        have := hSw.cur.1; omega
      · exact h1.resNew F hF k hk
    resApart := List.pairwise_cons.2 ⟨fun G hG k hk hk2 => by
      have hk' : k = gc := hk
      subst hk'
      exact hn.nearC.res G hG hk2, h1.resApart⟩ }⟩
end
end Go.Proofs.YtkkjjhooamlljaaGreatDoor
namespace Go.Proofs.YtkkjjhooamlljaaGreatDoor
open Go.RowKit

/-- A new cursor over bytes that came in. -/
theorem l01New_loc {W : World} {L : List Blk} {O : List Own} {E : List Res} {w : World} {a : Option Addr} {len cap : Nat} (hlen : len ≤ 1048576) (hy : Bytes W.heap.size W a len) (hl : Loc W (Rg.none W) L O E w) : Calls Tryz.prog 36 #[.slice a len cap] w (NewCur W.heap.size 100 w) :=
  l01New_any W.heap.size w a len cap hl.mod.size hlen (hy.same fun k hk => hl.mod.block k hk (fun f => f))
end Go.Proofs.YtkkjjhooamlljaaGreatDoor
namespace Go.Proofs.YtkkjjhooamlljaaGreatDoor
open Go.RowKit
set_option linter.unusedVariables false
set_option linter.unusedSimpArgs false

set_option maxRecDepth 100000 in
set_option maxHeartbeats 4000000 in
theorem l01Pick_d (B gc b cp : Nat) (w : World) (hc : Cur B 100 w gc) (l : List (List UInt8)) (hl0 : 0 < l.length) (hl1 : l.length ≤ 1000) (hcell : ∀ i x, l[i]? = some x → w.cell? ⟨b, 0 + i, none⟩ = some (.string ⟨x.toArray⟩)) (hne : b ≠ gc) :
    Calls Tryz.prog 54 #[.pointer (some ⟨gc, 0, none⟩), .slice (some ⟨b, 0, none⟩) l.length cp] w (DrewV 100 B gc w (fun x : List UInt8 => .string ⟨x.toArray⟩) (fun x => x ∈ l)) := by
  refine calls_draw (as_ := [.pointer (some ⟨gc, 0, none⟩), .slice (some ⟨b, 0, none⟩) l.length cp]) hc Tryz.func54 rfl rfl (fun a h1 h2 h3 => ((Fr.nil h1 h2).arg (h3 1 _ rfl)).arg (h3 0 _ rfl)) ?_
  repeat (first | refine qap ?_ | refine qak ?_ | refine qaf ?_ | refine qab ?_ | (refine qau ?_; (refine qaa (qaj rfl) rfl ?_ ?_ ?_); rfl; rfl) | (refine qai ?_; (refine qaa (qae rfl) rfl ?_ ?_ ?_); rfl; rfl) | (refine l_len ?_; (refine qaa (OpW.len rfl) rfl ?_ ?_ ?_); rfl; rfl))
  refine qaA ?_
  refine SXl.draw (ξ := Int) (v := fun x : Int => .int .i64 x) rfl rfl rfl (fun x => 0 ≤ x ∧ x < l.length) (fun w hl => below_d B gc w hl.inv l.length (by omega) (by omega)) (fun x hx => ?_)
  obtain ⟨i, rfl⟩ : ∃ i : Nat, x = (i : Int) := ⟨x.toNat, by omega⟩
  obtain ⟨y, hy⟩ : ∃ y, l[i]? = some y := ⟨_, List.getElem?_eq_getElem (by omega)⟩
  have hcy := hcell i y hy
  repeat (first | refine qak ?_ | refine qab ?_ | (refine qaF ?_; (refine qaa (OpW.loadOld rfl hcy hne) rfl ?_ ?_ ?_); rfl; rfl) | (refine qai ?_; (refine qaa (qae rfl) rfl ?_ ?_ ?_); rfl; rfl) | (refine l_indexAddr ?_; (refine qaa (qaM (by omega) rfl rfl) rfl ?_ ?_ ?_); rfl; rfl) | refine qav ?_)
  refine qaC rfl rfl (fun w' hl => ⟨y, rfl, List.mem_of_getElem? hy, hl.mod, hl.inv⟩)
def badKeys : List (List UInt8) := [[], [68, 105, 114], [112, 97, 100, 100, 105, 110, 103], [109, 97, 114, 103, 105, 110], [119, 105, 100, 116, 104, 115]]
set_option maxRecDepth 100000 in
set_option maxHeartbeats 4000000 in
theorem l26Key_d (B gc : Nat) (w : World) (hc : Cur B 100 w gc) :
    Calls Tryz.prog 103 #[.pointer (some ⟨gc, 0, none⟩)] w (DrewV 100 B gc w (fun x : List UInt8 => .string ⟨x.toArray⟩) (fun x => x.length ≤ 20)) := by
  have hgs := hc.size
  refine calls_draw (as_ := [.pointer (some ⟨gc, 0, none⟩)]) hc Tryz.func103 rfl rfl (fun a h1 h2 h3 => ((Fr.nil h1 h2).arg (h3 0 _ rfl))) ?_
  repeat (first | refine qap ?_ | refine qak ?_ | refine qaf ?_ | refine qab ?_ | (refine qau ?_; (refine qaa (qaj rfl) rfl ?_ ?_ ?_); rfl; rfl) | (refine qai ?_; (refine qaa (qae rfl) rfl ?_ ?_ ?_); rfl; rfl))
  refine qaA ?_
  refine SXl.draw (ξ := Bool) (v := fun b => .bool b) rfl rfl rfl (fun _ => True) (fun w hl => once_d B gc w hl.inv 12 (by decide)) (fun b _ => ?_)
  cases b
  · repeat (first | refine qap ?_ | refine qak ?_ | refine qaf ?_ | refine qab ?_ | refine qaE ?_ | refine qas rfl ?_ | (refine qau ?_; (refine qaa (qaj rfl) rfl ?_ ?_ ?_); rfl; rfl))
    refine qaA ?_
    refine SXl.calln1 rfl rfl rfl (fun w hl => skeyNames_new _) (fun p => ?_)
    skip
    refine qaA ?_
    refine SXl.drawE (ξ := List UInt8) (v := fun x => .string ⟨x.toArray⟩) rfl rfl rfl (fun x => x ∈ keyTexts) (fun w hl => l01Pick_d B gc p.1 _ w hl.inv keyTexts (by decide) (by decide) (fun i x hi => by rw [Nat.zero_add]; exact (hl.res _ (.head _)).1.h i x hi) (fun e => by have := hl.resNew _ (.head _) p.1 rfl; omega)) (fun x hx => ?_)
    have hall : ∀ k ∈ keyTexts, k.length ≤ 20 := by decide
    repeat (first | refine qak ?_ | refine qab ?_ | (refine qai ?_; (refine qaa (qae rfl) rfl ?_ ?_ ?_); rfl; rfl) | refine qav ?_)
    refine qaC rfl rfl (fun w' hl => ⟨x, rfl, hall x hx, hl.mod, hl.inv⟩)
  · repeat (first | refine qap ?_ | refine qak ?_ | refine qaf ?_ | refine qab ?_ | refine qao rfl ?_ | (refine qau ?_; (refine qaa (qaj rfl) rfl ?_ ?_ ?_); rfl; rfl))
    refine qaG ?_
    refine SXl.lit (cells := badKeys.map fun x => Value.string ⟨x.toArray⟩) (z := .string ⟨#[]⟩) ?_ ?_ rfl (by decide) (by kernel_rfl) rfl (fun gl => ?_)
    rfl; rfl
    skip
    refine qaA ?_
    refine SXl.draw (ξ := List UInt8) (v := fun x => .string ⟨x.toArray⟩) rfl rfl rfl (fun x => x ∈ badKeys) (fun w hl => l01Pick_d B gc gl _ w hl.inv badKeys (by decide) (by decide) (fun i x hi => by rw [Nat.zero_add]; exact blk_cell (hl.blk _ (.head _)).2 (by rw [List.getElem?_map, hi]; rfl)) (fun e => by
      rcases (hl.blk _ (.head _)).1 with h | h
      · exact h.elim
      · simp only at h; omega)) (fun x hx => ?_)
    have hall : ∀ k ∈ badKeys, k.length ≤ 20 := by decide
    repeat (first | refine qak ?_ | refine qab ?_ | (refine qai ?_; (refine qaa (qae rfl) rfl ?_ ?_ ?_); rfl; rfl) | refine qav ?_ | refine qan ?_)
    refine qaC rfl rfl (fun w' hl => ⟨x, rfl, hall x hx, hl.mod, hl.inv⟩)
end Go.Proofs.YtkkjjhooamlljaaGreatDoor
namespace Go.Proofs.YtkkjjhooamlljaaGreatDoor
open Go.RowKit

def ruleIn (r : Rule) : Bool := inB r.room (-1) 1048576 && inB r.wide 0 1048576 && inB r.high 0 1048576
def tableOk (l : List Rule) : Bool := inB l.length 1 6 && l.all ruleIn
def AllIn (p : Rule → Bool) (l : List Rule) (k : Nat) : Prop := (l.take k).all p = true
theorem AllIn.succ {p : Rule → Bool} {l : List Rule} {k : Nat} {x : Rule} (h : AllIn p l k) (hx : Hid (l[k]? = some x)) (hp : p x = true) : AllIn p l (k + 1) := by
  unfold AllIn at *
  rw [List.take_add_one, hx.out, List.all_append, h]
  simp [hp]
theorem AllIn.full {p : Rule → Bool} {l : List Rule} (h : AllIn p l l.length) : l.all p = true := by
  unfold AllIn at h
  rwa [List.take_length] at h
theorem allIn_false {p : Rule → Bool} {l : List Rule} {k : Nat} {x : Rule} (hx : Hid (l[k]? = some x)) (hp : p x = false) : l.all p = false := by
  rw [List.all_eq_false]
  exact ⟨x, List.mem_of_getElem? hx.out, by simp [hp]⟩

/-- The block that a table's parameter is laid in. -/
abbrev boxT (a : Option Addr) (n c : Nat) : Obj := .cells #[.slice a n c] 26

set_option maxRecDepth 100000 in
set_option maxHeartbeats 2000000 in
theorem tableOk_any (l : List Rule) (a : Option Addr) (c : Nat) (R : Nat → Prop) (w : World) (hl : l.length ≤ 1048576) (h : SliceAt (Flat Rule.cells) 3 R w a l) :
    Calls Tryz.prog 49 #[.agg #[.slice a l.length c]] w fun e w' => e = .returned (.bool (tableOk l)) ∧ Mod (fun _ => False) w w' := by
  have H := hid (h.flatKeep ((Mod.refl _ w).alloc (boxT a l.length c)))
  clear h
  cases hin : inB l.length 1 6
  · go_enter Tryz.func49, Tryz.ntmps49
    go_wp2_with (first | (go_at_call 39; refine (in_any _ _ _ _).mono ?_; rintro e w' ⟨rfl, rfl⟩))
    go_ret
    exact ⟨ret_bool (by unfold tableOk; rw [hin]; rfl), by (repeat (first | with_reducible exact Mod.refl _ _ | with_reducible refine Mod.drewN ?_ _ | with_reducible refine Mod.drew ?_ | with_reducible refine Mod.alloc ?_ _ | ((with_reducible refine Mod.setNew ?_ ?_ _ _ _); (rotate_left; omega)) | with_reducible refine Mod.setAt ?_ _ _ _ ))⟩
  · go_enter Tryz.func49, Tryz.ntmps49
    go_wp2_with (first | (go_at_call 39; refine (in_any _ _ _ _).mono ?_; rintro e w' ⟨rfl, rfl⟩))
    go_loopw [13] (fun i wr => ∃ k : Nat, k ≤ l.length ∧ i = .int .i64 k ∧ AllIn ruleIn l k ∧ Mod (fun _ => False) (w.alloc (boxT a l.length c)) wr) (fun i _ => l.length - (intOf i).toNat)
    case atStart => exact ⟨0, by omega, rfl, rfl, Mod.refl _ _⟩
    case round =>
      obtain ⟨k, hk, rfl, hall, hM⟩ := hrel
      have hb0 : wr.cell? ⟨w.heap.size, 0, none⟩ = some (.slice a l.length c) := hM.keep _ _ (by simp [go_sem])
      have hsz := hM.size
      simp only [World.size_alloc] at hsz
      by_cases hlt : k < l.length
      · obtain ⟨b, o, x, r, rfl, hb, hbw, hx, hr, hrl, hc⟩ := (H.out.flatKeep hM).get hlt
        obtain rfl : r = x.cells := hr
        have c0 := hc 0 _ rfl
        have c1 := hc 1 _ rfl
        have c2 := hc 2 _ rfl
        simp only [Nat.add_zero] at c0
        clear hc hrl
        cases h1 : inB x.room (-1) 1048576 <;> cases h2 : inB x.wide 0 1048576 <;> cases h3 : inB x.high 0 1048576
        case true.true.true =>
          go_wp2_with (first | (go_at_call 39; refine (in_any _ _ _ _).mono ?_; rintro e w' ⟨rfl, rfl⟩))
          go_roundw
          case rel => exact ⟨k + 1, by omega, by go_num, hall.succ hx (by unfold ruleIn; rw [h1, h2, h3]; rfl), by (repeat (first | with_reducible exact Mod.refl _ _ | with_reducible refine Mod.drewN ?_ _ | with_reducible refine Mod.drew ?_ | with_reducible refine Mod.alloc ?_ _ | ((with_reducible refine Mod.setNew ?_ ?_ _ _ _); (rotate_left; omega)) | with_reducible refine Mod.setAt ?_ _ _ _ | with_reducible exact hM | with_reducible refine Mod.thenNone ?_ hM ))⟩
          case measure => simp [intOf]; omega
        all_goals
          go_wp2_with (first | (go_at_call 39; refine (in_any _ _ _ _).mono ?_; rintro e w' ⟨rfl, rfl⟩))
          go_ret
          exact ⟨ret_bool (by unfold tableOk; rw [hin, allIn_false hx (by unfold ruleIn; rw [h1, h2, h3]; rfl)]; rfl), by
            have hM0 : Mod (fun _ => False) w wr := ((Mod.refl _ w).alloc _).trans hM
            (repeat (first | with_reducible exact Mod.refl _ _ | with_reducible refine Mod.drewN ?_ _ | with_reducible refine Mod.drew ?_ | with_reducible refine Mod.alloc ?_ _ | ((with_reducible refine Mod.setNew ?_ ?_ _ _ _); (rotate_left; omega)) | with_reducible refine Mod.setAt ?_ _ _ _ | with_reducible exact hM0 | with_reducible refine Mod.thenNone ?_ hM0 ))⟩
      · have hk' : k = l.length := by omega
        subst hk'
        go_wp2
        go_ret
        exact ⟨ret_bool (by unfold tableOk; rw [hin, hall.full]; rfl), ((Mod.refl _ w).alloc _).trans hM⟩

set_option maxRecDepth 100000 in
set_option maxHeartbeats 2000000 in
theorem stableOk_any (l : List Rule) (a : Option Addr) (c : Nat) (R : Nat → Prop) (w : World) (hl : l.length ≤ 1048576) (h : SliceAt (Flat Rule.cells) 3 R w a l) :
    Calls Tryz.prog 67 #[.agg #[.slice a l.length c]] w fun e w' => e = .returned (.bool (tableOk l)) ∧ Mod (fun _ => False) w w' := by
  have H := hid (h.flatKeep ((Mod.refl _ w).alloc (boxT a l.length c)))
  clear h
  go_enter Tryz.func67, Tryz.ntmps67
  go_wp2_with (first | (go_at_call 90; refine (l01In_any _ _ _ _).mono ?_; rintro e w' ⟨rfl, rfl⟩))
  go_loopw [3] (fun i wr => ∃ k : Nat, k ≤ l.length ∧ i = .int .i64 k ∧ AllIn ruleIn l k ∧ Mod (fun _ => False) (w.alloc (boxT a l.length c)) wr) (fun i _ => l.length - (intOf i).toNat)
  case atStart => exact ⟨0, by omega, rfl, rfl, Mod.refl _ _⟩
  case round =>
    obtain ⟨k, hk, rfl, hall, hM⟩ := hrel
    have hb0 : wr.cell? ⟨w.heap.size, 0, none⟩ = some (.slice a l.length c) := hM.keep _ _ (by simp [go_sem])
    have hsz := hM.size
    simp only [World.size_alloc] at hsz
    by_cases hlt : k < l.length
    · obtain ⟨b, o, x, r, rfl, hb, hbw, hx, hr, hrl, hc⟩ := (H.out.flatKeep hM).get hlt
      obtain rfl : r = x.cells := hr
      have c0 := hc 0 _ rfl
      have c1 := hc 1 _ rfl
      have c2 := hc 2 _ rfl
      simp only [Nat.add_zero] at c0
      clear hc hrl
      cases h1 : inB x.room (-1) 1048576 <;> cases h2 : inB x.wide 0 1048576 <;> cases h3 : inB x.high 0 1048576
      case true.true.true =>
        go_wp2_with (first | (go_at_call 90; refine (l01In_any _ _ _ _).mono ?_; rintro e w' ⟨rfl, rfl⟩))
        go_roundw
        case rel => exact ⟨k + 1, by omega, by go_num, hall.succ hx (by unfold ruleIn; rw [h1, h2, h3]; rfl), by (repeat (first | with_reducible exact Mod.refl _ _ | with_reducible refine Mod.drewN ?_ _ | with_reducible refine Mod.drew ?_ | with_reducible refine Mod.alloc ?_ _ | ((with_reducible refine Mod.setNew ?_ ?_ _ _ _); (rotate_left; omega)) | with_reducible refine Mod.setAt ?_ _ _ _ | with_reducible exact hM | with_reducible refine Mod.thenNone ?_ hM ))⟩
        case measure => simp [intOf]; omega
      all_goals
        go_wp2_with (first | (go_at_call 90; refine (l01In_any _ _ _ _).mono ?_; rintro e w' ⟨rfl, rfl⟩))
        go_ret
        exact ⟨ret_bool (by unfold tableOk; rw [allIn_false hx (by unfold ruleIn; rw [h1, h2, h3]; rfl), Bool.and_false]), by
          have hM0 : Mod (fun _ => False) w wr := ((Mod.refl _ w).alloc _).trans hM
          (repeat (first | with_reducible exact Mod.refl _ _ | with_reducible refine Mod.drewN ?_ _ | with_reducible refine Mod.drew ?_ | with_reducible refine Mod.alloc ?_ _ | ((with_reducible refine Mod.setNew ?_ ?_ _ _ _); (rotate_left; omega)) | with_reducible refine Mod.setAt ?_ _ _ _ | with_reducible exact hM0 | with_reducible refine Mod.thenNone ?_ hM0 ))⟩
    · have hk' : k = l.length := by omega
      subst hk'
      go_wp2_with (first | (go_at_call 90; refine (l01In_any _ _ _ _).mono ?_; rintro e w' ⟨rfl, rfl⟩))
      go_ret
      exact ⟨ret_bool (by unfold tableOk; rw [hall.full, Bool.and_true]), ((Mod.refl _ w).alloc _).trans hM⟩

end Go.Proofs.YtkkjjhooamlljaaGreatDoor
namespace Go.Proofs.YtkkjjhooamlljaaGreatDoor
open Go.RowKit

theorem Rule.eq_iff (x y : Rule) : x = y ↔ x.room = y.room ∧ x.wide = y.wide ∧ x.high = y.high := by
  cases x; cases y; simp
theorem Rule.run_eq (x y : Rule) (w : World) : (Op.equalIn 10000 70 (.agg #[.int .i64 x.room, .int .i64 x.wide, .int .i64 x.high]) (.agg #[.int .i64 y.room, .int .i64 y.wide, .int .i64 y.high])).run Tryz.prog w = .ok (decide (x = y)) w := by
  rw [show decide (x = y) = decide (x.room = y.room ∧ x.wide = y.wide ∧ x.high = y.high) from decide_eq_decide.2 (Rule.eq_iff x y)]
  obtain ⟨x0, x1, x2⟩ := x
  obtain ⟨y0, y1, y2⟩ := y
  by_cases h0 : x0 = y0 <;> by_cases h1 : x1 = y1 <;> by_cases h2 : x2 = y2 <;> simp [go_sem, *]
@[go_sem high] theorem Rule.run_neq (x y : Rule) (w : World) : (binOp .neq 70 (.agg #[.int .i64 x.room, .int .i64 x.wide, .int .i64 x.high]) (.agg #[.int .i64 y.room, .int .i64 y.wide, .int .i64 y.high])).run Tryz.prog w = .ok (.bool (!decide (x = y))) w := by
  rw [run_neq_struct, Rule.run_eq]; rfl
@[go_sem high] theorem Rule.run_eql (x y : Rule) (w : World) : (binOp .eql 70 (.agg #[.int .i64 x.room, .int .i64 x.wide, .int .i64 x.high]) (.agg #[.int .i64 y.room, .int .i64 y.wide, .int .i64 y.high])).run Tryz.prog w = .ok (.bool (decide (x = y))) w := by
  rw [run_eql_struct, Rule.run_eq]; rfl

set_option maxRecDepth 100000 in
set_option maxHeartbeats 1000000 in
theorem sameRules_any (l m : List Rule) (a a' : Option Addr) (c c' : Nat) (R S : Nat → Prop) (w : World) (hl : l.length ≤ 1048576) (_hm : m.length ≤ 1048576) (h : SliceAt (Flat Rule.cells) 3 R w a l) (h' : SliceAt (Flat Rule.cells) 3 S w a' m) :
    Calls Tryz.prog 68 #[.slice a l.length c, .slice a' m.length c'] w fun e w' => e = .returned (.bool (decide (l = m))) ∧ Mod (fun _ => False) w w' := by
  have H := hid h
  have H' := hid h'
  clear h h'
  by_cases hlen : l.length = m.length
  · have hn0 : ((l.length : Int) != (m.length : Int)) = false := by simp [hlen]
    have hn1 : l.length ≤ m.length := by omega
    have hn2 : m.length ≤ l.length := by omega
    clear hlen
    go_enter Tryz.func68, Tryz.ntmps68
    go_wp2
    go_loopw [5] (fun i wr => ∃ k : Nat, k ≤ l.length ∧ i = .int .i64 k ∧ SameTo l m k ∧ Mod (fun _ => False) w wr) (fun i _ => l.length - (intOf i).toNat)
    case atStart => exact ⟨0, by omega, rfl, rfl, Mod.refl _ _⟩
    case round =>
      obtain ⟨k, hk, rfl, hsame, hmod⟩ := hrel
      by_cases hlt : k < l.length
      · obtain ⟨b, o, x, r, rfl, hb, hbw, hx, hr, hrl, hc⟩ := (H.out.flatKeep hmod).get hlt
        obtain rfl : r = x.cells := hr
        obtain ⟨b', o', y, r', rfl, hb', hbw', hy, hr', hrl', hd⟩ := (H'.out.flatKeep hmod).get (show k < m.length by omega)
        obtain rfl : r' = y.cells := hr'
        have hlt2 : k < m.length := by omega
        have c0 := hc 0 _ rfl
        have d0 := hd 0 _ rfl
        have c1 := hc 1 _ rfl
        have d1 := hd 1 _ rfl
        have c2 := hc 2 _ rfl
        have d2 := hd 2 _ rfl
        simp only [Nat.add_zero] at c0 d0
        clear hc hd hrl hrl'
        by_cases hxy : x = y
        · have hne : decide (x = y) = true := decide_eq_true hxy
          have Hxy := hid hxy
          clear hxy
          go_wp2
          go_quiet (fail)
          go_wp2
          go_roundw
          case rel => exact ⟨k + 1, by omega, by go_num, hsame.succ hx (Hxy.out ▸ hy), hmod.drewN _⟩
          case measure => simp [intOf]; omega
        · have hne : decide (x = y) = false := decide_eq_false hxy
          go_wp2
          go_quiet (fail)
          go_wp2
          go_ret
          exact ⟨ret_bool (decide_eq_false (ne_at hx hy hxy)).symm, hmod.drewN _⟩
      · go_wp2
        go_ret
        exact ⟨ret_bool (decide_eq_true (hsame.all (by omega) (by omega))).symm, hmod⟩
  · have hn0 : ((l.length : Int) != (m.length : Int)) = true := by simp; omega
    have hne : l ≠ m := fun h => hlen (by rw [h])
    clear hlen
    go_enter Tryz.func68, Tryz.ntmps68
    go_wp2
    go_ret
    exact ⟨ret_bool (decide_eq_false hne).symm, Mod.refl _ _⟩

set_option maxRecDepth 100000 in
theorem sameTable_any (l m : List Rule) (a a' : Option Addr) (c c' : Nat) (R S : Nat → Prop) (w : World) (hl : l.length ≤ 1048576) (hm : m.length ≤ 1048576) (h : SliceAt (Flat Rule.cells) 3 R w a l) (h' : SliceAt (Flat Rule.cells) 3 S w a' m) :
    Calls Tryz.prog 22 #[.agg #[.slice a l.length c], .agg #[.slice a' m.length c']] w fun e w' => e = .returned (.bool (decide (l = m))) ∧ Mod (fun _ => False) w w' := by
  have hM : Mod (fun _ => False) w ((w.alloc (boxT a l.length c)).alloc (boxT a' m.length c')) := ((Mod.refl _ w).alloc _).alloc _
  have H := hid (h.flatKeep hM)
  have H' := hid (h'.flatKeep hM)
  clear h h'
  go_enter Tryz.func22, Tryz.ntmps22
  go_wp2_with fail
  refine (sameRules_any l m _ _ _ _ R S _ hl hm H.out H'.out).mono ?_
  rintro e w1 ⟨rfl, hm1⟩
  go_wp2
  go_ret
  exact ⟨rfl, hM.thenNone hm1⟩

set_option maxRecDepth 100000 in
set_option maxHeartbeats 1000000 in
theorem implSameTable_any (l m : List Rule) (a a' : Option Addr) (c c' : Nat) (R S : Nat → Prop) (w : World) (hl : l.length ≤ 1048576) (_hm : m.length ≤ 1048576) (h : SliceAt (Flat Rule.cells) 3 R w a l) (h' : SliceAt (Flat Rule.cells) 3 S w a' m) :
    Calls Tryz.prog 84 #[.agg #[.slice a l.length c], .agg #[.slice a' m.length c']] w fun e w' => e = .returned (.bool (decide (l = m))) ∧ Mod (fun _ => False) w w' := by
  have hM : Mod (fun _ => False) w ((w.alloc (boxT a l.length c)).alloc (boxT a' m.length c')) := ((Mod.refl _ w).alloc _).alloc _
  have H := hid (h.flatKeep hM)
  have H' := hid (h'.flatKeep hM)
  clear h h'
  by_cases hlen : l.length = m.length
  · have hn0 : ((l.length : Int) != (m.length : Int)) = false := by simp [hlen]
    have hn1 : l.length ≤ m.length := by omega
    have hn2 : m.length ≤ l.length := by omega
    clear hlen
    go_enter Tryz.func84, Tryz.ntmps84
    go_wp2
    go_loopw [16] (fun i wr => ∃ k : Nat, k ≤ l.length ∧ i = .int .i64 k ∧ SameTo l m k ∧ Mod (fun _ => False) ((w.alloc (boxT a l.length c)).alloc (boxT a' m.length c')) wr) (fun i _ => l.length - (intOf i).toNat)
    case atStart => exact ⟨0, by omega, rfl, rfl, Mod.refl _ _⟩
    case round =>
      obtain ⟨k, hk, rfl, hsame, hmod⟩ := hrel
      have hb0 : wr.cell? ⟨w.heap.size, 0, none⟩ = some (.slice a l.length c) := hmod.keep _ _ (by simp [go_sem])
      have hb1 : wr.cell? ⟨w.heap.size + 1, 0, none⟩ = some (.slice a' m.length c') := hmod.keep _ _ (by simp [go_sem])
      by_cases hlt : k < l.length
      · obtain ⟨b, o, x, r, rfl, hb, hbw, hx, hr, hrl, hc⟩ := (H.out.flatKeep hmod).get hlt
        obtain rfl : r = x.cells := hr
        obtain ⟨b', o', y, r', rfl, hb', hbw', hy, hr', hrl', hd⟩ := (H'.out.flatKeep hmod).get (show k < m.length by omega)
        obtain rfl : r' = y.cells := hr'
        have hlt2 : k < m.length := by omega
        have c0 := hc 0 _ rfl
        have d0 := hd 0 _ rfl
        have c1 := hc 1 _ rfl
        have d1 := hd 1 _ rfl
        have c2 := hc 2 _ rfl
        have d2 := hd 2 _ rfl
        simp only [Nat.add_zero] at c0 d0
        clear hc hd hrl hrl'
        by_cases hxy : x = y
        · have hne : decide (x = y) = true := decide_eq_true hxy
          have Hxy := hid hxy
          clear hxy
          go_wp2
          go_quiet (fail)
          go_wp2
          go_roundw
          case rel => exact ⟨k + 1, by omega, by go_num, hsame.succ hx (Hxy.out ▸ hy), hmod.drewN _⟩
          case measure => simp [intOf]; omega
        · have hne : decide (x = y) = false := decide_eq_false hxy
          go_wp2
          go_quiet (fail)
          go_wp2
          go_ret
          exact ⟨ret_bool (decide_eq_false (ne_at hx hy hxy)).symm, hM.trans (hmod.drewN _)⟩
      · go_wp2
        go_ret
        exact ⟨ret_bool (decide_eq_true (hsame.all (by omega) (by omega))).symm, hM.trans hmod⟩
  · have hn0 : ((l.length : Int) != (m.length : Int)) = true := by simp; omega
    have hne : l ≠ m := fun h => hlen (by rw [h])
    clear hlen
    go_enter Tryz.func84, Tryz.ntmps84
    go_wp2
    go_ret
    exact ⟨ret_bool (decide_eq_false hne).symm, hM⟩

end Go.Proofs.YtkkjjhooamlljaaGreatDoor
namespace Go.Proofs.YtkkjjhooamlljaaGreatDoor
open Go.RowKit


end Go.Proofs.YtkkjjhooamlljaaGreatDoor
namespace Go.Proofs.YtkkjjhooamlljaaGreatDoor
open Go.RowKit

def ruleWord (r : Rule) : List UInt8 := Lib.itoa r.room ++ [58] ++ Lib.itoa r.wide ++ [58] ++ Lib.itoa r.high
def ruleTextOf (l : List Rule) : List UInt8 := if l.length = 0 then [45] else if tableOk l then Lib.join (l.map ruleWord) [44] else []
theorem ruleIn_bounds {r : Rule} (h : ruleIn r = true) : I64 r.room ∧ I64 r.wide ∧ I64 r.high := by
  unfold ruleIn inB at h
  simp only [Bool.and_eq_true, decide_eq_true_eq] at h
  obtain ⟨⟨⟨a, b⟩, c, d⟩, e, f⟩ := h
  exact ⟨⟨by omega, by omega⟩, ⟨by omega, by omega⟩, by omega, by omega⟩
theorem tableOk_parts {l : List Rule} (h : tableOk l = true) : l.length ≤ 6 ∧ ∀ r ∈ l, ruleIn r = true := by
  unfold tableOk inB at h
  simp only [Bool.and_eq_true, decide_eq_true_eq] at h
  exact ⟨by omega, List.all_eq_true.1 h.2⟩
theorem ruleWord_length {r : Rule} (h : ruleIn r = true) : (ruleWord r).length ≤ 65 := by
  obtain ⟨b0, b1, b2⟩ := ruleIn_bounds h
  have l0 := Lib.itoa_length_le _ b0.1 b0.2
  have l1 := Lib.itoa_length_le _ b1.1 b1.2
  have l2 := Lib.itoa_length_le _ b2.1 b2.2
  unfold ruleWord
  simp only [List.length_append, List.length_cons, List.length_nil]
  omega
theorem ruleTail_length {l : List Rule} (h : ∀ r ∈ l, ruleIn r = true) : (Lib.joinTail [44] (l.map ruleWord)).length ≤ l.length * 66 := by
  induction l with
  | nil => simp [Lib.joinTail]
  | cons x l ih =>
    have h1 := ih fun y hy => h y (List.mem_cons_of_mem _ hy)
    have h2 := ruleWord_length (h x List.mem_cons_self)
    unfold Lib.joinTail at h1 ⊢
    simp only [List.map_cons, List.flatten_cons, List.length_append, List.length_cons, List.length_nil] at h1 ⊢
    omega
theorem ruleJoin_length {l : List Rule} (h : ∀ r ∈ l, ruleIn r = true) : (Lib.join (l.map ruleWord) [44]).length ≤ l.length * 66 := by
  cases l with
  | nil => simp [Lib.join, List.intercalate]
  | cons x l =>
    have h1 := ruleTail_length fun y hy => h y (List.mem_cons_of_mem _ hy)
    have h2 := ruleWord_length (h x List.mem_cons_self)
    rw [List.map_cons, Lib.join_cons, List.length_append, List.length_cons]
    omega
theorem join_snoc {l : List (List UInt8)} (hl : l ≠ []) (x sep : List UInt8) : Lib.join (l ++ [x]) sep = Lib.join l sep ++ sep ++ x := by
  cases l with
  | nil => exact (hl rfl).elim
  | cons y l => simp [Lib.join_cons, Lib.joinTail]

set_option maxRecDepth 100000 in
set_option maxHeartbeats 4000000 in
theorem sruleText_any (l : List Rule) (a : Option Addr) (c : Nat) (R : Nat → Prop) (w : World) (hl : l.length ≤ 1048576) (h : SliceAt (Flat Rule.cells) 3 R w a l) :
    Calls Tryz.prog 21 #[.agg #[.slice a l.length c]] w fun e w' => e = .returned (.string ⟨(ruleTextOf l).toArray⟩) ∧ Mod (fun _ => False) w w' := by
  have H := hid (h.flatKeep ((Mod.refl _ w).alloc (boxT a l.length c)))
  clear h
  by_cases h0 : l.length = 0
  · have e : ruleTextOf l = [45] := by unfold ruleTextOf; rw [if_pos h0]
    rw [e, h0]
    clear e hl H h0
    go_enter Tryz.func21, Tryz.ntmps21
    go_wp2
    go_ret
    exact ⟨rfl, by (repeat (first | with_reducible exact Mod.refl _ _ | with_reducible refine Mod.drewN ?_ _ | with_reducible refine Mod.drew ?_ | with_reducible refine Mod.alloc ?_ _ | ((with_reducible refine Mod.setNew ?_ ?_ _ _ _); (rotate_left; omega)) | with_reducible refine Mod.setAt ?_ _ _ _ ))⟩
  · have hne : ((l.length : Int) == 0) = false := by simpa using h0
    have h1 : 1 ≤ l.length := by omega
    have hT := stableOk_any l a c _ _ hl H.out
    cases hok : tableOk l
    · have e : ruleTextOf l = [] := by unfold ruleTextOf; rw [if_neg h0, hok]; rfl
      rw [e]
      rw [hok] at hT
      clear e h0 hok
      go_enter Tryz.func21, Tryz.ntmps21
      go_wp2_with fail
      refine hT.mono ?_
      rintro e w1 ⟨rfl, hm1⟩
      clear hT
      go_wp2
      go_ret
      exact ⟨rfl, ((Mod.refl _ w).alloc _).thenNone hm1⟩
    · have e : ruleTextOf l = Lib.join (l.map ruleWord) [44] := by unfold ruleTextOf; rw [if_neg h0, hok]; rfl
      rw [e]
      rw [hok] at hT
      obtain ⟨hl6, hall⟩ := tableOk_parts hok
      have Hall := hid hall
      have hB := heap_alloc_new w (.cells [Value.slice a l.length c].toArray 26)
      clear e h0 hok hall
      go_enter Tryz.func21, Tryz.ntmps21
      go_wp2_with fail
      refine hT.mono ?_
      rintro e w1 ⟨rfl, hm1⟩
      have hM1 : Mod (fun _ => False) w w1 := ((Mod.refl _ w).alloc _).thenNone hm1
      have hB1 := hm1.blk hB (fun f => f)
      have H1 := hid (H.out.flatKeep hm1)
      have hr0 : w.heap.size < w1.heap.size := (Array.getElem?_eq_some_iff.1 hB1).1
      clear hT hB hm1 H
      go_wp2_with fail
      go_loopw [3, 4] (fun s i wr => ∃ (k : Nat) (t : List UInt8), k ≤ l.length ∧ i = .int .i64 k ∧ s = .string ⟨t.toArray⟩ ∧ Hid (t = Lib.join ((l.take k).map ruleWord) [44]) ∧ Mod (fun _ => False) w1 wr) (fun _ i _ => l.length - (intOf i).toNat)
      case atStart => exact ⟨0, [], by omega, rfl, rfl, rfl, Mod.refl _ _⟩
      case round =>
        obtain ⟨k, t, hk, rfl, rfl, hs, hM⟩ := hrel
        have hBr := hM.blk hB1 (fun f => f)
        have hr1 : w.heap.size < wr.heap.size := (Array.getElem?_eq_some_iff.1 hBr).1
        have sc0 := blk_cell hBr (j := 0) rfl
        have sz0 := blk_free hBr 0
        have ht400 : t.length ≤ 400 := by
          have := ruleJoin_length (l := l.take k) fun r hr => Hall.out r (List.mem_of_mem_take hr)
          rw [← hs.out] at this
          simp only [List.length_take] at this
          omega
        by_cases hlt : k < l.length
        · obtain ⟨b, o, x, r, rfl, hb, hbw, hx, hr, hrl, hc⟩ := (H1.out.flatKeep hM).get hlt
          obtain rfl : r = x.cells := hr
          have c0 := hc 0 _ rfl
          have c1 := hc 1 _ rfl
          have c2 := hc 2 _ rfl
          simp only [Nat.add_zero] at c0
          obtain ⟨b0, b1, b2⟩ := ruleIn_bounds (Hall.out x (List.mem_of_getElem? hx.out))
          have k0 := fun W => sdecimal_any x.room b0.1 b0.2 W
          have k1 := fun W => sdecimal_any x.wide b1.1 b1.2 W
          have k2 := fun W => sdecimal_any x.high b2.1 b2.2 W
          have l0 := Lib.itoa_length_le _ b0.1 b0.2
          have l1 := Lib.itoa_length_le _ b1.1 b1.2
          have l2 := Lib.itoa_length_le _ b2.1 b2.2
          have q0 := hold (W := wr) sc0
          have q1 := hold c0
          have q2 := hold c1
          have q3 := hold c2
          clear hc hrl b0 b1 b2 c0 c1 c2
          by_cases hk0 : k = 0
          · have hk1 : k ≤ 0 := by omega
            have Hk0 := hid hk0
            clear hk0
            go_wp2
            refine wp_region_mod_tail 27 (by kernel_rfl) (by kernel_rfl) (by kernel_rfl) ?_
            simp only [List.take_succ_cons, List.take_zero, List.drop_succ_cons, List.drop_zero]
            refine RM.const (v := ?_) (fun _ => rfl) (fun xq wq hSq => ?_) ?_; rotate_left; (focus (go_simp; (first | done | with_reducible rfl | ((split; (exfalso; omega)); with_reducible rfl)))); (try simp only [Act.put, List.setIfInBounds_toArray, List.set_cons_zero, List.set_cons_succ])
            refine RM.const (v := ?_) (fun _ => rfl) (fun xq wq hSq => ?_) ?_; rotate_left; (focus (go_simp; (first | done | with_reducible rfl | ((split; (exfalso; omega)); with_reducible rfl)))); (try simp only [Act.put, List.setIfInBounds_toArray, List.set_cons_zero, List.set_cons_succ])
            refine RM.const (v := ?_) (fun _ => rfl) (fun xq wq hSq => ?_) ?_; rotate_left; (focus (go_simp; (first | done | with_reducible rfl | ((split; (exfalso; omega)); with_reducible rfl)))); (try simp only [Act.put, List.setIfInBounds_toArray, List.set_cons_zero, List.set_cons_succ])
            refine RM.const (v := ?_) (fun _ => rfl) (fun xq wq hSq => ?_) ?_; rotate_left; (focus (go_simp; (first | done | with_reducible rfl | ((split; (exfalso; omega)); with_reducible rfl)))); (try simp only [Act.put, List.setIfInBounds_toArray, List.set_cons_zero, List.set_cons_succ])
            refine RM.const (v := ?_) (fun _ => rfl) (fun xq wq hSq => ?_) ?_; rotate_left; (focus (go_simp; (first | done | with_reducible rfl | ((split; (exfalso; omega)); with_reducible rfl)))); (try simp only [Act.put, List.setIfInBounds_toArray, List.set_cons_zero, List.set_cons_succ])
            refine RM.const (v := ?_) (fun _ => rfl) (fun xq wq hSq => ?_) ?_; rotate_left; (focus (go_simp; (first | done | with_reducible rfl | ((split; (exfalso; omega)); with_reducible rfl)))); (try simp only [Act.put, List.setIfInBounds_toArray, List.set_cons_zero, List.set_cons_succ])
            refine RM.const (v := ?_) (fun _ => rfl) (fun xq wq hSq => ?_) ?_; rotate_left; (focus (go_simp; (first | done | with_reducible rfl | ((split; (exfalso; omega)); with_reducible rfl)))); (try simp only [Act.put, List.setIfInBounds_toArray, List.set_cons_zero, List.set_cons_succ])
            refine RM.callc (v := ?_) (f := ?_) (args := ?_) (fun _ => rfl) (fun xq wq hSq => ?_) (fun wq hSq => ?_) ?_; rotate_left 3; (focus (go_simp; (refine ⟨?_, ?_⟩ <;> with_reducible rfl))); (focus (exact k0 _)); (try simp only [Act.put, List.setIfInBounds_toArray, List.set_cons_zero, List.set_cons_succ])
            refine RM.const (v := ?_) (fun _ => rfl) (fun xq wq hSq => ?_) ?_; rotate_left; (focus (go_simp; (first | done | with_reducible rfl | ((split; (exfalso; omega)); with_reducible rfl)))); (try simp only [Act.put, List.setIfInBounds_toArray, List.set_cons_zero, List.set_cons_succ])
            refine RM.const (v := ?_) (fun _ => rfl) (fun xq wq hSq => ?_) ?_; rotate_left; (focus (go_simp; (first | done | with_reducible rfl | ((split; (exfalso; omega)); with_reducible rfl)))); (try simp only [Act.put, List.setIfInBounds_toArray, List.set_cons_zero, List.set_cons_succ])
            refine RM.const (v := ?_) (fun _ => rfl) (fun xq wq hSq => ?_) ?_; rotate_left; (focus (go_simp; (first | done | with_reducible rfl | ((split; (exfalso; omega)); with_reducible rfl)))); (try simp only [Act.put, List.setIfInBounds_toArray, List.set_cons_zero, List.set_cons_succ])
            refine RM.const (v := ?_) (fun _ => rfl) (fun xq wq hSq => ?_) ?_; rotate_left; (focus (go_simp; (first | done | with_reducible rfl | ((split; (exfalso; omega)); with_reducible rfl)))); (try simp only [Act.put, List.setIfInBounds_toArray, List.set_cons_zero, List.set_cons_succ])
            refine RM.const (v := ?_) (fun _ => rfl) (fun xq wq hSq => ?_) ?_; rotate_left; (focus (go_simp; (first | done | with_reducible rfl | ((split; (exfalso; omega)); with_reducible rfl)))); (try simp only [Act.put, List.setIfInBounds_toArray, List.set_cons_zero, List.set_cons_succ])
            refine RM.const (v := ?_) (fun _ => rfl) (fun xq wq hSq => ?_) ?_; rotate_left; (focus (go_simp; (first | done | with_reducible rfl | ((split; (exfalso; omega)); with_reducible rfl)))); (try simp only [Act.put, List.setIfInBounds_toArray, List.set_cons_zero, List.set_cons_succ])
            refine RM.const (v := ?_) (fun _ => rfl) (fun xq wq hSq => ?_) ?_; rotate_left; (focus (go_simp; (first | done | with_reducible rfl | ((split; (exfalso; omega)); with_reducible rfl)))); (try simp only [Act.put, List.setIfInBounds_toArray, List.set_cons_zero, List.set_cons_succ])
            refine RM.const (v := ?_) (fun _ => rfl) (fun xq wq hSq => ?_) ?_; rotate_left; (focus (go_simp; (first | done | with_reducible rfl | ((split; (exfalso; omega)); with_reducible rfl)))); (try simp only [Act.put, List.setIfInBounds_toArray, List.set_cons_zero, List.set_cons_succ])
            refine RM.callc (v := ?_) (f := ?_) (args := ?_) (fun _ => rfl) (fun xq wq hSq => ?_) (fun wq hSq => ?_) ?_; rotate_left 3; (focus (go_simp; (refine ⟨?_, ?_⟩ <;> with_reducible rfl))); (focus (exact k1 _)); (try simp only [Act.put, List.setIfInBounds_toArray, List.set_cons_zero, List.set_cons_succ])
            refine RM.const (v := ?_) (fun _ => rfl) (fun xq wq hSq => ?_) ?_; rotate_left; (focus (go_simp; (first | done | with_reducible rfl | ((split; (exfalso; omega)); with_reducible rfl)))); (try simp only [Act.put, List.setIfInBounds_toArray, List.set_cons_zero, List.set_cons_succ])
            refine RM.const (v := ?_) (fun _ => rfl) (fun xq wq hSq => ?_) ?_; rotate_left; (focus (go_simp; (first | done | with_reducible rfl | ((split; (exfalso; omega)); with_reducible rfl)))); (try simp only [Act.put, List.setIfInBounds_toArray, List.set_cons_zero, List.set_cons_succ])
            refine RM.const (v := ?_) (fun _ => rfl) (fun xq wq hSq => ?_) ?_; rotate_left; (focus (go_simp; (first | done | with_reducible rfl | ((split; (exfalso; omega)); with_reducible rfl)))); (try simp only [Act.put, List.setIfInBounds_toArray, List.set_cons_zero, List.set_cons_succ])
            refine RM.const (v := ?_) (fun _ => rfl) (fun xq wq hSq => ?_) ?_; rotate_left; (focus (go_simp; (first | done | with_reducible rfl | ((split; (exfalso; omega)); with_reducible rfl)))); (try simp only [Act.put, List.setIfInBounds_toArray, List.set_cons_zero, List.set_cons_succ])
            refine RM.const (v := ?_) (fun _ => rfl) (fun xq wq hSq => ?_) ?_; rotate_left; (focus (go_simp; (first | done | with_reducible rfl | ((split; (exfalso; omega)); with_reducible rfl)))); (try simp only [Act.put, List.setIfInBounds_toArray, List.set_cons_zero, List.set_cons_succ])
            refine RM.const (v := ?_) (fun _ => rfl) (fun xq wq hSq => ?_) ?_; rotate_left; (focus (go_simp; (first | done | with_reducible rfl | ((split; (exfalso; omega)); with_reducible rfl)))); (try simp only [Act.put, List.setIfInBounds_toArray, List.set_cons_zero, List.set_cons_succ])
            refine RM.const (v := ?_) (fun _ => rfl) (fun xq wq hSq => ?_) ?_; rotate_left; (focus (go_simp; (first | done | with_reducible rfl | ((split; (exfalso; omega)); with_reducible rfl)))); (try simp only [Act.put, List.setIfInBounds_toArray, List.set_cons_zero, List.set_cons_succ])
            refine RM.const (v := ?_) (fun _ => rfl) (fun xq wq hSq => ?_) ?_; rotate_left; (focus (go_simp; (first | done | with_reducible rfl | ((split; (exfalso; omega)); with_reducible rfl)))); (try simp only [Act.put, List.setIfInBounds_toArray, List.set_cons_zero, List.set_cons_succ])
            refine RM.callc (v := ?_) (f := ?_) (args := ?_) (fun _ => rfl) (fun xq wq hSq => ?_) (fun wq hSq => ?_) ?_; rotate_left 3; (focus (go_simp; (refine ⟨?_, ?_⟩ <;> with_reducible rfl))); (focus (exact k2 _)); (try simp only [Act.put, List.setIfInBounds_toArray, List.set_cons_zero, List.set_cons_succ])
            refine RM.const (v := ?_) (fun _ => rfl) (fun xq wq hSq => ?_) ?_; rotate_left; (focus (go_simp; (first | done | with_reducible rfl | ((split; (exfalso; omega)); with_reducible rfl)))); (try simp only [Act.put, List.setIfInBounds_toArray, List.set_cons_zero, List.set_cons_succ])
            refine RM.done (fun xq wq hSq hUq => ?_)
            clear q0 q1 q2 q3
            go_wp2
            go_roundw
            case rel =>
              refine ⟨k + 1, t ++ ruleWord x, by omega, by go_num, ?_, ?_, hM.thenNone hSq⟩
              · simp only [ByteArray.mk_append_mk, ruleWord]
                simp [List.append_assoc]
              · have hk0 := Hk0.out
                subst hk0
                rw [hs.out, List.take_add_one, hx.out]
                simp [Lib.join_one, Lib.join_nil, Hid]
            case measure => simp [intOf]; omega
          · have hk1 : 1 ≤ k := by omega
            go_wp2
            refine wp_region_mod_tail 27 (by kernel_rfl) (by kernel_rfl) (by kernel_rfl) ?_
            simp only [List.take_succ_cons, List.take_zero, List.drop_succ_cons, List.drop_zero]
            refine RM.const (v := ?_) (fun _ => rfl) (fun xq wq hSq => ?_) ?_; rotate_left; (focus (go_simp; (first | done | with_reducible rfl | ((split; (exfalso; omega)); with_reducible rfl)))); (try simp only [Act.put, List.setIfInBounds_toArray, List.set_cons_zero, List.set_cons_succ])
            refine RM.const (v := ?_) (fun _ => rfl) (fun xq wq hSq => ?_) ?_; rotate_left; (focus (go_simp; (first | done | with_reducible rfl | ((split; (exfalso; omega)); with_reducible rfl)))); (try simp only [Act.put, List.setIfInBounds_toArray, List.set_cons_zero, List.set_cons_succ])
            refine RM.const (v := ?_) (fun _ => rfl) (fun xq wq hSq => ?_) ?_; rotate_left; (focus (go_simp; (first | done | with_reducible rfl | ((split; (exfalso; omega)); with_reducible rfl)))); (try simp only [Act.put, List.setIfInBounds_toArray, List.set_cons_zero, List.set_cons_succ])
            refine RM.const (v := ?_) (fun _ => rfl) (fun xq wq hSq => ?_) ?_; rotate_left; (focus (go_simp; (first | done | with_reducible rfl | ((split; (exfalso; omega)); with_reducible rfl)))); (try simp only [Act.put, List.setIfInBounds_toArray, List.set_cons_zero, List.set_cons_succ])
            refine RM.const (v := ?_) (fun _ => rfl) (fun xq wq hSq => ?_) ?_; rotate_left; (focus (go_simp; (first | done | with_reducible rfl | ((split; (exfalso; omega)); with_reducible rfl)))); (try simp only [Act.put, List.setIfInBounds_toArray, List.set_cons_zero, List.set_cons_succ])
            refine RM.const (v := ?_) (fun _ => rfl) (fun xq wq hSq => ?_) ?_; rotate_left; (focus (go_simp; (first | done | with_reducible rfl | ((split; (exfalso; omega)); with_reducible rfl)))); (try simp only [Act.put, List.setIfInBounds_toArray, List.set_cons_zero, List.set_cons_succ])
            refine RM.const (v := ?_) (fun _ => rfl) (fun xq wq hSq => ?_) ?_; rotate_left; (focus (go_simp; (first | done | with_reducible rfl | ((split; (exfalso; omega)); with_reducible rfl)))); (try simp only [Act.put, List.setIfInBounds_toArray, List.set_cons_zero, List.set_cons_succ])
            refine RM.callc (v := ?_) (f := ?_) (args := ?_) (fun _ => rfl) (fun xq wq hSq => ?_) (fun wq hSq => ?_) ?_; rotate_left 3; (focus (go_simp; (refine ⟨?_, ?_⟩ <;> with_reducible rfl))); (focus (exact k0 _)); (try simp only [Act.put, List.setIfInBounds_toArray, List.set_cons_zero, List.set_cons_succ])
            refine RM.const (v := ?_) (fun _ => rfl) (fun xq wq hSq => ?_) ?_; rotate_left; (focus (go_simp; (first | done | with_reducible rfl | ((split; (exfalso; omega)); with_reducible rfl)))); (try simp only [Act.put, List.setIfInBounds_toArray, List.set_cons_zero, List.set_cons_succ])
            refine RM.const (v := ?_) (fun _ => rfl) (fun xq wq hSq => ?_) ?_; rotate_left; (focus (go_simp; (first | done | with_reducible rfl | ((split; (exfalso; omega)); with_reducible rfl)))); (try simp only [Act.put, List.setIfInBounds_toArray, List.set_cons_zero, List.set_cons_succ])
            refine RM.const (v := ?_) (fun _ => rfl) (fun xq wq hSq => ?_) ?_; rotate_left; (focus (go_simp; (first | done | with_reducible rfl | ((split; (exfalso; omega)); with_reducible rfl)))); (try simp only [Act.put, List.setIfInBounds_toArray, List.set_cons_zero, List.set_cons_succ])
            refine RM.const (v := ?_) (fun _ => rfl) (fun xq wq hSq => ?_) ?_; rotate_left; (focus (go_simp; (first | done | with_reducible rfl | ((split; (exfalso; omega)); with_reducible rfl)))); (try simp only [Act.put, List.setIfInBounds_toArray, List.set_cons_zero, List.set_cons_succ])
            refine RM.const (v := ?_) (fun _ => rfl) (fun xq wq hSq => ?_) ?_; rotate_left; (focus (go_simp; (first | done | with_reducible rfl | ((split; (exfalso; omega)); with_reducible rfl)))); (try simp only [Act.put, List.setIfInBounds_toArray, List.set_cons_zero, List.set_cons_succ])
            refine RM.const (v := ?_) (fun _ => rfl) (fun xq wq hSq => ?_) ?_; rotate_left; (focus (go_simp; (first | done | with_reducible rfl | ((split; (exfalso; omega)); with_reducible rfl)))); (try simp only [Act.put, List.setIfInBounds_toArray, List.set_cons_zero, List.set_cons_succ])
            refine RM.const (v := ?_) (fun _ => rfl) (fun xq wq hSq => ?_) ?_; rotate_left; (focus (go_simp; (first | done | with_reducible rfl | ((split; (exfalso; omega)); with_reducible rfl)))); (try simp only [Act.put, List.setIfInBounds_toArray, List.set_cons_zero, List.set_cons_succ])
            refine RM.const (v := ?_) (fun _ => rfl) (fun xq wq hSq => ?_) ?_; rotate_left; (focus (go_simp; (first | done | with_reducible rfl | ((split; (exfalso; omega)); with_reducible rfl)))); (try simp only [Act.put, List.setIfInBounds_toArray, List.set_cons_zero, List.set_cons_succ])
            refine RM.callc (v := ?_) (f := ?_) (args := ?_) (fun _ => rfl) (fun xq wq hSq => ?_) (fun wq hSq => ?_) ?_; rotate_left 3; (focus (go_simp; (refine ⟨?_, ?_⟩ <;> with_reducible rfl))); (focus (exact k1 _)); (try simp only [Act.put, List.setIfInBounds_toArray, List.set_cons_zero, List.set_cons_succ])
            refine RM.const (v := ?_) (fun _ => rfl) (fun xq wq hSq => ?_) ?_; rotate_left; (focus (go_simp; (first | done | with_reducible rfl | ((split; (exfalso; omega)); with_reducible rfl)))); (try simp only [Act.put, List.setIfInBounds_toArray, List.set_cons_zero, List.set_cons_succ])
            refine RM.const (v := ?_) (fun _ => rfl) (fun xq wq hSq => ?_) ?_; rotate_left; (focus (go_simp; (first | done | with_reducible rfl | ((split; (exfalso; omega)); with_reducible rfl)))); (try simp only [Act.put, List.setIfInBounds_toArray, List.set_cons_zero, List.set_cons_succ])
            refine RM.const (v := ?_) (fun _ => rfl) (fun xq wq hSq => ?_) ?_; rotate_left; (focus (go_simp; (first | done | with_reducible rfl | ((split; (exfalso; omega)); with_reducible rfl)))); (try simp only [Act.put, List.setIfInBounds_toArray, List.set_cons_zero, List.set_cons_succ])
            refine RM.const (v := ?_) (fun _ => rfl) (fun xq wq hSq => ?_) ?_; rotate_left; (focus (go_simp; (first | done | with_reducible rfl | ((split; (exfalso; omega)); with_reducible rfl)))); (try simp only [Act.put, List.setIfInBounds_toArray, List.set_cons_zero, List.set_cons_succ])
            refine RM.const (v := ?_) (fun _ => rfl) (fun xq wq hSq => ?_) ?_; rotate_left; (focus (go_simp; (first | done | with_reducible rfl | ((split; (exfalso; omega)); with_reducible rfl)))); (try simp only [Act.put, List.setIfInBounds_toArray, List.set_cons_zero, List.set_cons_succ])
            refine RM.const (v := ?_) (fun _ => rfl) (fun xq wq hSq => ?_) ?_; rotate_left; (focus (go_simp; (first | done | with_reducible rfl | ((split; (exfalso; omega)); with_reducible rfl)))); (try simp only [Act.put, List.setIfInBounds_toArray, List.set_cons_zero, List.set_cons_succ])
            refine RM.const (v := ?_) (fun _ => rfl) (fun xq wq hSq => ?_) ?_; rotate_left; (focus (go_simp; (first | done | with_reducible rfl | ((split; (exfalso; omega)); with_reducible rfl)))); (try simp only [Act.put, List.setIfInBounds_toArray, List.set_cons_zero, List.set_cons_succ])
            refine RM.const (v := ?_) (fun _ => rfl) (fun xq wq hSq => ?_) ?_; rotate_left; (focus (go_simp; (first | done | with_reducible rfl | ((split; (exfalso; omega)); with_reducible rfl)))); (try simp only [Act.put, List.setIfInBounds_toArray, List.set_cons_zero, List.set_cons_succ])
            refine RM.callc (v := ?_) (f := ?_) (args := ?_) (fun _ => rfl) (fun xq wq hSq => ?_) (fun wq hSq => ?_) ?_; rotate_left 3; (focus (go_simp; (refine ⟨?_, ?_⟩ <;> with_reducible rfl))); (focus (exact k2 _)); (try simp only [Act.put, List.setIfInBounds_toArray, List.set_cons_zero, List.set_cons_succ])
            refine RM.const (v := ?_) (fun _ => rfl) (fun xq wq hSq => ?_) ?_; rotate_left; (focus (go_simp; (first | done | with_reducible rfl | ((split; (exfalso; omega)); with_reducible rfl)))); (try simp only [Act.put, List.setIfInBounds_toArray, List.set_cons_zero, List.set_cons_succ])
            refine RM.done (fun xq wq hSq hUq => ?_)
            clear q0 q1 q2 q3
            go_wp2
            go_roundw
            case rel =>
              refine ⟨k + 1, t ++ [44] ++ ruleWord x, by omega, by go_num, ?_, ?_, hM.thenNone hSq⟩
              · simp only [ByteArray.mk_append_mk, ruleWord]
                simp [List.append_assoc]
              · have hne : (l.take k).map ruleWord ≠ [] := by
                  intro h
                  have := congrArg List.length h
                  simp only [List.length_map, List.length_take, List.length_nil] at this
                  omega
                have := join_snoc hne (ruleWord x) [44]
                rw [List.take_add_one, hx.out, List.map_append]
                show _ = Lib.join ((l.take k).map ruleWord ++ [ruleWord x]) [44]
                rw [this, hs.out]
            case measure => simp [intOf]; omega
        · obtain rfl : k = l.length := by omega
          have hs' := hs.out
          rw [List.take_length] at hs'
          have Hs := hid hs'
          clear hs hs'
          go_wp2
          go_ret
          exact ⟨ret_string Hs.out, hM1.thenNone hM⟩

theorem ruleTail_join {w : World} {base n c : Nat} {a : Option Addr} {l : List Rule} (h : w.ownsRow base 9 1 (.slice a n c) n ((l.map ruleWord).map tcell).flatten) (hn : n = l.length) (hl : l.length ≤ 6) (hall : ∀ r ∈ l, ruleIn r = true) :
    Calls Tryz.prog 30 #[.slice a n c, .string ⟨#[44]⟩] w fun e w' => e = .returned (.string ⟨(Lib.join (l.map ruleWord) [44]).toArray⟩) ∧ Mod (fun _ => False) w w' :=
  join_own [44] h (by rw [List.length_map]; exact hn) (by rw [List.length_map]; omega) (by have := ruleJoin_length hall; omega)

set_option maxRecDepth 100000 in
set_option maxHeartbeats 4000000 in
theorem ruleText_any (l : List Rule) (a : Option Addr) (c : Nat) (R : Nat → Prop) (w : World) (hl : l.length ≤ 1048576) (h : SliceAt (Flat Rule.cells) 3 R w a l) (ht : Tab w) :
    Calls Tryz.prog 14 #[.agg #[.slice a l.length c]] w fun e w' => e = .returned (.string ⟨(ruleTextOf l).toArray⟩) ∧ Mod (fun _ => False) w w' := by
  have H := hid (h.flatKeep ((Mod.refl _ w).alloc (boxT a l.length c)))
  have Ht := hid ht
  clear h ht
  by_cases h0 : l.length = 0
  · have e : ruleTextOf l = [45] := by unfold ruleTextOf; rw [if_pos h0]
    rw [e, h0]
    clear e hl H h0
    go_enter Tryz.func14, Tryz.ntmps14
    go_wp2
    go_ret
    exact ⟨rfl, by (repeat (first | with_reducible exact Mod.refl _ _ | with_reducible refine Mod.drewN ?_ _ | with_reducible refine Mod.drew ?_ | with_reducible refine Mod.alloc ?_ _ | ((with_reducible refine Mod.setNew ?_ ?_ _ _ _); (rotate_left; omega)) | with_reducible refine Mod.setAt ?_ _ _ _ ))⟩
  · have hne : ((l.length : Int) == 0) = false := by simpa using h0
    have h1 : 1 ≤ l.length := by omega
    have hT := tableOk_any l a c _ _ hl H.out
    cases hok : tableOk l
    · have e : ruleTextOf l = [] := by unfold ruleTextOf; rw [if_neg h0, hok]; rfl
      rw [e]
      rw [hok] at hT
      clear e h0 hok
      go_enter Tryz.func14, Tryz.ntmps14
      go_wp2_with fail
      refine hT.mono ?_
      rintro e w1 ⟨rfl, hm1⟩
      clear hT
      go_wp2
      go_ret
      exact ⟨rfl, ((Mod.refl _ w).alloc _).thenNone hm1⟩
    · have e : ruleTextOf l = Lib.join (l.map ruleWord) [44] := by unfold ruleTextOf; rw [if_neg h0, hok]; rfl
      rw [e]
      rw [hok] at hT
      obtain ⟨hl6, hall⟩ := tableOk_parts hok
      have Hall := hid hall
      have hB := heap_alloc_new w (.cells [Value.slice a l.length c].toArray 26)
      obtain ⟨i0, hi, hz0, hz1, hz2⟩ := info_parts info_string
      have Hi := hid hi
      have Hz0 := hid hz0
      have Hz1 := hid hz1
      have Hz2 := hid hz2
      clear hi hz0 hz1 hz2
      clear e h0 hok hall
      go_enter Tryz.func14, Tryz.ntmps14
      go_wp2_with fail
      refine hT.mono ?_
      rintro e w1 ⟨rfl, hm1⟩
      have hM1 : Mod (fun _ => False) w w1 := ((Mod.refl _ w).alloc _).thenNone hm1
      have hB1 := hm1.blk hB (fun f => f)
      have H1 := hid (H.out.flatKeep hm1)
      have hr0 : w.heap.size < w1.heap.size := (Array.getElem?_eq_some_iff.1 hB1).1
      have Ht1 := hid (Ht.out.keep hM1)
      clear hT hB hm1 H Ht
      have sc0 := blk_cell hB1 (j := 0) rfl
      have sz0 := blk_free hB1 0
      go_wp2_with fail
      go_loopw [3, 16] (fun v i wr => ∃ (k : Nat) (a' : Option Addr) (c' : Nat), k ≤ l.length ∧ i = .int .i64 k ∧ v = .slice a' ((l.take k).map ruleWord).length c' ∧ wr.ownsRow w1.heap.size 9 1 (.slice a' ((l.take k).map ruleWord).length c') ((l.take k).map ruleWord).length (((l.take k).map ruleWord).map tcell).flatten ∧ Mod (fun _ => False) w1 wr) (fun _ i _ => l.length - (intOf i).toNat)
      case atStart => exact ⟨0, none, 0, by omega, rfl, rfl, World.ownsRow_nil _ _ _ _, Mod.refl _ _⟩
      case round =>
        obtain ⟨k, a', c', hk, rfl, rfl, hO, hM⟩ := hrel
        have hBr := hM.blk hB1 (fun f => f)
        have hr1 : w.heap.size < wr.heap.size := (Array.getElem?_eq_some_iff.1 hBr).1
        have sc0 := blk_cell hBr (j := 0) rfl
        have sz0 := blk_free hBr 0
        have hFl : ((l.take k).map ruleWord).length ≤ k := by rw [List.length_map, List.length_take]; omega
        by_cases hlt : k < l.length
        · obtain ⟨b, o, x, r, rfl, hb, hbw, hx, hr, hrl, hc⟩ := (H1.out.flatKeep hM).get hlt
          obtain rfl : r = x.cells := hr
          have c0 := hc 0 _ rfl
          have c1 := hc 1 _ rfl
          have c2 := hc 2 _ rfl
          simp only [Nat.add_zero] at c0
          obtain ⟨b0, b1, b2⟩ := ruleIn_bounds (Hall.out x (List.mem_of_getElem? hx.out))
          have Ht2 := hid (Ht1.out.keep (hM.alloc (.cells #[.int .i64 x.room, .int .i64 x.wide, .int .i64 x.high] 70)))
          have k0 := fun W hk => decimal_any x.room b0 W (Ht2.out.keep hk)
          have k1 := fun W hk => decimal_any x.wide b1 W (Ht2.out.keep hk)
          have k2 := fun W hk => decimal_any x.high b2 W (Ht2.out.keep hk)
          have l0 := Lib.itoa_length_le _ b0.1 b0.2
          have l1 := Lib.itoa_length_le _ b1.1 b1.2
          have l2 := Lib.itoa_length_le _ b2.1 b2.2
          have He : Hid ((l.take (k + 1)).map ruleWord = (l.take k).map ruleWord ++ [ruleWord x]) := by
            rw [List.take_add_one, hx.out, List.map_append]
            exact hid rfl
          have hX := heap_alloc_new wr (.cells [Value.int .i64 x.room, Value.int .i64 x.wide, Value.int .i64 x.high].toArray 70)
          have q1 := hold (blk_cell hX (j := 0) rfl)
          have q2 := hold (blk_cell hX (j := 1) rfl)
          have q3 := hold (blk_cell hX (j := 2) rfl)
          have hO' := own_mod hO ((Mod.refl (fun _ => False) wr).alloc (.cells #[.int .i64 x.room, .int .i64 x.wide, .int .i64 x.high] 70)) (fun _ _ f => f)
          generalize (l.take k).map ruleWord = F at He hFl hO hO' ⊢
          have h3 : F.length + 1 ≤ maxLen := by unfold maxLen; omega
          have h4 : (F.length + 1) * 16 ≤ 140737488355328 := by omega
          clear hc hrl b0 b1 b2 hX
          go_wp2
          clear c0 c1 c2
          refine wp_region_mod_tail 15 (by kernel_rfl) (by kernel_rfl) (by kernel_rfl) ?_
          simp only [List.take_succ_cons, List.take_zero, List.drop_succ_cons, List.drop_zero]
          refine RM.const (v := ?_) (fun _ => rfl) (fun xq wq hSq => ?_) ?_; rotate_left; (focus (go_simp; (first | done | with_reducible rfl | ((split; (exfalso; omega)); with_reducible rfl)))); (try simp only [Act.put, List.setIfInBounds_toArray, List.set_cons_zero, List.set_cons_succ])
          refine RM.const (v := ?_) (fun _ => rfl) (fun xq wq hSq => ?_) ?_; rotate_left; (focus (go_simp; (first | done | with_reducible rfl | ((split; (exfalso; omega)); with_reducible rfl)))); (try simp only [Act.put, List.setIfInBounds_toArray, List.set_cons_zero, List.set_cons_succ])
          refine RM.const (v := ?_) (fun _ => rfl) (fun xq wq hSq => ?_) ?_; rotate_left; (focus (go_simp; (first | done | with_reducible rfl | ((split; (exfalso; omega)); with_reducible rfl)))); (try simp only [Act.put, List.setIfInBounds_toArray, List.set_cons_zero, List.set_cons_succ])
          refine RM.callc (v := ?_) (f := ?_) (args := ?_) (fun _ => rfl) (fun xq wq hSq => ?_) (fun wq hSq => ?_) ?_; rotate_left 3; (focus (go_simp; (refine ⟨?_, ?_⟩ <;> with_reducible rfl))); (focus (exact k0 _ hSq)); (try simp only [Act.put, List.setIfInBounds_toArray, List.set_cons_zero, List.set_cons_succ])
          refine RM.const (v := ?_) (fun _ => rfl) (fun xq wq hSq => ?_) ?_; rotate_left; (focus (go_simp; (first | done | with_reducible rfl | ((split; (exfalso; omega)); with_reducible rfl)))); (try simp only [Act.put, List.setIfInBounds_toArray, List.set_cons_zero, List.set_cons_succ])
          refine RM.const (v := ?_) (fun _ => rfl) (fun xq wq hSq => ?_) ?_; rotate_left; (focus (go_simp; (first | done | with_reducible rfl | ((split; (exfalso; omega)); with_reducible rfl)))); (try simp only [Act.put, List.setIfInBounds_toArray, List.set_cons_zero, List.set_cons_succ])
          refine RM.const (v := ?_) (fun _ => rfl) (fun xq wq hSq => ?_) ?_; rotate_left; (focus (go_simp; (first | done | with_reducible rfl | ((split; (exfalso; omega)); with_reducible rfl)))); (try simp only [Act.put, List.setIfInBounds_toArray, List.set_cons_zero, List.set_cons_succ])
          refine RM.callc (v := ?_) (f := ?_) (args := ?_) (fun _ => rfl) (fun xq wq hSq => ?_) (fun wq hSq => ?_) ?_; rotate_left 3; (focus (go_simp; (refine ⟨?_, ?_⟩ <;> with_reducible rfl))); (focus (exact k1 _ hSq)); (try simp only [Act.put, List.setIfInBounds_toArray, List.set_cons_zero, List.set_cons_succ])
          refine RM.const (v := ?_) (fun _ => rfl) (fun xq wq hSq => ?_) ?_; rotate_left; (focus (go_simp; (first | done | with_reducible rfl | ((split; (exfalso; omega)); with_reducible rfl)))); (try simp only [Act.put, List.setIfInBounds_toArray, List.set_cons_zero, List.set_cons_succ])
          refine RM.const (v := ?_) (fun _ => rfl) (fun xq wq hSq => ?_) ?_; rotate_left; (focus (go_simp; (first | done | with_reducible rfl | ((split; (exfalso; omega)); with_reducible rfl)))); (try simp only [Act.put, List.setIfInBounds_toArray, List.set_cons_zero, List.set_cons_succ])
          refine RM.const (v := ?_) (fun _ => rfl) (fun xq wq hSq => ?_) ?_; rotate_left; (focus (go_simp; (first | done | with_reducible rfl | ((split; (exfalso; omega)); with_reducible rfl)))); (try simp only [Act.put, List.setIfInBounds_toArray, List.set_cons_zero, List.set_cons_succ])
          refine RM.const (v := ?_) (fun _ => rfl) (fun xq wq hSq => ?_) ?_; rotate_left; (focus (go_simp; (first | done | with_reducible rfl | ((split; (exfalso; omega)); with_reducible rfl)))); (try simp only [Act.put, List.setIfInBounds_toArray, List.set_cons_zero, List.set_cons_succ])
          refine RM.callc (v := ?_) (f := ?_) (args := ?_) (fun _ => rfl) (fun xq wq hSq => ?_) (fun wq hSq => ?_) ?_; rotate_left 3; (focus (go_simp; (refine ⟨?_, ?_⟩ <;> with_reducible rfl))); (focus (exact k2 _ hSq)); (try simp only [Act.put, List.setIfInBounds_toArray, List.set_cons_zero, List.set_cons_succ])
          refine RM.const (v := ?_) (fun _ => rfl) (fun xq wq hSq => ?_) ?_; rotate_left; (focus (go_simp; (first | done | with_reducible rfl | ((split; (exfalso; omega)); with_reducible rfl)))); (try simp only [Act.put, List.setIfInBounds_toArray, List.set_cons_zero, List.set_cons_succ])
          refine RM.lit (n := ?_) (vals := ?_) (e := ?_) (fun _ => rfl) (fun xq wq hSq => ?_) ?_; rotate_left 3; (focus (go_simp; (first | done | with_reducible rfl | (refine ⟨?_, ?_⟩ <;> with_reducible rfl)))); (try simp only [Act.put, List.setIfInBounds_toArray, List.set_cons_zero, List.set_cons_succ])
          refine RM.done (fun xq wq hSq hUq => ?_)
          clear q1 q2 q3 k0 k1 k2
          obtain ⟨g, hv, hg0, hg1, hcl⟩ := (hUq _ List.mem_cons_self).cells
          clear hUq
          simp only at hv
          have hO2 := own_mod hO' hSq (fun _ _ f => f)
          have hM2 : Mod (fun _ => False) w1 wq := (hM.alloc _).thenNone hSq
          have hroom : w1.heap.size ≤ wq.heap.size := hM2.size
          have hw' : ((⟨(Lib.itoa x.room).toArray⟩ : ByteArray) ++ ⟨#[58]⟩ ++ ⟨(Lib.itoa x.wide).toArray⟩ ++ ⟨#[58]⟩ ++ ⟨(Lib.itoa x.high).toArray⟩) = ⟨(ruleWord x).toArray⟩ := by
            simp only [ByteArray.mk_append_mk]
            rfl
          simp only [hv, hw'] at hcl ⊢
          clear hO hO' hSq l0 l1 l2 hw' hv hg0 hg1
          go_wp2_with (first | (at_builtin; refine wpList_append_own _ rfl _ _ 44 rfl w1.heap.size 9 i0 _ 1 16 Tryz.underlying44 Hi.out Hz0.out Hz1.out Hz2.out rfl (by decide) _ _ _ rfl hO2 ⟨g, 0, none⟩ 1 1 [.string ⟨(ruleWord x).toArray⟩] rfl rfl hcl (ones_of rfl) h3 h4 hroom ?_))
          intro v' w9 hown1 hgrow _
          obtain ⟨a1, c1', hv⟩ := own_form hown1
          rw [hv] at hown1 ⊢
          have hM3 := hM2.appendedAt hO2 (Nat.le_refl _) hgrow
          clear hv hgrow h3 h4
          go_wp2
          go_roundw
          case rel =>
            refine ⟨k + 1, a1, c1', by omega, by go_num, ?_, ?_, hM3⟩
            · rw [He.out, List.length_append]; rfl
            · rw [He.out, List.length_append, List.map_append, List.flatten_append]
              simpa [tcell] using hown1
          case measure => simp [intOf]; omega
        · obtain rfl : k = l.length := by omega
          rw [List.take_length] at hO ⊢
          have hj := ruleTail_join hO (by simp) hl6 Hall.out
          obtain ⟨T, hT⟩ : ∃ T, T = Lib.join (l.map ruleWord) [44] := ⟨_, rfl⟩
          have HT := hid hT
          rw [← hT] at hj
          have hj := hid hj
          clear hT
          generalize l.map ruleWord = F at hj hFl hO ⊢
          clear hO hFl
          go_wp2_with fail
          refine hj.out.mono ?_
          rintro e w9 ⟨rfl, hm9⟩
          clear hj
          go_wp2
          go_ret
          exact ⟨ret_string HT.out, (hM1.thenNone hM).thenNone hm9⟩

end Go.Proofs.YtkkjjhooamlljaaGreatDoor
namespace Go.Proofs.YtkkjjhooamlljaaGreatDoor
open Go.RowKit
set_option linter.unusedVariables false
set_option linter.unusedSimpArgs false

def valOk (v : Val) : Bool := if v.kind = 0 ∨ v.kind = 3 then decide (v.n = 0) else if v.kind = 1 then inB v.n (-1048576) 1048576 else if v.kind = 2 then inB v.n (-1000) 1000 else false
def sizeOk (v : Val) : Bool := valOk v && decide (0 ≤ v.n)
set_option maxRecDepth 100000 in
set_option maxHeartbeats 4000000 in
theorem valueOk_any (v : Val) (w : World) : Calls Tryz.prog 43 #[.agg #[.int .i64 v.kind, .int .i64 v.n]] w fun e w' => e = .returned (.bool (valOk v)) ∧ Mod (fun _ => False) w w' := by
  refine calls_sx Tryz.func43 rfl rfl (fun a h1 h2 h3 => ((Fr.nil h1 h2).arg (h3 0 _ rfl))) ?_
  by_cases k0 : v.kind = 0
  · have hv : valOk v = decide (v.n = 0) := if_pos (.inl k0)
    repeat (first | refine qap ?_ | refine qak ?_ | refine qaf ?_ | refine qab ?_ | refine SX.block ?_ | refine qaE ?_ | refine qao rfl ?_ | (refine qaF ?_; (refine qaa (qat 0 rfl rfl rfl) rfl ?_ ?_ ?_); rfl; rfl) | (refine qam ?_; (refine qaa (qag rfl) rfl ?_ ?_ ?_); rfl; rfl) | (refine qai ?_; (refine qaa (qae rfl) rfl ?_ ?_ ?_); rfl; rfl) | (refine qaK ?_; (first | refine qaa (qaI rfl rfl (by omega)) rfl ?_ ?_ ?_ | refine qaa (OpW.eql rfl rfl) rfl ?_ ?_ ?_); rfl; rfl) | (refine l_box ?_; refine qaV ?_ ?_ rfl rfl (fun g => ?_); rfl; rfl) | refine qav ?_ | refine qan ?_ | refine qaw ?_)
    refine qaC rfl rfl (fun w' hl => ⟨ret_bool hv.symm, hl.mod⟩)
  · by_cases k3 : v.kind = 3
    · have hv : valOk v = decide (v.n = 0) := if_pos (.inr k3)
      repeat (first | refine qap ?_ | refine qak ?_ | refine qaf ?_ | refine qab ?_ | refine SX.block ?_ | refine qao rfl ?_ | refine qas rfl ?_ | (refine qaF ?_; (refine qaa (qat 0 rfl rfl rfl) rfl ?_ ?_ ?_); rfl; rfl) | (refine qam ?_; (refine qaa (qag rfl) rfl ?_ ?_ ?_); rfl; rfl) | (refine qai ?_; (refine qaa (qae rfl) rfl ?_ ?_ ?_); rfl; rfl) | (refine qaK ?_; (first | refine qaa (qaI rfl rfl (by omega)) rfl ?_ ?_ ?_ | refine qaa (qaH rfl rfl (by omega)) rfl ?_ ?_ ?_ | refine qaa (OpW.eql rfl rfl) rfl ?_ ?_ ?_); rfl; rfl) | (refine l_box ?_; refine qaV ?_ ?_ rfl rfl (fun g => ?_); rfl; rfl) | refine qav ?_ | refine qan ?_ | refine qaw ?_)
      refine qaC rfl rfl (fun w' hl => ⟨ret_bool hv.symm, hl.mod⟩)
    · by_cases k1 : v.kind = 1
      · have hv : valOk v = inB v.n (-1048576) 1048576 := (if_neg (by omega)).trans (if_pos k1)
        repeat (first | refine qap ?_ | refine qak ?_ | refine qaf ?_ | refine qab ?_ | refine SX.block ?_ | refine qao rfl ?_ | refine qas rfl ?_ | (refine qaA ?_; (refine qaa (OpW.calls rfl (fun w _ => in_any _ _ _ _)) rfl ?_ ?_ ?_); rfl; rfl) | (refine qaF ?_; (refine qaa (qat 0 rfl rfl rfl) rfl ?_ ?_ ?_); rfl; rfl) | (refine qam ?_; (refine qaa (qag rfl) rfl ?_ ?_ ?_); rfl; rfl) | (refine qai ?_; (refine qaa (qae rfl) rfl ?_ ?_ ?_); rfl; rfl) | (refine qaK ?_; (first | refine qaa (qaI rfl rfl (by omega)) rfl ?_ ?_ ?_ | refine qaa (qaH rfl rfl (by omega)) rfl ?_ ?_ ?_); rfl; rfl) | (refine l_box ?_; refine qaV ?_ ?_ rfl rfl (fun g => ?_); rfl; rfl) | refine qav ?_ | refine qan ?_ | refine qaw ?_)
        refine qaC rfl rfl (fun w' hl => ⟨ret_bool hv.symm, hl.mod⟩)
      · by_cases k2 : v.kind = 2
        · have hv : valOk v = inB v.n (-1000) 1000 := (if_neg (by omega)).trans ((if_neg k1).trans (if_pos k2))
          repeat (first | refine qap ?_ | refine qak ?_ | refine qaf ?_ | refine qab ?_ | refine SX.block ?_ | refine qao rfl ?_ | refine qas rfl ?_ | (refine qaA ?_; (refine qaa (OpW.calls rfl (fun w _ => in_any _ _ _ _)) rfl ?_ ?_ ?_); rfl; rfl) | (refine qaF ?_; (refine qaa (qat 0 rfl rfl rfl) rfl ?_ ?_ ?_); rfl; rfl) | (refine qam ?_; (refine qaa (qag rfl) rfl ?_ ?_ ?_); rfl; rfl) | (refine qai ?_; (refine qaa (qae rfl) rfl ?_ ?_ ?_); rfl; rfl) | (refine qaK ?_; (first | refine qaa (qaI rfl rfl (by omega)) rfl ?_ ?_ ?_ | refine qaa (qaH rfl rfl (by omega)) rfl ?_ ?_ ?_); rfl; rfl) | (refine l_box ?_; refine qaV ?_ ?_ rfl rfl (fun g => ?_); rfl; rfl) | refine qav ?_ | refine qan ?_ | refine qaw ?_)
          refine qaC rfl rfl (fun w' hl => ⟨ret_bool hv.symm, hl.mod⟩)
        · have hv : valOk v = false := (if_neg (by omega)).trans ((if_neg k1).trans (if_neg k2))
          repeat (first | refine qap ?_ | refine qak ?_ | refine qaf ?_ | refine qab ?_ | refine SX.block ?_ | refine qaE ?_ | refine qas rfl ?_ | (refine qaF ?_; (refine qaa (qat 0 rfl rfl rfl) rfl ?_ ?_ ?_); rfl; rfl) | (refine qam ?_; (refine qaa (qag rfl) rfl ?_ ?_ ?_); rfl; rfl) | (refine qai ?_; (refine qaa (qae rfl) rfl ?_ ?_ ?_); rfl; rfl) | (refine qaK ?_; (refine qaa (qaH rfl rfl (by omega)) rfl ?_ ?_ ?_); rfl; rfl) | (refine l_box ?_; refine qaV ?_ ?_ rfl rfl (fun g => ?_); rfl; rfl) | refine qav ?_ | refine qar ?_)
          refine qaC rfl rfl (fun w' hl => ⟨ret_bool hv.symm, hl.mod⟩)

set_option maxRecDepth 100000 in
set_option maxHeartbeats 4000000 in
theorem svalueOk_any (v : Val) (w : World) : Calls Tryz.prog 64 #[.agg #[.int .i64 v.kind, .int .i64 v.n]] w fun e w' => e = .returned (.bool (valOk v)) ∧ Mod (fun _ => False) w w' := by
  refine calls_sx Tryz.func64 rfl rfl (fun a h1 h2 h3 => ((Fr.nil h1 h2).arg (h3 0 _ rfl))) ?_
  by_cases k0 : v.kind = 0
  · have hv : valOk v = decide (v.n = 0) := if_pos (.inl k0)
    repeat (first | refine qap ?_ | refine qak ?_ | refine qaf ?_ | refine qab ?_ | refine SX.block ?_ | refine qaE ?_ | refine qao rfl ?_ | (refine qaF ?_; (refine qaa (qat 0 rfl rfl rfl) rfl ?_ ?_ ?_); rfl; rfl) | (refine qam ?_; (refine qaa (qag rfl) rfl ?_ ?_ ?_); rfl; rfl) | (refine qai ?_; (refine qaa (qae rfl) rfl ?_ ?_ ?_); rfl; rfl) | (refine qaK ?_; (first | refine qaa (qaI rfl rfl (by omega)) rfl ?_ ?_ ?_ | refine qaa (OpW.eql rfl rfl) rfl ?_ ?_ ?_); rfl; rfl) | (refine l_box ?_; refine qaV ?_ ?_ rfl rfl (fun g => ?_); rfl; rfl) | refine qav ?_ | refine qan ?_ | refine qaw ?_)
    refine qaC rfl rfl (fun w' hl => ⟨ret_bool hv.symm, hl.mod⟩)
  · by_cases k3 : v.kind = 3
    · have hv : valOk v = decide (v.n = 0) := if_pos (.inr k3)
      repeat (first | refine qap ?_ | refine qak ?_ | refine qaf ?_ | refine qab ?_ | refine SX.block ?_ | refine qao rfl ?_ | refine qas rfl ?_ | (refine qaF ?_; (refine qaa (qat 0 rfl rfl rfl) rfl ?_ ?_ ?_); rfl; rfl) | (refine qam ?_; (refine qaa (qag rfl) rfl ?_ ?_ ?_); rfl; rfl) | (refine qai ?_; (refine qaa (qae rfl) rfl ?_ ?_ ?_); rfl; rfl) | (refine qaK ?_; (first | refine qaa (qaI rfl rfl (by omega)) rfl ?_ ?_ ?_ | refine qaa (qaH rfl rfl (by omega)) rfl ?_ ?_ ?_ | refine qaa (OpW.eql rfl rfl) rfl ?_ ?_ ?_); rfl; rfl) | (refine l_box ?_; refine qaV ?_ ?_ rfl rfl (fun g => ?_); rfl; rfl) | refine qav ?_ | refine qan ?_ | refine qaw ?_)
      refine qaC rfl rfl (fun w' hl => ⟨ret_bool hv.symm, hl.mod⟩)
    · by_cases k1 : v.kind = 1
      · have hv : valOk v = inB v.n (-1048576) 1048576 := (if_neg (by omega)).trans (if_pos k1)
        repeat (first | refine qap ?_ | refine qak ?_ | refine qaf ?_ | refine qab ?_ | refine SX.block ?_ | refine qao rfl ?_ | refine qas rfl ?_ | (refine qaA ?_; (refine qaa (OpW.calls rfl (fun w _ => l01In_any _ _ _ _)) rfl ?_ ?_ ?_); rfl; rfl) | (refine qaF ?_; (refine qaa (qat 0 rfl rfl rfl) rfl ?_ ?_ ?_); rfl; rfl) | (refine qam ?_; (refine qaa (qag rfl) rfl ?_ ?_ ?_); rfl; rfl) | (refine qai ?_; (refine qaa (qae rfl) rfl ?_ ?_ ?_); rfl; rfl) | (refine qaK ?_; (first | refine qaa (qaI rfl rfl (by omega)) rfl ?_ ?_ ?_ | refine qaa (qaH rfl rfl (by omega)) rfl ?_ ?_ ?_); rfl; rfl) | (refine l_box ?_; refine qaV ?_ ?_ rfl rfl (fun g => ?_); rfl; rfl) | refine qav ?_ | refine qan ?_ | refine qaw ?_)
        refine qaC rfl rfl (fun w' hl => ⟨ret_bool hv.symm, hl.mod⟩)
      · by_cases k2 : v.kind = 2
        · have hv : valOk v = inB v.n (-1000) 1000 := (if_neg (by omega)).trans ((if_neg k1).trans (if_pos k2))
          repeat (first | refine qap ?_ | refine qak ?_ | refine qaf ?_ | refine qab ?_ | refine SX.block ?_ | refine qao rfl ?_ | refine qas rfl ?_ | (refine qaA ?_; (refine qaa (OpW.calls rfl (fun w _ => l01In_any _ _ _ _)) rfl ?_ ?_ ?_); rfl; rfl) | (refine qaF ?_; (refine qaa (qat 0 rfl rfl rfl) rfl ?_ ?_ ?_); rfl; rfl) | (refine qam ?_; (refine qaa (qag rfl) rfl ?_ ?_ ?_); rfl; rfl) | (refine qai ?_; (refine qaa (qae rfl) rfl ?_ ?_ ?_); rfl; rfl) | (refine qaK ?_; (first | refine qaa (qaI rfl rfl (by omega)) rfl ?_ ?_ ?_ | refine qaa (qaH rfl rfl (by omega)) rfl ?_ ?_ ?_); rfl; rfl) | (refine l_box ?_; refine qaV ?_ ?_ rfl rfl (fun g => ?_); rfl; rfl) | refine qav ?_ | refine qan ?_ | refine qaw ?_)
          refine qaC rfl rfl (fun w' hl => ⟨ret_bool hv.symm, hl.mod⟩)
        · have hv : valOk v = false := (if_neg (by omega)).trans ((if_neg k1).trans (if_neg k2))
          repeat (first | refine qap ?_ | refine qak ?_ | refine qaf ?_ | refine qab ?_ | refine SX.block ?_ | refine qaE ?_ | refine qas rfl ?_ | (refine qaF ?_; (refine qaa (qat 0 rfl rfl rfl) rfl ?_ ?_ ?_); rfl; rfl) | (refine qam ?_; (refine qaa (qag rfl) rfl ?_ ?_ ?_); rfl; rfl) | (refine qai ?_; (refine qaa (qae rfl) rfl ?_ ?_ ?_); rfl; rfl) | (refine qaK ?_; (refine qaa (qaH rfl rfl (by omega)) rfl ?_ ?_ ?_); rfl; rfl) | (refine l_box ?_; refine qaV ?_ ?_ rfl rfl (fun g => ?_); rfl; rfl) | refine qav ?_ | refine qar ?_)
          refine qaC rfl rfl (fun w' hl => ⟨ret_bool hv.symm, hl.mod⟩)


end Go.Proofs.YtkkjjhooamlljaaGreatDoor
namespace Go.Proofs.YtkkjjhooamlljaaGreatDoor
open Go.RowKit

theorem Style.len (s : Style) : s.cells.length = 60 := rfl
@[go_sem] theorem Style.set54 (s : Style) (v : Int) : s.cells.set 54 (.int .i64 v) = Style.cells { s with border := { s.border with left := v } } := rfl
@[go_sem] theorem Style.set55 (s : Style) (v : Int) : s.cells.set 55 (.int .i64 v) = Style.cells { s with border := { s.border with top := v } } := rfl
@[go_sem] theorem Style.set56 (s : Style) (v : Int) : s.cells.set 56 (.int .i64 v) = Style.cells { s with border := { s.border with right := v } } := rfl
@[go_sem] theorem Style.set57 (s : Style) (v : Int) : s.cells.set 57 (.int .i64 v) = Style.cells { s with border := { s.border with bottom := v } } := rfl
@[go_sem] theorem Style.set58 (s : Style) (v : Int) : s.cells.set 58 (.int .i64 v) = Style.cells { s with rowGap := v } := rfl
@[go_sem] theorem Style.set59 (s : Style) (v : Int) : s.cells.set 59 (.int .i64 v) = Style.cells { s with colGap := v } := rfl
end Go.Proofs.YtkkjjhooamlljaaGreatDoor
namespace Go.Proofs.YtkkjjhooamlljaaGreatDoor
open Go.RowKit

end Go.Proofs.YtkkjjhooamlljaaGreatDoor
namespace Go.Proofs.YtkkjjhooamlljaaGreatDoor
open Go.RowKit
set_option linter.unusedVariables false
set_option linter.unusedSimpArgs false

end Go.Proofs.YtkkjjhooamlljaaGreatDoor
namespace Go.Proofs.YtkkjjhooamlljaaGreatDoor
open Go.RowKit

def valText (v : Val) : List UInt8 := if valOk v then (if v.kind = 1 then Lib.itoa v.n else if v.kind = 2 then Lib.itoa v.n ++ [37] else if v.kind = 3 then [97, 117, 116, 111] else [110, 111, 110, 101]) else [63]
theorem valText_short (v : Val) (hb : I64 v.n) : (valText v).length ≤ 24 := by
  have h := Lib.itoa_length_le v.n hb.1 hb.2
  unfold valText
  split
  · split
    · omega
    · split
      · rw [List.length_append, List.length_singleton]; omega
      · split <;> simp
  · simp
set_option maxRecDepth 100000 in
set_option maxHeartbeats 4000000 in
theorem valueText_any (v : Val) (hb : I64 v.n) (w : World) (ht : Tab w) : Calls Tryz.prog 44 #[.agg v.cells.toArray] w fun e w' => e = .returned (.string ⟨(valText v).toArray⟩) ∧ Mod (fun _ => False) w w' := by
  refine calls_sx Tryz.func44 rfl rfl (fun a h1 h2 h3 => ((Fr.nil h1 h2).arg (h3 0 _ rfl))) ?_
  have hlen := Lib.itoa_length_le v.n hb.1 hb.2
  have hd := fun w h => decimal_any v.n hb w h
  cases hv : valOk v
  · have e : valText v = [63] := by simp [valText, hv]
    rw [e]
    repeat (first | refine qap ?_ | refine qak ?_ | refine qaf ?_ | refine qab ?_ | refine qao rfl ?_ | (refine qaA ?_; (refine qaa (qal rfl (fun w hl => valueOk_any v _)) rfl ?_ ?_ ?_); rfl; rfl) | (refine qaF ?_; (refine qaa (qaq 0 rfl rfl rfl) rfl ?_ ?_ ?_); rfl; rfl) | (refine qai ?_; (refine qaa (qae rfl) rfl ?_ ?_ ?_); rfl; rfl) | (refine l_not ?_; (refine qaa (OpW.not rfl) rfl ?_ ?_ ?_); rfl; rfl) | (refine l_box ?_; refine qaV ?_ ?_ rfl rfl (fun g => ?_); rfl; rfl) | (rw [hv]) | refine qav ?_ | refine qan ?_)
    refine qaC rfl rfl (fun w' hl => ⟨rfl, hl.mod⟩)
  by_cases k1 : v.kind = 1
  · have e : valText v = Lib.itoa v.n := by simp [valText, hv, k1]
    rw [e]
    repeat (first | refine qap ?_ | refine qak ?_ | refine qaf ?_ | refine qab ?_ | refine SX.block ?_ | refine qaE ?_ | refine qao rfl ?_ | refine qas rfl ?_ | (refine qaA ?_; (first | refine qaa (qal rfl (fun w hl => valueOk_any v _)) rfl ?_ ?_ ?_ | refine qaa (qal rfl (fun w hl => hd _ (ht.keep hl.mod))) rfl ?_ ?_ ?_); rfl; rfl) | (refine qaF ?_; (first | refine qaa (qat 0 rfl rfl rfl) rfl ?_ ?_ ?_ | refine qaa (qaq 0 rfl rfl rfl) rfl ?_ ?_ ?_); rfl; rfl) | (refine qam ?_; (refine qaa (qag rfl) rfl ?_ ?_ ?_); rfl; rfl) | (refine qai ?_; (refine qaa (qae rfl) rfl ?_ ?_ ?_); rfl; rfl) | (refine qaK ?_; (refine qaa (qaI rfl rfl (by omega)) rfl ?_ ?_ ?_); rfl; rfl) | (refine l_not ?_; (refine qaa (OpW.not rfl) rfl ?_ ?_ ?_); rfl; rfl) | (refine l_box ?_; refine qaV ?_ ?_ rfl rfl (fun g => ?_); rfl; rfl) | (rw [hv]) | refine qav ?_ | refine qan ?_ | refine qaw ?_)
    refine qaC rfl rfl (fun w' hl => ⟨rfl, hl.mod⟩)
  by_cases k2 : v.kind = 2
  · have e : valText v = Lib.itoa v.n ++ [37] := by simp [valText, hv, k2]
    rw [e]
    repeat (first | refine qap ?_ | refine qak ?_ | refine qaf ?_ | refine qab ?_ | refine SX.block ?_ | refine qaE ?_ | refine qao rfl ?_ | refine qas rfl ?_ | (refine qaA ?_; (first | refine qaa (qal rfl (fun w hl => valueOk_any v _)) rfl ?_ ?_ ?_ | refine qaa (qal rfl (fun w hl => hd _ (ht.keep hl.mod))) rfl ?_ ?_ ?_); rfl; rfl) | (refine l_add ?_; (refine qaa ((OpW.cat (b := [37]) rfl rfl (by simp; omega))) rfl ?_ ?_ ?_); rfl; rfl) | (refine qaF ?_; (first | refine qaa (qat 0 rfl rfl rfl) rfl ?_ ?_ ?_ | refine qaa (qaq 0 rfl rfl rfl) rfl ?_ ?_ ?_); rfl; rfl) | (refine qam ?_; (refine qaa (qag rfl) rfl ?_ ?_ ?_); rfl; rfl) | (refine qai ?_; (refine qaa (qae rfl) rfl ?_ ?_ ?_); rfl; rfl) | (refine qaK ?_; (first | refine qaa (qaI rfl rfl (by omega)) rfl ?_ ?_ ?_ | refine qaa (qaH rfl rfl (by omega)) rfl ?_ ?_ ?_); rfl; rfl) | (refine l_not ?_; (refine qaa (OpW.not rfl) rfl ?_ ?_ ?_); rfl; rfl) | (refine l_box ?_; refine qaV ?_ ?_ rfl rfl (fun g => ?_); rfl; rfl) | (rw [hv]) | refine qav ?_ | refine qan ?_ | refine qaw ?_)
    refine qaC rfl rfl (fun w' hl => ⟨rfl, hl.mod⟩)
  by_cases k3 : v.kind = 3
  · have e : valText v = [97, 117, 116, 111] := by simp [valText, hv, k3]
    rw [e]
    repeat (first | refine qap ?_ | refine qak ?_ | refine qaf ?_ | refine qab ?_ | refine SX.block ?_ | refine qaE ?_ | refine qao rfl ?_ | refine qas rfl ?_ | (refine qaA ?_; (refine qaa (qal rfl (fun w hl => valueOk_any v _)) rfl ?_ ?_ ?_); rfl; rfl) | (refine qaF ?_; (first | refine qaa (qat 0 rfl rfl rfl) rfl ?_ ?_ ?_ | refine qaa (qaq 0 rfl rfl rfl) rfl ?_ ?_ ?_); rfl; rfl) | (refine qam ?_; (refine qaa (qag rfl) rfl ?_ ?_ ?_); rfl; rfl) | (refine qai ?_; (refine qaa (qae rfl) rfl ?_ ?_ ?_); rfl; rfl) | (refine qaK ?_; (first | refine qaa (qaI rfl rfl (by omega)) rfl ?_ ?_ ?_ | refine qaa (qaH rfl rfl (by omega)) rfl ?_ ?_ ?_); rfl; rfl) | (refine l_not ?_; (refine qaa (OpW.not rfl) rfl ?_ ?_ ?_); rfl; rfl) | (refine l_box ?_; refine qaV ?_ ?_ rfl rfl (fun g => ?_); rfl; rfl) | (rw [hv]) | refine qav ?_ | refine qan ?_ | refine qaw ?_)
    refine qaC rfl rfl (fun w' hl => ⟨rfl, hl.mod⟩)
  · have e : valText v = [110, 111, 110, 101] := by simp [valText, hv, k1, k2, k3]
    rw [e]
    repeat (first | refine qap ?_ | refine qak ?_ | refine qaf ?_ | refine qab ?_ | refine SX.block ?_ | refine qaE ?_ | refine qas rfl ?_ | (refine qaA ?_; (refine qaa (qal rfl (fun w hl => valueOk_any v _)) rfl ?_ ?_ ?_); rfl; rfl) | (refine qaF ?_; (first | refine qaa (qat 0 rfl rfl rfl) rfl ?_ ?_ ?_ | refine qaa (qaq 0 rfl rfl rfl) rfl ?_ ?_ ?_); rfl; rfl) | (refine qam ?_; (refine qaa (qag rfl) rfl ?_ ?_ ?_); rfl; rfl) | (refine qai ?_; (refine qaa (qae rfl) rfl ?_ ?_ ?_); rfl; rfl) | (refine qaK ?_; (refine qaa (qaH rfl rfl (by omega)) rfl ?_ ?_ ?_); rfl; rfl) | (refine l_not ?_; (refine qaa (OpW.not rfl) rfl ?_ ?_ ?_); rfl; rfl) | (refine l_box ?_; refine qaV ?_ ?_ rfl rfl (fun g => ?_); rfl; rfl) | (rw [hv]) | refine qav ?_ | refine qar ?_)
    refine qaC rfl rfl (fun w' hl => ⟨rfl, hl.mod⟩)
set_option maxRecDepth 100000 in
set_option maxHeartbeats 4000000 in
theorem svalueText_any (v : Val) (hb : I64 v.n) (w : World) : Calls Tryz.prog 65 #[.agg v.cells.toArray] w fun e w' => e = .returned (.string ⟨(valText v).toArray⟩) ∧ Mod (fun _ => False) w w' := by
  refine calls_sx Tryz.func65 rfl rfl (fun a h1 h2 h3 => ((Fr.nil h1 h2).arg (h3 0 _ rfl))) ?_
  have hlen := Lib.itoa_length_le v.n hb.1 hb.2
  have hd := fun w => sdecimal_any v.n hb.1 hb.2 w
  cases hv : valOk v
  · have e : valText v = [63] := by simp [valText, hv]
    rw [e]
    repeat (first | refine qap ?_ | refine qak ?_ | refine qaf ?_ | refine qab ?_ | refine qao rfl ?_ | (refine qaA ?_; (refine qaa (qal rfl (fun w hl => svalueOk_any v _)) rfl ?_ ?_ ?_); rfl; rfl) | (refine qaF ?_; (refine qaa (qaq 0 rfl rfl rfl) rfl ?_ ?_ ?_); rfl; rfl) | (refine qai ?_; (refine qaa (qae rfl) rfl ?_ ?_ ?_); rfl; rfl) | (refine l_not ?_; (refine qaa (OpW.not rfl) rfl ?_ ?_ ?_); rfl; rfl) | (refine l_box ?_; refine qaV ?_ ?_ rfl rfl (fun g => ?_); rfl; rfl) | (rw [hv]) | refine qav ?_ | refine qan ?_)
    refine qaC rfl rfl (fun w' hl => ⟨rfl, hl.mod⟩)
  by_cases k1 : v.kind = 1
  · have e : valText v = Lib.itoa v.n := by simp [valText, hv, k1]
    rw [e]
    repeat (first | refine qap ?_ | refine qak ?_ | refine qaf ?_ | refine qab ?_ | refine SX.block ?_ | refine qaE ?_ | refine qao rfl ?_ | refine qas rfl ?_ | (refine qaA ?_; (first | refine qaa (qal rfl (fun w hl => svalueOk_any v _)) rfl ?_ ?_ ?_ | refine qaa (qal rfl (fun w hl => hd _)) rfl ?_ ?_ ?_); rfl; rfl) | (refine qaF ?_; (first | refine qaa (qat 0 rfl rfl rfl) rfl ?_ ?_ ?_ | refine qaa (qaq 0 rfl rfl rfl) rfl ?_ ?_ ?_); rfl; rfl) | (refine qam ?_; (refine qaa (qag rfl) rfl ?_ ?_ ?_); rfl; rfl) | (refine qai ?_; (refine qaa (qae rfl) rfl ?_ ?_ ?_); rfl; rfl) | (refine qaK ?_; (refine qaa (qaI rfl rfl (by omega)) rfl ?_ ?_ ?_); rfl; rfl) | (refine l_not ?_; (refine qaa (OpW.not rfl) rfl ?_ ?_ ?_); rfl; rfl) | (refine l_box ?_; refine qaV ?_ ?_ rfl rfl (fun g => ?_); rfl; rfl) | (rw [hv]) | refine qav ?_ | refine qan ?_ | refine qaw ?_)
    refine qaC rfl rfl (fun w' hl => ⟨rfl, hl.mod⟩)
  by_cases k2 : v.kind = 2
  · have e : valText v = Lib.itoa v.n ++ [37] := by simp [valText, hv, k2]
    rw [e]
    repeat (first | refine qap ?_ | refine qak ?_ | refine qaf ?_ | refine qab ?_ | refine SX.block ?_ | refine qaE ?_ | refine qao rfl ?_ | refine qas rfl ?_ | (refine qaA ?_; (first | refine qaa (qal rfl (fun w hl => svalueOk_any v _)) rfl ?_ ?_ ?_ | refine qaa (qal rfl (fun w hl => hd _)) rfl ?_ ?_ ?_); rfl; rfl) | (refine l_add ?_; (refine qaa ((OpW.cat (b := [37]) rfl rfl (by simp; omega))) rfl ?_ ?_ ?_); rfl; rfl) | (refine qaF ?_; (first | refine qaa (qat 0 rfl rfl rfl) rfl ?_ ?_ ?_ | refine qaa (qaq 0 rfl rfl rfl) rfl ?_ ?_ ?_); rfl; rfl) | (refine qam ?_; (refine qaa (qag rfl) rfl ?_ ?_ ?_); rfl; rfl) | (refine qai ?_; (refine qaa (qae rfl) rfl ?_ ?_ ?_); rfl; rfl) | (refine qaK ?_; (first | refine qaa (qaI rfl rfl (by omega)) rfl ?_ ?_ ?_ | refine qaa (qaH rfl rfl (by omega)) rfl ?_ ?_ ?_); rfl; rfl) | (refine l_not ?_; (refine qaa (OpW.not rfl) rfl ?_ ?_ ?_); rfl; rfl) | (refine l_box ?_; refine qaV ?_ ?_ rfl rfl (fun g => ?_); rfl; rfl) | (rw [hv]) | refine qav ?_ | refine qan ?_ | refine qaw ?_)
    refine qaC rfl rfl (fun w' hl => ⟨rfl, hl.mod⟩)
  by_cases k3 : v.kind = 3
  · have e : valText v = [97, 117, 116, 111] := by simp [valText, hv, k3]
    rw [e]
    repeat (first | refine qap ?_ | refine qak ?_ | refine qaf ?_ | refine qab ?_ | refine SX.block ?_ | refine qaE ?_ | refine qao rfl ?_ | refine qas rfl ?_ | (refine qaA ?_; (refine qaa (qal rfl (fun w hl => svalueOk_any v _)) rfl ?_ ?_ ?_); rfl; rfl) | (refine qaF ?_; (first | refine qaa (qat 0 rfl rfl rfl) rfl ?_ ?_ ?_ | refine qaa (qaq 0 rfl rfl rfl) rfl ?_ ?_ ?_); rfl; rfl) | (refine qam ?_; (refine qaa (qag rfl) rfl ?_ ?_ ?_); rfl; rfl) | (refine qai ?_; (refine qaa (qae rfl) rfl ?_ ?_ ?_); rfl; rfl) | (refine qaK ?_; (first | refine qaa (qaI rfl rfl (by omega)) rfl ?_ ?_ ?_ | refine qaa (qaH rfl rfl (by omega)) rfl ?_ ?_ ?_); rfl; rfl) | (refine l_not ?_; (refine qaa (OpW.not rfl) rfl ?_ ?_ ?_); rfl; rfl) | (refine l_box ?_; refine qaV ?_ ?_ rfl rfl (fun g => ?_); rfl; rfl) | (rw [hv]) | refine qav ?_ | refine qan ?_ | refine qaw ?_)
    refine qaC rfl rfl (fun w' hl => ⟨rfl, hl.mod⟩)
  · have e : valText v = [110, 111, 110, 101] := by simp [valText, hv, k1, k2, k3]
    rw [e]
    repeat (first | refine qap ?_ | refine qak ?_ | refine qaf ?_ | refine qab ?_ | refine SX.block ?_ | refine qaE ?_ | refine qas rfl ?_ | (refine qaA ?_; (refine qaa (qal rfl (fun w hl => svalueOk_any v _)) rfl ?_ ?_ ?_); rfl; rfl) | (refine qaF ?_; (first | refine qaa (qat 0 rfl rfl rfl) rfl ?_ ?_ ?_ | refine qaa (qaq 0 rfl rfl rfl) rfl ?_ ?_ ?_); rfl; rfl) | (refine qam ?_; (refine qaa (qag rfl) rfl ?_ ?_ ?_); rfl; rfl) | (refine qai ?_; (refine qaa (qae rfl) rfl ?_ ?_ ?_); rfl; rfl) | (refine qaK ?_; (refine qaa (qaH rfl rfl (by omega)) rfl ?_ ?_ ?_); rfl; rfl) | (refine l_not ?_; (refine qaa (OpW.not rfl) rfl ?_ ?_ ?_); rfl; rfl) | (refine l_box ?_; refine qaV ?_ ?_ rfl rfl (fun g => ?_); rfl; rfl) | (rw [hv]) | refine qav ?_ | refine qar ?_)
    refine qaC rfl rfl (fun w' hl => ⟨rfl, hl.mod⟩)

end Go.Proofs.YtkkjjhooamlljaaGreatDoor
namespace Go.Proofs.YtkkjjhooamlljaaGreatDoor
open Go.RowKit

/-- Block g holds the i-th of the contents or a later one. -/
def From (g T : Nat) (cs : List (List Value)) (i : Nat) (w : World) : Prop := ∃ j c, i ≤ j ∧ cs[j]? = some c ∧ w.heap[g]? = some (.cells c.toArray T (0, 0))
/-- Only block g may turn, from one of the contents to a later one. -/
def TC2 (g T : Nat) (cs : List (List Value)) (w w' : World) : Prop := Mod (fun k => k = g ∧ ∀ i, From g T cs i w → From g T cs i w') w w'
def FV (g T : Nat) (cs : List (List Value)) (i : Nat) (_ : Nat → Value) (w : World) (_ : Value) : Prop := From g T cs i w
section
variable {P : Program} {n : Nat} {W : World} {R : Rg W} {L : List Blk} {O : List Own} {E : List Res} {w w' : World} {g T : Nat} {cs : List (List Value)}
theorem From.keepF {i : Nat} (h : From g T cs i w) (hm : Mod (fun _ => False) w w') : From g T cs i w' := by
  obtain ⟨j, c, h1, h2, h3⟩ := h
  exact ⟨j, c, h1, h2, hm.blk h3 (fun f => f)⟩
theorem From.keep {i : Nat} (h : From g T cs i w) (hm : TC2 g T cs w w') : From g T cs i w' := by
  by_cases hs : g = g ∧ ∀ i, From g T cs i w → From g T cs i w'
  · exact hs.2 i h
  · obtain ⟨j, c, h1, h2, h3⟩ := h
    exact ⟨j, c, h1, h2, by rw [hm.block _ (Array.getElem?_eq_some_iff.1 h3).1 hs]; exact h3⟩
structure SXc (P : Program) (n : Nat) (W : World) (R : Rg W) (ops : Array Oper) (L : List Blk) (O : List Own) (E : List Res) (g T : Nat) (cs : List (List Value)) (k : Nat) (U : List (Nat × ((Nat → Value) → World → Value → Prop))) (f : List (Nat × Value)) (l : List Oper) (Q : Exit → Act → World → Prop) : Prop where
  run : ∀ F : Act, Fr n f F → RS P ops (TC2 g T cs) (fun w => Loc W R L O E w ∧ From g T cs 0 w) Q k l (fun _ => F) U
end
section
variable {P : Program} {n : Nat} {W : World} {R : Rg W} {L L' : List Blk} {O : List Own} {E : List Res} {U : List (Nat × ((Nat → Value) → World → Value → Prop))} {f : List (Nat × Value)} {Q : Exit → Act → World → Prop} {ops : Array Oper} {rest : List Oper} {k g T : Nat} {c : List Value} {cs : List (List Value)}
theorem SX.drawnCT {id : Nat} {l : List Oper} (m i : Nat) (cs : List (List Value)) (hi : L[i]? = some ⟨g, c, T⟩) (h0 : cs[0]? = some c) (hL : L.eraseIdx i = L') (hm : P.follows .mixedOrders = true) (hc : regOkTo m l.toArray = true) (ht : tailOk l.toArray m = true) (h : Near W R L' O E g → SXc P n W R l.toArray L' O E g T cs 0 [] f (l.take m) (fun _ a w => wpList P l.toArray Q (l.drop m) a w)) : SX P n W R L O E f (.region id l.toArray true) Q := ⟨fun a w hf hl => by
  subst hL
  exact wp_region_rs_tail m (fun w' => Loc W R (L.eraseIdx i) O E w' ∧ From g T cs 0 w') (TC2 g T cs) hm hc ht ⟨(hl.erase).keep ((Mod.refl _ w).drew), ⟨0, c, Nat.le_refl _, h0, ((hl.keep ((Mod.refl _ w).drew)).blk _ (List.mem_iff_getElem?.2 ⟨i, hi⟩)).2⟩⟩ ((h (hl.near hi)).run _ hf)⟩
theorem SXc.v {o : Oper} {v : Value} {d : Nat} (hr : OpW P n W R L O E f o v) (hdst : o.dst = some d) (hw : wantO ops f o = some true) (hd : Nat.blt d n = true) (h : SXc P n W R ops L O E g T cs (k + 1) U ((d, v) :: f) rest Q) : SXc P n W R ops L O E g T cs k U f (o :: rest) Q := ⟨fun F hF =>
  RS.val [] (fun _ => v) rfl (fun _ _ _ => rfl) (fun _ => wanted_of hF hw) (fun _ w hS _ => wp_never (hr.run _ w hF hS.1) fun _ _ ⟨h1, h2⟩ => ⟨h1, ⟨hS.1.keep h2, hS.2.keepF h2⟩, h2.mono fun _ _ f => f.elim⟩) (by rw [hdst]; exact h.run _ (hF.put hd v))⟩
variable {d m o T' : Nat} {xo yo : Operand} {ty : TypeId} {pos : String} {af : Array Edge} {gd : Option (Nat × Bool)} {v : Value}
theorem SXc.storeAt [TOne P T'] (i : Nat) (us : List Nat) (hus : (us.all fun i => (reach ops ops.size k).contains i) = true) (hpre : ∀ x w, (∀ u ∈ U, u.1 ∈ us → u.2 x w (x u.1)) → From g T cs 0 w → From g T cs i w) (hf : Near W R L O E g) (hw : wantO ops f ⟨none, .store T' xo yo, ty, pos, af, gd⟩ = some true) (hx : evO f xo = some (.pointer (some ⟨g, o, none⟩))) (hy : evO f yo = some v) (ho : ∀ c ∈ cs, o < c.length) (hv : v.oneCell' = true) (hc : (cs.drop i).map (fun c => c.set o v) = (cs.drop (i + 1)).take 1 ++ cs.drop (i + 1))
    (h : SXc P n W R ops L O E g T cs (k + 1) ((k, FV g T cs (i + 1)) :: U) f rest Q) : SXc P n W R ops L O E g T cs k U f (⟨none, .store T' xo yo, ty, pos, af, gd⟩ :: rest) Q := ⟨fun F hF =>
  RS.newx us (FV g T cs (i + 1)) id (fun _ _ _ _ => rfl) hus ⟨fun _ _ _ _ h hm => h.keep hm, fun _ _ _ _ _ h => h⟩ (fun _ => wanted_of hF hw) (fun x w hS hK => by
    obtain ⟨j, c1, h1, h2, h3⟩ := hpre x w hK hS.2
    have hlt := ho c1 (List.mem_of_getElem? h2)
    obtain ⟨u, hu⟩ : ∃ u, c1[o]? = some u := ⟨_, List.getElem?_eq_getElem hlt⟩
    have q1 : w.cell? ⟨g, o, none⟩ = some u := by simp [World.cell?, h3, hu]
    have q2 : w.frozen? ⟨g, o, none⟩ = false := by simp [World.frozen?, h3]
    have hrun : (execOp F.eval ⟨none, .store T' xo yo, ty, pos, af, gd⟩).run P w = .ok .skip (w.setCell ⟨g, o, none⟩ v) := by simp [execOp, hF.eval hx, hF.eval hy, run_store1 q1 q2 hv]
    have hb : (w.setCell ⟨g, o, none⟩ v).heap[g]? = some (.cells (c1.set o v).toArray T (0, 0)) := by simp [World.setCell, Array.getElem?_modify, h3]
    have hmm : Mod (fun k => k = g) w (w.setCell ⟨g, o, none⟩ v) := (Mod.refl _ w).setAt _ _ _
    have hq : ∀ j, i ≤ j → cs[j]? = some c1 → cs[max j (i + 1)]? = some (c1.set o v) := fun j h1 h2 => by
      have e1 : ((cs.drop i).map (fun c => c.set o v))[j - i]? = some (c1.set o v) := by
        rw [List.getElem?_map, List.getElem?_drop, show i + (j - i) = j by omega, h2]; rfl
      rw [hc] at e1
      by_cases hd : (cs.drop (i + 1)) = []
      · rw [hd] at e1; simp at e1
      obtain ⟨y, ys, hy'⟩ := List.exists_cons_of_ne_nil hd
      by_cases hji : j = i
      · subst hji
        rw [show max j (j + 1) = j + 1 by omega]
        rw [Nat.sub_self, hy'] at e1
        have e2 : (cs.drop (j + 1))[0]? = cs[j + 1]? := by rw [List.getElem?_drop]
        rw [hy'] at e2
        simp at e1 e2
        rw [← e2, e1]
      · rw [show max j (i + 1) = j by omega]
        have e3 : (List.take 1 (cs.drop (i + 1)) ++ cs.drop (i + 1))[j - i]? = (cs.drop (i + 1))[j - i - 1]? := by
          rw [List.getElem?_append_right (by rw [hy']; simp; omega)]
          congr 1
          rw [hy']
          simp
        rw [e3, List.getElem?_drop, show i + 1 + (j - i - 1) = j by omega] at e1
        exact e1
    have hcs := hq j h1 h2
    have hF1 : From g T cs (i + 1) (w.setCell ⟨g, o, none⟩ v) := ⟨_, _, by omega, hcs, hb⟩
    have hT : TC2 g T cs w (w.setCell ⟨g, o, none⟩ v) := by
      refine hmm.mono fun k _ e => ⟨e, fun i' ⟨j2, c2, a1, a2, a3⟩ => ?_⟩
      have ec : c2 = c1 := by
        have := a3.symm.trans h3
        simpa using this
      subst ec
      by_cases hj2 : i ≤ j2
      · exact ⟨_, _, by omega, hq j2 hj2 a2, hb⟩
      · exact ⟨_, _, by omega, hcs, hb⟩
    unfold Oper.wp
    rw [hrun, Oper.upon_skip]
    exact ⟨undef, rfl, hF1, ⟨Loc.keepP hf hS.1 (fun k hk => hk) hmm, ⟨_, _, Nat.zero_le _, hcs, hb⟩⟩, hT⟩) (h.run _ hF)⟩
/-- The first write; one behind the write that operation kp was. -/
theorem SXc.store0 [TOne P T'] (hf : Near W R L O E g) (hw : wantO ops f ⟨none, .store T' xo yo, ty, pos, af, gd⟩ = some true) (hx : evO f xo = some (.pointer (some ⟨g, o, none⟩))) (hy : evO f yo = some v) (ho : ∀ c ∈ cs, o < c.length) (hv : v.oneCell' = true) (hc : (cs.drop 0).map (fun c => c.set o v) = (cs.drop 1).take 1 ++ cs.drop 1)
    (h : SXc P n W R ops L O E g T cs (k + 1) ((k, FV g T cs 1) :: U) f rest Q) : SXc P n W R ops L O E g T cs k U f (⟨none, .store T' xo yo, ty, pos, af, gd⟩ :: rest) Q := SXc.storeAt 0 [] rfl (fun _ _ _ h => h) hf hw hx hy ho hv hc h
theorem SXc.store [TOne P T'] (i kp : Nat) (hus : ([kp].all fun i => (reach ops ops.size k).contains i) = true) (hU : (kp, FV g T cs i) ∈ U) (hf : Near W R L O E g) (hw : wantO ops f ⟨none, .store T' xo yo, ty, pos, af, gd⟩ = some true) (hx : evO f xo = some (.pointer (some ⟨g, o, none⟩))) (hy : evO f yo = some v) (ho : ∀ c ∈ cs, o < c.length) (hv : v.oneCell' = true) (hc : (cs.drop i).map (fun c => c.set o v) = (cs.drop (i + 1)).take 1 ++ cs.drop (i + 1))
    (h : SXc P n W R ops L O E g T cs (k + 1) ((k, FV g T cs (i + 1)) :: U) f rest Q) : SXc P n W R ops L O E g T cs k U f (⟨none, .store T' xo yo, ty, pos, af, gd⟩ :: rest) Q := SXc.storeAt i [kp] hus (fun x w hK _ => hK _ hU List.mem_cons_self) hf hw hx hy ho hv hc h
theorem SXc.tail {c' : List Value} (ks i : Nat) (hf : Near W R L O E g) (hS : (ks, FV g T cs i) ∈ U) (hl : cs.length = i + 1) (hc : cs[i]? = some c') (h : SXl P n W R ops (⟨g, c', T⟩ :: L) O E f rest Q) : SXc P n W R ops L O E g T cs k U f [] (fun _ a w => wpList P ops Q rest a w) := ⟨fun F hF => RS.done fun x w hSw hU => by
  obtain ⟨j, c1, h1, h2, h3⟩ := hU _ hS
  have hlt := (List.getElem?_eq_some_iff.1 h2).1
  have : j = i := by omega
  subst this
  rw [hc] at h2
  cases h2
  exact h.run _ w hF (Loc.addP hf hSw.1 h3)⟩
end
end Go.Proofs.YtkkjjhooamlljaaGreatDoor
namespace Go.Proofs.YtkkjjhooamlljaaGreatDoor
open Go.RowKit
set_option linter.unusedVariables false
set_option linter.unusedSimpArgs false

structure ActL where
  kind : Int
  n : Int
  kid : Int
  pl : Int
  key : List UInt8
  v : Val
  rules : List Rule
  wide : Int
  high : Int
  rtl : Bool
  deriving DecidableEq
def ActL.row (x : ActL) (a : Option Addr) (c : Nat) : List Value := [.int .i64 x.kind, .int .i64 x.n, .int .i64 x.kid, .int .i64 x.pl, .string ⟨x.key.toArray⟩, .int .i64 x.v.kind, .int .i64 x.v.n, .slice a x.rules.length c, .int .i64 x.wide, .int .i64 x.high, .bool x.rtl]
theorem Val.same_iff (x y : Val) : sameVs x.cells y.cells = decide (x = y) := by
  cases x; cases y
  simp only [Val.cells, sameVs, sameV, Bool.and_true]
  rw [Bool.eq_iff_iff]
  simp

theorem Rule.same_iff (x y : Rule) : sameVs x.cells y.cells = decide (x = y) := by
  cases x; cases y
  simp only [Rule.cells, sameVs, sameV, Bool.and_true]
  rw [Bool.eq_iff_iff]
  simp

set_option maxRecDepth 100000 in
set_option maxHeartbeats 4000000 in
theorem specSameTable_any (l m : List Rule) (a a' : Option Addr) (c c' : Nat) (R S : Nat → Prop) (w : World) (hl : l.length ≤ 1048576) (hm : m.length ≤ 1048576) (h : SliceAt (Flat Rule.cells) 3 R w a l) (h' : SliceAt (Flat Rule.cells) 3 S w a' m) :
    Calls Tryz.prog 91 #[.agg #[.slice a l.length c], .agg #[.slice a' m.length c']] w fun e w' => e = .returned (.bool (decide (l = m))) ∧ Mod (fun _ => False) w w' := by
  refine calls_sx Tryz.func91 rfl rfl (fun a h1 h2 h3 => ((Fr.nil h1 h2).arg (h3 1 _ rfl)).arg (h3 0 _ rfl)) ?_
  by_cases hlen : l.length = m.length
  rotate_left
  · have e : decide (l = m) = false := decide_eq_false fun h => hlen (by rw [h])
    rw [e]
    have hne : ¬ (l.length : Int) = m.length := by omega
    repeat (first | refine qap ?_ | refine qak ?_ | refine qaf ?_ | refine qab ?_ | refine qao rfl ?_ | (refine qaF ?_; (first | refine qaa (qat 0 rfl rfl rfl) rfl ?_ ?_ ?_ | refine qaa (qat 1 rfl rfl rfl) rfl ?_ ?_ ?_); rfl; rfl) | (refine qam ?_; (refine qaa (qag rfl) rfl ?_ ?_ ?_); rfl; rfl) | (refine qai ?_; (refine qaa (qae rfl) rfl ?_ ?_ ?_); rfl; rfl) | (refine l_len ?_; (refine qaa (OpW.len rfl) rfl ?_ ?_ ?_); rfl; rfl) | (refine l_neq ?_; (refine qaa (OpW.neqT rfl rfl (by omega)) rfl ?_ ?_ ?_); rfl; rfl) | (refine l_box ?_; refine qaV ?_ ?_ rfl rfl (fun g => ?_); rfl; rfl) | refine qav ?_ | refine qan ?_)
    refine qaC rfl rfl (fun w' hl => ⟨rfl, hl.mod⟩)
  repeat (first | refine qap ?_ | refine qak ?_ | refine qaf ?_ | refine qab ?_ | refine SX.block ?_ | refine qaE ?_ | refine qas rfl ?_ | (refine qaF ?_; (first | refine qaa (qat 0 rfl rfl rfl) rfl ?_ ?_ ?_ | refine qaa (qat 1 rfl rfl rfl) rfl ?_ ?_ ?_); rfl; rfl) | (refine qam ?_; (refine qaa (qag rfl) rfl ?_ ?_ ?_); rfl; rfl) | (refine qai ?_; (refine qaa (qae rfl) rfl ?_ ?_ ?_); rfl; rfl) | (refine l_len ?_; (refine qaa (OpW.len rfl) rfl ?_ ?_ ?_); rfl; rfl) | (refine l_neq ?_; (refine qaa (OpW.neqF rfl rfl (by omega)) rfl ?_ ?_ ?_); rfl; rfl) | (refine l_box ?_; refine qaV ?_ ?_ rfl rfl (fun g => ?_); rfl; rfl))
  rename_i gx
  revert g; intro gy
  refine SX.loopi (fun (k : Nat) => k ≤ l.length ∧ l.take k = m.take k) (fun k => l.length - k) (fun _ => [⟨gy, [.slice a' m.length c'], 26⟩, ⟨gx, [.slice a l.length c], 26⟩]) (fun _ => []) (fun _ => []) (fun k => [(2, .pointer (some ⟨gx, 0, none⟩)), (3, .pointer (some ⟨gy, 0, none⟩)), (5, .int .i64 k)]) 0 ⟨by omega, rfl⟩ ?_ (fun _ hl => hl) ?_
  · (repeat (first | exact subF_nil _ | (refine subF_cons rfl ?_) | (refine subF_consv rfl (by rfl) ?_)))
  rintro k ⟨hk, ht⟩
  by_cases hlt : k < l.length
  · obtain ⟨b1, o1, x, r1, rfl, _, _, hxk, hr1, hl1, hc1⟩ := h.get hlt
    obtain ⟨b2, o2, y, r2, rfl, _, _, hyk, hr2, hl2, hc2⟩ := h'.get (show k < m.length by omega)
    obtain rfl : r1 = x.cells := hr1
    obtain rfl : r2 = y.cells := hr2
    by_cases hxy : x = y
    · subst hxy
      have hS : sameVs x.cells x.cells = true := by rw [Rule.same_iff]; exact decide_eq_true rfl
      repeat (first | refine qap ?_ | refine qak ?_ | refine qaf ?_ | refine qab ?_ | refine SX.block ?_ | refine qaE ?_ | refine qao rfl ?_ | refine qas rfl ?_ | (refine qaF ?_; (refine qaa (qat 1 rfl rfl rfl) rfl ?_ ?_ ?_); rfl; rfl) | (refine qam ?_; (refine qaa (qag rfl) rfl ?_ ?_ ?_); rfl; rfl) | (refine qau ?_; (refine qaa (qaj rfl) rfl ?_ ?_ ?_); rfl; rfl) | (refine qai ?_; (refine qaa (qae rfl) rfl ?_ ?_ ?_); rfl; rfl) | (refine l_len ?_; (refine qaa (OpW.len rfl) rfl ?_ ?_ ?_); rfl; rfl) | (refine l_add ?_; (refine qaa (OpW.succ rfl rfl (by omega)) rfl ?_ ?_ ?_); rfl; rfl) | (refine l_lss ?_; (refine qaa (OpW.lssT rfl rfl (by omega)) rfl ?_ ?_ ?_); rfl; rfl) | refine SX.drawn (by kernel_rfl) (by kernel_rfl) ?_ | refine SXr.nil ?_ | (refine r_load ?_; (first | refine SXr.v (OpW.loadRowOld rfl hc1 rfl (Nat.succ_pos _) (fun h => h)) rfl ?_ ?_ ?_ | refine SXr.v (OpW.loadRowOld rfl hc2 rfl (Nat.succ_pos _) (fun h => h)) rfl ?_ ?_ ?_ | refine SXr.v (qat 0 rfl rfl rfl) rfl ?_ ?_ ?_ | refine SXr.v (qat 1 rfl rfl rfl) rfl ?_ ?_ ?_); rfl; rfl) | (refine r_fieldAddr ?_; (refine SXr.v (qag rfl) rfl ?_ ?_ ?_); rfl; rfl) | (refine r_move ?_; (refine SXr.v (qaj rfl) rfl ?_ ?_ ?_); rfl; rfl) | (refine r_neq ?_; (refine SXr.v (OpW.neqS rfl rfl rfl rfl) rfl ?_ ?_ ?_); rfl; rfl) | (refine r_indexAddr ?_; (refine SXr.v (OpW.indexAddr (by omega) rfl rfl) rfl ?_ ?_ ?_); rfl; rfl) | (rw [hS]) | refine qar ?_)
      refine SQ.roundi (k + 1) ⟨by omega, by rw [List.take_add_one, List.take_add_one, hxk.out, hyk.out, ht]⟩ (by omega) ?_ (fun _ hl => hl)
      (repeat (first | exact subF_nil _ | (refine subF_cons rfl ?_) | (refine subF_consv rfl (by rfl) ?_)))
    · have e : decide (l = m) = false := decide_eq_false fun h => by subst h; exact hxy (Option.some.inj (hxk.out.symm.trans hyk.out))
      have hS : sameVs x.cells y.cells = false := by rw [Rule.same_iff]; exact decide_eq_false hxy
      rw [e]
      repeat (first | refine qap ?_ | refine qak ?_ | refine qaf ?_ | refine qab ?_ | refine SX.block ?_ | refine qaE ?_ | refine qao rfl ?_ | (refine qaF ?_; (refine qaa (qat 1 rfl rfl rfl) rfl ?_ ?_ ?_); rfl; rfl) | (refine qam ?_; (refine qaa (qag rfl) rfl ?_ ?_ ?_); rfl; rfl) | (refine qau ?_; (refine qaa (qaj rfl) rfl ?_ ?_ ?_); rfl; rfl) | (refine qai ?_; (refine qaa (qae rfl) rfl ?_ ?_ ?_); rfl; rfl) | (refine l_len ?_; (refine qaa (OpW.len rfl) rfl ?_ ?_ ?_); rfl; rfl) | (refine l_lss ?_; (refine qaa (OpW.lssT rfl rfl (by omega)) rfl ?_ ?_ ?_); rfl; rfl) | refine SX.drawn (by kernel_rfl) (by kernel_rfl) ?_ | refine SXr.nil ?_ | (refine r_load ?_; (first | refine SXr.v (OpW.loadRowOld rfl hc1 rfl (Nat.succ_pos _) (fun h => h)) rfl ?_ ?_ ?_ | refine SXr.v (OpW.loadRowOld rfl hc2 rfl (Nat.succ_pos _) (fun h => h)) rfl ?_ ?_ ?_ | refine SXr.v (qat 0 rfl rfl rfl) rfl ?_ ?_ ?_ | refine SXr.v (qat 1 rfl rfl rfl) rfl ?_ ?_ ?_); rfl; rfl) | (refine r_fieldAddr ?_; (refine SXr.v (qag rfl) rfl ?_ ?_ ?_); rfl; rfl) | (refine r_move ?_; (refine SXr.v (qaj rfl) rfl ?_ ?_ ?_); rfl; rfl) | (refine r_neq ?_; (refine SXr.v (OpW.neqS rfl rfl rfl rfl) rfl ?_ ?_ ?_); rfl; rfl) | (refine r_indexAddr ?_; (refine SXr.v (OpW.indexAddr (by omega) rfl rfl) rfl ?_ ?_ ?_); rfl; rfl) | (rw [hS]) | refine qav ?_ | refine qan ?_ | refine qaw ?_)
      refine qaC rfl rfl (fun w' hl => ⟨rfl, hl.mod⟩)
  · have hk' : k = l.length := by omega
    subst hk'
    have e : decide (l = m) = true := decide_eq_true (by
      rw [List.take_length, hlen, List.take_length] at ht
      exact ht)
    rw [e]
    repeat (first | refine qap ?_ | refine qak ?_ | refine qaf ?_ | refine qab ?_ | refine qas rfl ?_ | (refine qaF ?_; (refine qaa (qat 1 rfl rfl rfl) rfl ?_ ?_ ?_); rfl; rfl) | (refine qam ?_; (refine qaa (qag rfl) rfl ?_ ?_ ?_); rfl; rfl) | (refine qau ?_; (refine qaa (qaj rfl) rfl ?_ ?_ ?_); rfl; rfl) | (refine qai ?_; (refine qaa (qae rfl) rfl ?_ ?_ ?_); rfl; rfl) | (refine l_len ?_; (refine qaa (OpW.len rfl) rfl ?_ ?_ ?_); rfl; rfl) | (refine l_lss ?_; (refine qaa (OpW.lssF rfl rfl (by omega)) rfl ?_ ?_ ?_); rfl; rfl) | refine qav ?_ | refine SX.exit ?_ | refine SQ.thenExit ?_ | refine SQ.blockExit ?_)
    refine qaC rfl rfl (fun w' hl => ⟨rfl, hl.mod⟩)

set_option maxRecDepth 100000 in
set_option maxHeartbeats 8000000 in
theorem sameAct_any (x y : ActL) (a b : Option Addr) (c d : Nat) (R S : Nat → Prop) (w : World) (hl0 : x.rules.length ≤ 1048576) (hm0 : y.rules.length ≤ 1048576) (h : SliceAt (Flat Rule.cells) 3 R w a x.rules) (h' : SliceAt (Flat Rule.cells) 3 S w b y.rules) :
    Calls Tryz.prog 47 #[.agg (x.row a c).toArray, .agg (y.row b d).toArray] w fun e w' => e = .returned (.bool (decide (x = y))) ∧ Mod (fun _ => False) w w' := by
  refine calls_sx Tryz.func47 rfl rfl (fun a h1 h2 h3 => ((Fr.nil h1 h2).arg (h3 1 _ rfl)).arg (h3 0 _ rfl)) ?_
  have hT := fun w' (hm : Mod (fun _ => False) w w') => implSameTable_any x.rules y.rules a b c d R S w' hl0 hm0 (h.flatKeep hm) (h'.flatKeep hm)
  have hS := Val.same_iff x.v y.v
  by_cases hkind : x.kind = y.kind
  rotate_left
  · have e : decide (x = y) = false := decide_eq_false fun h => hkind (by rw [h])
    rw [e]
    repeat (first | refine qap ?_ | refine qak ?_ | refine qaf ?_ | refine qab ?_ | (refine SXl.no rfl rfl rfl ?_) | (refine qaF ?_; (first | refine qaa (qat 0 rfl rfl rfl) rfl ?_ ?_ ?_ | refine qaa (qat 1 rfl rfl rfl) rfl ?_ ?_ ?_); rfl; rfl) | (refine qam ?_; (refine qaa (qag rfl) rfl ?_ ?_ ?_); rfl; rfl) | (refine qau ?_; (refine qaa (qaj rfl) rfl ?_ ?_ ?_); rfl; rfl) | (refine qai ?_; (refine qaa (qae rfl) rfl ?_ ?_ ?_); rfl; rfl) | (refine qaK ?_; (refine qaa (qaH rfl rfl (by omega)) rfl ?_ ?_ ?_); rfl; rfl) | (refine qaR ?_; (refine qaa (qax rfl rfl rfl) rfl ?_ ?_ ?_); rfl; rfl) | (refine l_box ?_; refine qaV ?_ ?_ rfl rfl (fun g => ?_); rfl; rfl) | refine qav ?_)
    refine qaC rfl rfl (fun w' hl => ⟨rfl, hl.mod⟩)
  by_cases hn : x.n = y.n
  rotate_left
  · have e : decide (x = y) = false := decide_eq_false fun h => hn (by rw [h])
    rw [e]
    repeat (first | refine qap ?_ | refine qak ?_ | refine qaf ?_ | refine qab ?_ | (refine SXl.no rfl rfl rfl ?_) | (refine qaF ?_; (first | refine qaa (qat 0 rfl rfl rfl) rfl ?_ ?_ ?_ | refine qaa (qat 1 rfl rfl rfl) rfl ?_ ?_ ?_); rfl; rfl) | (refine qam ?_; (refine qaa (qag rfl) rfl ?_ ?_ ?_); rfl; rfl) | (refine qau ?_; (refine qaa (qaj rfl) rfl ?_ ?_ ?_); rfl; rfl) | (refine qai ?_; (refine qaa (qae rfl) rfl ?_ ?_ ?_); rfl; rfl) | (refine qaK ?_; (first | refine qaa (qaI rfl rfl (by omega)) rfl ?_ ?_ ?_ | refine qaa (qaH rfl rfl (by omega)) rfl ?_ ?_ ?_); rfl; rfl) | (refine qaR ?_; (refine qaa (qax rfl rfl rfl) rfl ?_ ?_ ?_); rfl; rfl) | (refine l_box ?_; refine qaV ?_ ?_ rfl rfl (fun g => ?_); rfl; rfl) | refine qav ?_)
    refine qaC rfl rfl (fun w' hl => ⟨rfl, hl.mod⟩)
  by_cases hkid : x.kid = y.kid
  rotate_left
  · have e : decide (x = y) = false := decide_eq_false fun h => hkid (by rw [h])
    rw [e]
    repeat (first | refine qap ?_ | refine qak ?_ | refine qaf ?_ | refine qab ?_ | (refine SXl.no rfl rfl rfl ?_) | (refine qaF ?_; (first | refine qaa (qat 0 rfl rfl rfl) rfl ?_ ?_ ?_ | refine qaa (qat 1 rfl rfl rfl) rfl ?_ ?_ ?_); rfl; rfl) | (refine qam ?_; (refine qaa (qag rfl) rfl ?_ ?_ ?_); rfl; rfl) | (refine qau ?_; (refine qaa (qaj rfl) rfl ?_ ?_ ?_); rfl; rfl) | (refine qai ?_; (refine qaa (qae rfl) rfl ?_ ?_ ?_); rfl; rfl) | (refine qaK ?_; (first | refine qaa (qaI rfl rfl (by omega)) rfl ?_ ?_ ?_ | refine qaa (qaH rfl rfl (by omega)) rfl ?_ ?_ ?_); rfl; rfl) | (refine qaR ?_; (refine qaa (qax rfl rfl rfl) rfl ?_ ?_ ?_); rfl; rfl) | (refine l_box ?_; refine qaV ?_ ?_ rfl rfl (fun g => ?_); rfl; rfl) | refine qav ?_)
    refine qaC rfl rfl (fun w' hl => ⟨rfl, hl.mod⟩)
  by_cases hpl : x.pl = y.pl
  rotate_left
  · have e : decide (x = y) = false := decide_eq_false fun h => hpl (by rw [h])
    rw [e]
    repeat (first | refine qap ?_ | refine qak ?_ | refine qaf ?_ | refine qab ?_ | (refine SXl.no rfl rfl rfl ?_) | (refine qaF ?_; (first | refine qaa (qat 0 rfl rfl rfl) rfl ?_ ?_ ?_ | refine qaa (qat 1 rfl rfl rfl) rfl ?_ ?_ ?_); rfl; rfl) | (refine qam ?_; (refine qaa (qag rfl) rfl ?_ ?_ ?_); rfl; rfl) | (refine qau ?_; (refine qaa (qaj rfl) rfl ?_ ?_ ?_); rfl; rfl) | (refine qai ?_; (refine qaa (qae rfl) rfl ?_ ?_ ?_); rfl; rfl) | (refine qaK ?_; (first | refine qaa (qaI rfl rfl (by omega)) rfl ?_ ?_ ?_ | refine qaa (qaH rfl rfl (by omega)) rfl ?_ ?_ ?_); rfl; rfl) | (refine qaR ?_; (refine qaa (qax rfl rfl rfl) rfl ?_ ?_ ?_); rfl; rfl) | (refine l_box ?_; refine qaV ?_ ?_ rfl rfl (fun g => ?_); rfl; rfl) | refine qav ?_)
    refine qaC rfl rfl (fun w' hl => ⟨rfl, hl.mod⟩)
  by_cases hkey : x.key = y.key
  rotate_left
  · have e : decide (x = y) = false := decide_eq_false fun h => hkey (by rw [h])
    rw [e]
    repeat (first | refine qap ?_ | refine qak ?_ | refine qaf ?_ | refine qab ?_ | (refine SXl.no rfl rfl rfl ?_) | (refine qaF ?_; (first | refine qaa (qat 0 rfl rfl rfl) rfl ?_ ?_ ?_ | refine qaa (qat 1 rfl rfl rfl) rfl ?_ ?_ ?_); rfl; rfl) | (refine qam ?_; (refine qaa (qag rfl) rfl ?_ ?_ ?_); rfl; rfl) | (refine qau ?_; (refine qaa (qaj rfl) rfl ?_ ?_ ?_); rfl; rfl) | (refine qai ?_; (refine qaa (qae rfl) rfl ?_ ?_ ?_); rfl; rfl) | (refine qaK ?_; (first | refine qaa (qaI rfl rfl (by omega)) rfl ?_ ?_ ?_ | refine qaa (qay rfl rfl (by first | assumption | with_reducible rfl | decide)) rfl ?_ ?_ ?_); rfl; rfl) | (refine qaR ?_; (refine qaa (qax rfl rfl rfl) rfl ?_ ?_ ?_); rfl; rfl) | (refine l_box ?_; refine qaV ?_ ?_ rfl rfl (fun g => ?_); rfl; rfl) | refine qav ?_)
    refine qaC rfl rfl (fun w' hl => ⟨rfl, hl.mod⟩)
  by_cases hv : x.v = y.v
  rotate_left
  · have e : decide (x = y) = false := decide_eq_false fun h => hv (by rw [h])
    rw [e]
    rw [decide_eq_false hv] at hS
    repeat (first | refine qap ?_ | refine qak ?_ | refine qaf ?_ | refine qab ?_ | (refine SXl.no rfl rfl rfl ?_) | (refine qaF ?_; (first | refine qaa (qaJ 1 (r := x.v.cells) rfl rfl rfl rfl) rfl ?_ ?_ ?_ | refine qaa (qaJ 0 (r := y.v.cells) rfl rfl rfl rfl) rfl ?_ ?_ ?_ | refine qaa (qat 0 rfl rfl rfl) rfl ?_ ?_ ?_ | refine qaa (qat 1 rfl rfl rfl) rfl ?_ ?_ ?_); rfl; rfl) | (refine qam ?_; (refine qaa (qag rfl) rfl ?_ ?_ ?_); rfl; rfl) | (refine qau ?_; (refine qaa (qaj rfl) rfl ?_ ?_ ?_); rfl; rfl) | (refine qai ?_; (refine qaa (qae rfl) rfl ?_ ?_ ?_); rfl; rfl) | (refine qaK ?_; (first | refine qaa (qaI rfl rfl (by omega)) rfl ?_ ?_ ?_ | refine qaa (OpW.eqlS rfl rfl rfl rfl) rfl ?_ ?_ ?_ | refine qaa (qaB rfl rfl (by first | assumption | with_reducible rfl | decide)) rfl ?_ ?_ ?_); rfl; rfl) | (refine qaR ?_; (refine qaa (qax rfl rfl rfl) rfl ?_ ?_ ?_); rfl; rfl) | (refine l_box ?_; refine qaV ?_ ?_ rfl rfl (fun g => ?_); rfl; rfl) | (rw [hS]) | refine qav ?_)
    refine qaC rfl rfl (fun w' hl => ⟨rfl, hl.mod⟩)
  rw [decide_eq_true hv] at hS
  by_cases hr : x.rules = y.rules
  rotate_left
  · have e : decide (x = y) = false := decide_eq_false fun h => hr (by rw [h])
    rw [e]
    simp only [decide_eq_false hr] at hT
    repeat (first | refine qap ?_ | refine qak ?_ | refine qaf ?_ | refine qab ?_ | (refine SXl.no rfl rfl rfl ?_) | (refine qaA ?_; (refine qaa (qal rfl (fun w hl => hT _ hl.mod)) rfl ?_ ?_ ?_); rfl; rfl) | (refine qaF ?_; (first | refine qaa (qaJ 1 (r := x.v.cells) rfl rfl rfl rfl) rfl ?_ ?_ ?_ | refine qaa (qaJ 0 (r := y.v.cells) rfl rfl rfl rfl) rfl ?_ ?_ ?_ | refine qaa (qat 0 rfl rfl rfl) rfl ?_ ?_ ?_ | refine qaa (qat 1 rfl rfl rfl) rfl ?_ ?_ ?_ | refine qaa (qaJ 0 rfl rfl rfl rfl) rfl ?_ ?_ ?_ | refine qaa (qaJ 1 rfl rfl rfl rfl) rfl ?_ ?_ ?_); rfl; rfl) | (refine qam ?_; (refine qaa (qag rfl) rfl ?_ ?_ ?_); rfl; rfl) | (refine qau ?_; (refine qaa (qaj rfl) rfl ?_ ?_ ?_); rfl; rfl) | (refine qai ?_; (refine qaa (qae rfl) rfl ?_ ?_ ?_); rfl; rfl) | (refine qaK ?_; (first | refine qaa (qaI rfl rfl (by omega)) rfl ?_ ?_ ?_ | refine qaa (OpW.eqlS rfl rfl rfl rfl) rfl ?_ ?_ ?_ | refine qaa (qaB rfl rfl (by first | assumption | with_reducible rfl | decide)) rfl ?_ ?_ ?_); rfl; rfl) | (refine qaR ?_; (refine qaa (qax rfl rfl rfl) rfl ?_ ?_ ?_); rfl; rfl) | (refine l_box ?_; refine qaV ?_ ?_ rfl rfl (fun g => ?_); rfl; rfl) | (rw [hS]) | refine qav ?_)
    refine qaC rfl rfl (fun w' hl => ⟨rfl, hl.mod⟩)
  simp only [decide_eq_true hr] at hT
  by_cases hw : x.wide = y.wide
  rotate_left
  · have e : decide (x = y) = false := decide_eq_false fun h => hw (by rw [h])
    rw [e]
    repeat (first | refine qap ?_ | refine qak ?_ | refine qaf ?_ | refine qab ?_ | (refine SXl.no rfl rfl rfl ?_) | (refine qaA ?_; (refine qaa (qal rfl (fun w hl => hT _ hl.mod)) rfl ?_ ?_ ?_); rfl; rfl) | (refine qaF ?_; (first | refine qaa (qaJ 1 (r := x.v.cells) rfl rfl rfl rfl) rfl ?_ ?_ ?_ | refine qaa (qaJ 0 (r := y.v.cells) rfl rfl rfl rfl) rfl ?_ ?_ ?_ | refine qaa (qat 0 rfl rfl rfl) rfl ?_ ?_ ?_ | refine qaa (qat 1 rfl rfl rfl) rfl ?_ ?_ ?_ | refine qaa (qaJ 0 rfl rfl rfl rfl) rfl ?_ ?_ ?_ | refine qaa (qaJ 1 rfl rfl rfl rfl) rfl ?_ ?_ ?_); rfl; rfl) | (refine qam ?_; (refine qaa (qag rfl) rfl ?_ ?_ ?_); rfl; rfl) | (refine qau ?_; (refine qaa (qaj rfl) rfl ?_ ?_ ?_); rfl; rfl) | (refine qai ?_; (refine qaa (qae rfl) rfl ?_ ?_ ?_); rfl; rfl) | (refine qaK ?_; (first | refine qaa (qaI rfl rfl (by omega)) rfl ?_ ?_ ?_ | refine qaa (qaH rfl rfl (by omega)) rfl ?_ ?_ ?_ | refine qaa (OpW.eqlS rfl rfl rfl rfl) rfl ?_ ?_ ?_ | refine qaa (qaB rfl rfl (by first | assumption | with_reducible rfl | decide)) rfl ?_ ?_ ?_); rfl; rfl) | (refine qaR ?_; (refine qaa (qax rfl rfl rfl) rfl ?_ ?_ ?_); rfl; rfl) | (refine l_box ?_; refine qaV ?_ ?_ rfl rfl (fun g => ?_); rfl; rfl) | (rw [hS]) | refine qav ?_)
    refine qaC rfl rfl (fun w' hl => ⟨rfl, hl.mod⟩)
  by_cases hh : x.high = y.high
  rotate_left
  · have e : decide (x = y) = false := decide_eq_false fun h => hh (by rw [h])
    rw [e]
    repeat (first | refine qap ?_ | refine qak ?_ | refine qaf ?_ | refine qab ?_ | (refine SXl.no rfl rfl rfl ?_) | (refine qaA ?_; (refine qaa (qal rfl (fun w hl => hT _ hl.mod)) rfl ?_ ?_ ?_); rfl; rfl) | (refine qaF ?_; (first | refine qaa (qaJ 1 (r := x.v.cells) rfl rfl rfl rfl) rfl ?_ ?_ ?_ | refine qaa (qaJ 0 (r := y.v.cells) rfl rfl rfl rfl) rfl ?_ ?_ ?_ | refine qaa (qat 0 rfl rfl rfl) rfl ?_ ?_ ?_ | refine qaa (qat 1 rfl rfl rfl) rfl ?_ ?_ ?_ | refine qaa (qaJ 0 rfl rfl rfl rfl) rfl ?_ ?_ ?_ | refine qaa (qaJ 1 rfl rfl rfl rfl) rfl ?_ ?_ ?_); rfl; rfl) | (refine qam ?_; (refine qaa (qag rfl) rfl ?_ ?_ ?_); rfl; rfl) | (refine qau ?_; (refine qaa (qaj rfl) rfl ?_ ?_ ?_); rfl; rfl) | (refine qai ?_; (refine qaa (qae rfl) rfl ?_ ?_ ?_); rfl; rfl) | (refine qaK ?_; (first | refine qaa (qaI rfl rfl (by omega)) rfl ?_ ?_ ?_ | refine qaa (qaH rfl rfl (by omega)) rfl ?_ ?_ ?_ | refine qaa (OpW.eqlS rfl rfl rfl rfl) rfl ?_ ?_ ?_ | refine qaa (qaB rfl rfl (by first | assumption | with_reducible rfl | decide)) rfl ?_ ?_ ?_); rfl; rfl) | (refine qaR ?_; (refine qaa (qax rfl rfl rfl) rfl ?_ ?_ ?_); rfl; rfl) | (refine l_box ?_; refine qaV ?_ ?_ rfl rfl (fun g => ?_); rfl; rfl) | (rw [hS]) | refine qav ?_)
    refine qaC rfl rfl (fun w' hl => ⟨rfl, hl.mod⟩)
  by_cases ht : x.rtl = y.rtl
  rotate_left
  · have e : decide (x = y) = false := decide_eq_false fun h => ht (by rw [h])
    rw [e]
    have hb : (x.rtl == y.rtl) = false := by simpa using ht
    repeat (first | refine qap ?_ | refine qak ?_ | refine qaf ?_ | refine qab ?_ | (refine qaA ?_; (refine qaa (qal rfl (fun w hl => hT _ hl.mod)) rfl ?_ ?_ ?_); rfl; rfl) | (refine qaF ?_; (first | refine qaa (qaJ 1 (r := x.v.cells) rfl rfl rfl rfl) rfl ?_ ?_ ?_ | refine qaa (qaJ 0 (r := y.v.cells) rfl rfl rfl rfl) rfl ?_ ?_ ?_ | refine qaa (qat 0 rfl rfl rfl) rfl ?_ ?_ ?_ | refine qaa (qat 1 rfl rfl rfl) rfl ?_ ?_ ?_ | refine qaa (qaJ 0 rfl rfl rfl rfl) rfl ?_ ?_ ?_ | refine qaa (qaJ 1 rfl rfl rfl rfl) rfl ?_ ?_ ?_); rfl; rfl) | (refine qam ?_; (refine qaa (qag rfl) rfl ?_ ?_ ?_); rfl; rfl) | (refine qau ?_; (refine qaa (qaj rfl) rfl ?_ ?_ ?_); rfl; rfl) | (refine qai ?_; (refine qaa (qae rfl) rfl ?_ ?_ ?_); rfl; rfl) | (refine qaK ?_; (first | refine qaa (qaI rfl rfl (by omega)) rfl ?_ ?_ ?_ | refine qaa (OpW.eqlb rfl rfl) rfl ?_ ?_ ?_ | refine qaa (OpW.eqlS rfl rfl rfl rfl) rfl ?_ ?_ ?_ | refine qaa (qaB rfl rfl (by first | assumption | with_reducible rfl | decide)) rfl ?_ ?_ ?_); rfl; rfl) | (refine qaR ?_; (refine qaa (qax rfl rfl rfl) rfl ?_ ?_ ?_); rfl; rfl) | (refine l_box ?_; refine qaV ?_ ?_ rfl rfl (fun g => ?_); rfl; rfl) | (rw [hS]) | (rw [hb]) | refine qav ?_)
    refine qaC rfl rfl (fun w' hl => ⟨rfl, hl.mod⟩)
  have e : decide (x = y) = true := decide_eq_true (by cases x; cases y; simp_all)
  rw [e]
  have hb : (x.rtl == y.rtl) = true := by simpa using ht
  repeat (first | refine qap ?_ | refine qak ?_ | refine qaf ?_ | refine qab ?_ | (refine qaA ?_; (refine qaa (qal rfl (fun w hl => hT _ hl.mod)) rfl ?_ ?_ ?_); rfl; rfl) | (refine qaF ?_; (first | refine qaa (qaJ 1 (r := x.v.cells) rfl rfl rfl rfl) rfl ?_ ?_ ?_ | refine qaa (qaJ 0 (r := y.v.cells) rfl rfl rfl rfl) rfl ?_ ?_ ?_ | refine qaa (qat 0 rfl rfl rfl) rfl ?_ ?_ ?_ | refine qaa (qat 1 rfl rfl rfl) rfl ?_ ?_ ?_ | refine qaa (qaJ 0 rfl rfl rfl rfl) rfl ?_ ?_ ?_ | refine qaa (qaJ 1 rfl rfl rfl rfl) rfl ?_ ?_ ?_); rfl; rfl) | (refine qam ?_; (refine qaa (qag rfl) rfl ?_ ?_ ?_); rfl; rfl) | (refine qau ?_; (refine qaa (qaj rfl) rfl ?_ ?_ ?_); rfl; rfl) | (refine qai ?_; (refine qaa (qae rfl) rfl ?_ ?_ ?_); rfl; rfl) | (refine qaK ?_; (first | refine qaa (qaI rfl rfl (by omega)) rfl ?_ ?_ ?_ | refine qaa (OpW.eqlb rfl rfl) rfl ?_ ?_ ?_ | refine qaa (OpW.eqlS rfl rfl rfl rfl) rfl ?_ ?_ ?_ | refine qaa (qaB rfl rfl (by first | assumption | with_reducible rfl | decide)) rfl ?_ ?_ ?_); rfl; rfl) | (refine qaR ?_; (refine qaa (qax rfl rfl rfl) rfl ?_ ?_ ?_); rfl; rfl) | (refine l_box ?_; refine qaV ?_ ?_ rfl rfl (fun g => ?_); rfl; rfl) | (rw [hS]) | (rw [hb]) | refine qav ?_)
  refine qaC rfl rfl (fun w' hl => ⟨rfl, hl.mod⟩)

set_option maxRecDepth 100000 in
set_option maxHeartbeats 8000000 in
theorem ssameAct_any (x y : ActL) (a b : Option Addr) (c d : Nat) (R S : Nat → Prop) (w : World) (hl0 : x.rules.length ≤ 1048576) (hm0 : y.rules.length ≤ 1048576) (h : SliceAt (Flat Rule.cells) 3 R w a x.rules) (h' : SliceAt (Flat Rule.cells) 3 S w b y.rules) :
    Calls Tryz.prog 59 #[.agg (x.row a c).toArray, .agg (y.row b d).toArray] w fun e w' => e = .returned (.bool (decide (x = y))) ∧ Mod (fun _ => False) w w' := by
  refine calls_sx Tryz.func59 rfl rfl (fun a h1 h2 h3 => ((Fr.nil h1 h2).arg (h3 1 _ rfl)).arg (h3 0 _ rfl)) ?_
  have hT := fun w' (hm : Mod (fun _ => False) w w') => specSameTable_any x.rules y.rules a b c d R S w' hl0 hm0 (h.flatKeep hm) (h'.flatKeep hm)
  have hS := Val.same_iff x.v y.v
  by_cases hkind : x.kind = y.kind
  rotate_left
  · have e : decide (x = y) = false := decide_eq_false fun h => hkind (by rw [h])
    rw [e]
    repeat (first | refine qap ?_ | refine qak ?_ | refine qaf ?_ | refine qab ?_ | (refine SXl.no rfl rfl rfl ?_) | (refine qaF ?_; (first | refine qaa (qat 0 rfl rfl rfl) rfl ?_ ?_ ?_ | refine qaa (qat 1 rfl rfl rfl) rfl ?_ ?_ ?_); rfl; rfl) | (refine qam ?_; (refine qaa (qag rfl) rfl ?_ ?_ ?_); rfl; rfl) | (refine qau ?_; (refine qaa (qaj rfl) rfl ?_ ?_ ?_); rfl; rfl) | (refine qai ?_; (refine qaa (qae rfl) rfl ?_ ?_ ?_); rfl; rfl) | (refine qaK ?_; (refine qaa (qaH rfl rfl (by omega)) rfl ?_ ?_ ?_); rfl; rfl) | (refine qaR ?_; (refine qaa (qax rfl rfl rfl) rfl ?_ ?_ ?_); rfl; rfl) | (refine l_box ?_; refine qaV ?_ ?_ rfl rfl (fun g => ?_); rfl; rfl) | refine qav ?_)
    refine qaC rfl rfl (fun w' hl => ⟨rfl, hl.mod⟩)
  by_cases hn : x.n = y.n
  rotate_left
  · have e : decide (x = y) = false := decide_eq_false fun h => hn (by rw [h])
    rw [e]
    repeat (first | refine qap ?_ | refine qak ?_ | refine qaf ?_ | refine qab ?_ | (refine SXl.no rfl rfl rfl ?_) | (refine qaF ?_; (first | refine qaa (qat 0 rfl rfl rfl) rfl ?_ ?_ ?_ | refine qaa (qat 1 rfl rfl rfl) rfl ?_ ?_ ?_); rfl; rfl) | (refine qam ?_; (refine qaa (qag rfl) rfl ?_ ?_ ?_); rfl; rfl) | (refine qau ?_; (refine qaa (qaj rfl) rfl ?_ ?_ ?_); rfl; rfl) | (refine qai ?_; (refine qaa (qae rfl) rfl ?_ ?_ ?_); rfl; rfl) | (refine qaK ?_; (first | refine qaa (qaI rfl rfl (by omega)) rfl ?_ ?_ ?_ | refine qaa (qaH rfl rfl (by omega)) rfl ?_ ?_ ?_); rfl; rfl) | (refine qaR ?_; (refine qaa (qax rfl rfl rfl) rfl ?_ ?_ ?_); rfl; rfl) | (refine l_box ?_; refine qaV ?_ ?_ rfl rfl (fun g => ?_); rfl; rfl) | refine qav ?_)
    refine qaC rfl rfl (fun w' hl => ⟨rfl, hl.mod⟩)
  by_cases hkid : x.kid = y.kid
  rotate_left
  · have e : decide (x = y) = false := decide_eq_false fun h => hkid (by rw [h])
    rw [e]
    repeat (first | refine qap ?_ | refine qak ?_ | refine qaf ?_ | refine qab ?_ | (refine SXl.no rfl rfl rfl ?_) | (refine qaF ?_; (first | refine qaa (qat 0 rfl rfl rfl) rfl ?_ ?_ ?_ | refine qaa (qat 1 rfl rfl rfl) rfl ?_ ?_ ?_); rfl; rfl) | (refine qam ?_; (refine qaa (qag rfl) rfl ?_ ?_ ?_); rfl; rfl) | (refine qau ?_; (refine qaa (qaj rfl) rfl ?_ ?_ ?_); rfl; rfl) | (refine qai ?_; (refine qaa (qae rfl) rfl ?_ ?_ ?_); rfl; rfl) | (refine qaK ?_; (first | refine qaa (qaI rfl rfl (by omega)) rfl ?_ ?_ ?_ | refine qaa (qaH rfl rfl (by omega)) rfl ?_ ?_ ?_); rfl; rfl) | (refine qaR ?_; (refine qaa (qax rfl rfl rfl) rfl ?_ ?_ ?_); rfl; rfl) | (refine l_box ?_; refine qaV ?_ ?_ rfl rfl (fun g => ?_); rfl; rfl) | refine qav ?_)
    refine qaC rfl rfl (fun w' hl => ⟨rfl, hl.mod⟩)
  by_cases hpl : x.pl = y.pl
  rotate_left
  · have e : decide (x = y) = false := decide_eq_false fun h => hpl (by rw [h])
    rw [e]
    repeat (first | refine qap ?_ | refine qak ?_ | refine qaf ?_ | refine qab ?_ | (refine SXl.no rfl rfl rfl ?_) | (refine qaF ?_; (first | refine qaa (qat 0 rfl rfl rfl) rfl ?_ ?_ ?_ | refine qaa (qat 1 rfl rfl rfl) rfl ?_ ?_ ?_); rfl; rfl) | (refine qam ?_; (refine qaa (qag rfl) rfl ?_ ?_ ?_); rfl; rfl) | (refine qau ?_; (refine qaa (qaj rfl) rfl ?_ ?_ ?_); rfl; rfl) | (refine qai ?_; (refine qaa (qae rfl) rfl ?_ ?_ ?_); rfl; rfl) | (refine qaK ?_; (first | refine qaa (qaI rfl rfl (by omega)) rfl ?_ ?_ ?_ | refine qaa (qaH rfl rfl (by omega)) rfl ?_ ?_ ?_); rfl; rfl) | (refine qaR ?_; (refine qaa (qax rfl rfl rfl) rfl ?_ ?_ ?_); rfl; rfl) | (refine l_box ?_; refine qaV ?_ ?_ rfl rfl (fun g => ?_); rfl; rfl) | refine qav ?_)
    refine qaC rfl rfl (fun w' hl => ⟨rfl, hl.mod⟩)
  by_cases hkey : x.key = y.key
  rotate_left
  · have e : decide (x = y) = false := decide_eq_false fun h => hkey (by rw [h])
    rw [e]
    repeat (first | refine qap ?_ | refine qak ?_ | refine qaf ?_ | refine qab ?_ | (refine SXl.no rfl rfl rfl ?_) | (refine qaF ?_; (first | refine qaa (qat 0 rfl rfl rfl) rfl ?_ ?_ ?_ | refine qaa (qat 1 rfl rfl rfl) rfl ?_ ?_ ?_); rfl; rfl) | (refine qam ?_; (refine qaa (qag rfl) rfl ?_ ?_ ?_); rfl; rfl) | (refine qau ?_; (refine qaa (qaj rfl) rfl ?_ ?_ ?_); rfl; rfl) | (refine qai ?_; (refine qaa (qae rfl) rfl ?_ ?_ ?_); rfl; rfl) | (refine qaK ?_; (first | refine qaa (qaI rfl rfl (by omega)) rfl ?_ ?_ ?_ | refine qaa (qay rfl rfl (by first | assumption | with_reducible rfl | decide)) rfl ?_ ?_ ?_); rfl; rfl) | (refine qaR ?_; (refine qaa (qax rfl rfl rfl) rfl ?_ ?_ ?_); rfl; rfl) | (refine l_box ?_; refine qaV ?_ ?_ rfl rfl (fun g => ?_); rfl; rfl) | refine qav ?_)
    refine qaC rfl rfl (fun w' hl => ⟨rfl, hl.mod⟩)
  by_cases hv : x.v = y.v
  rotate_left
  · have e : decide (x = y) = false := decide_eq_false fun h => hv (by rw [h])
    rw [e]
    rw [decide_eq_false hv] at hS
    repeat (first | refine qap ?_ | refine qak ?_ | refine qaf ?_ | refine qab ?_ | (refine SXl.no rfl rfl rfl ?_) | (refine qaF ?_; (first | refine qaa (qaJ 1 (r := x.v.cells) rfl rfl rfl rfl) rfl ?_ ?_ ?_ | refine qaa (qaJ 0 (r := y.v.cells) rfl rfl rfl rfl) rfl ?_ ?_ ?_ | refine qaa (qat 0 rfl rfl rfl) rfl ?_ ?_ ?_ | refine qaa (qat 1 rfl rfl rfl) rfl ?_ ?_ ?_); rfl; rfl) | (refine qam ?_; (refine qaa (qag rfl) rfl ?_ ?_ ?_); rfl; rfl) | (refine qau ?_; (refine qaa (qaj rfl) rfl ?_ ?_ ?_); rfl; rfl) | (refine qai ?_; (refine qaa (qae rfl) rfl ?_ ?_ ?_); rfl; rfl) | (refine qaK ?_; (first | refine qaa (qaI rfl rfl (by omega)) rfl ?_ ?_ ?_ | refine qaa (OpW.eqlS rfl rfl rfl rfl) rfl ?_ ?_ ?_ | refine qaa (qaB rfl rfl (by first | assumption | with_reducible rfl | decide)) rfl ?_ ?_ ?_); rfl; rfl) | (refine qaR ?_; (refine qaa (qax rfl rfl rfl) rfl ?_ ?_ ?_); rfl; rfl) | (refine l_box ?_; refine qaV ?_ ?_ rfl rfl (fun g => ?_); rfl; rfl) | (rw [hS]) | refine qav ?_)
    refine qaC rfl rfl (fun w' hl => ⟨rfl, hl.mod⟩)
  rw [decide_eq_true hv] at hS
  by_cases hr : x.rules = y.rules
  rotate_left
  · have e : decide (x = y) = false := decide_eq_false fun h => hr (by rw [h])
    rw [e]
    simp only [decide_eq_false hr] at hT
    repeat (first | refine qap ?_ | refine qak ?_ | refine qaf ?_ | refine qab ?_ | (refine SXl.no rfl rfl rfl ?_) | (refine qaA ?_; (refine qaa (qal rfl (fun w hl => hT _ hl.mod)) rfl ?_ ?_ ?_); rfl; rfl) | (refine qaF ?_; (first | refine qaa (qaJ 1 (r := x.v.cells) rfl rfl rfl rfl) rfl ?_ ?_ ?_ | refine qaa (qaJ 0 (r := y.v.cells) rfl rfl rfl rfl) rfl ?_ ?_ ?_ | refine qaa (qat 0 rfl rfl rfl) rfl ?_ ?_ ?_ | refine qaa (qat 1 rfl rfl rfl) rfl ?_ ?_ ?_ | refine qaa (qaJ 0 rfl rfl rfl rfl) rfl ?_ ?_ ?_ | refine qaa (qaJ 1 rfl rfl rfl rfl) rfl ?_ ?_ ?_); rfl; rfl) | (refine qam ?_; (refine qaa (qag rfl) rfl ?_ ?_ ?_); rfl; rfl) | (refine qau ?_; (refine qaa (qaj rfl) rfl ?_ ?_ ?_); rfl; rfl) | (refine qai ?_; (refine qaa (qae rfl) rfl ?_ ?_ ?_); rfl; rfl) | (refine qaK ?_; (first | refine qaa (qaI rfl rfl (by omega)) rfl ?_ ?_ ?_ | refine qaa (OpW.eqlS rfl rfl rfl rfl) rfl ?_ ?_ ?_ | refine qaa (qaB rfl rfl (by first | assumption | with_reducible rfl | decide)) rfl ?_ ?_ ?_); rfl; rfl) | (refine qaR ?_; (refine qaa (qax rfl rfl rfl) rfl ?_ ?_ ?_); rfl; rfl) | (refine l_box ?_; refine qaV ?_ ?_ rfl rfl (fun g => ?_); rfl; rfl) | (rw [hS]) | refine qav ?_)
    refine qaC rfl rfl (fun w' hl => ⟨rfl, hl.mod⟩)
  simp only [decide_eq_true hr] at hT
  by_cases hw : x.wide = y.wide
  rotate_left
  · have e : decide (x = y) = false := decide_eq_false fun h => hw (by rw [h])
    rw [e]
    repeat (first | refine qap ?_ | refine qak ?_ | refine qaf ?_ | refine qab ?_ | (refine SXl.no rfl rfl rfl ?_) | (refine qaA ?_; (refine qaa (qal rfl (fun w hl => hT _ hl.mod)) rfl ?_ ?_ ?_); rfl; rfl) | (refine qaF ?_; (first | refine qaa (qaJ 1 (r := x.v.cells) rfl rfl rfl rfl) rfl ?_ ?_ ?_ | refine qaa (qaJ 0 (r := y.v.cells) rfl rfl rfl rfl) rfl ?_ ?_ ?_ | refine qaa (qat 0 rfl rfl rfl) rfl ?_ ?_ ?_ | refine qaa (qat 1 rfl rfl rfl) rfl ?_ ?_ ?_ | refine qaa (qaJ 0 rfl rfl rfl rfl) rfl ?_ ?_ ?_ | refine qaa (qaJ 1 rfl rfl rfl rfl) rfl ?_ ?_ ?_); rfl; rfl) | (refine qam ?_; (refine qaa (qag rfl) rfl ?_ ?_ ?_); rfl; rfl) | (refine qau ?_; (refine qaa (qaj rfl) rfl ?_ ?_ ?_); rfl; rfl) | (refine qai ?_; (refine qaa (qae rfl) rfl ?_ ?_ ?_); rfl; rfl) | (refine qaK ?_; (first | refine qaa (qaI rfl rfl (by omega)) rfl ?_ ?_ ?_ | refine qaa (qaH rfl rfl (by omega)) rfl ?_ ?_ ?_ | refine qaa (OpW.eqlS rfl rfl rfl rfl) rfl ?_ ?_ ?_ | refine qaa (qaB rfl rfl (by first | assumption | with_reducible rfl | decide)) rfl ?_ ?_ ?_); rfl; rfl) | (refine qaR ?_; (refine qaa (qax rfl rfl rfl) rfl ?_ ?_ ?_); rfl; rfl) | (refine l_box ?_; refine qaV ?_ ?_ rfl rfl (fun g => ?_); rfl; rfl) | (rw [hS]) | refine qav ?_)
    refine qaC rfl rfl (fun w' hl => ⟨rfl, hl.mod⟩)
  by_cases hh : x.high = y.high
  rotate_left
  · have e : decide (x = y) = false := decide_eq_false fun h => hh (by rw [h])
    rw [e]
    repeat (first | refine qap ?_ | refine qak ?_ | refine qaf ?_ | refine qab ?_ | (refine SXl.no rfl rfl rfl ?_) | (refine qaA ?_; (refine qaa (qal rfl (fun w hl => hT _ hl.mod)) rfl ?_ ?_ ?_); rfl; rfl) | (refine qaF ?_; (first | refine qaa (qaJ 1 (r := x.v.cells) rfl rfl rfl rfl) rfl ?_ ?_ ?_ | refine qaa (qaJ 0 (r := y.v.cells) rfl rfl rfl rfl) rfl ?_ ?_ ?_ | refine qaa (qat 0 rfl rfl rfl) rfl ?_ ?_ ?_ | refine qaa (qat 1 rfl rfl rfl) rfl ?_ ?_ ?_ | refine qaa (qaJ 0 rfl rfl rfl rfl) rfl ?_ ?_ ?_ | refine qaa (qaJ 1 rfl rfl rfl rfl) rfl ?_ ?_ ?_); rfl; rfl) | (refine qam ?_; (refine qaa (qag rfl) rfl ?_ ?_ ?_); rfl; rfl) | (refine qau ?_; (refine qaa (qaj rfl) rfl ?_ ?_ ?_); rfl; rfl) | (refine qai ?_; (refine qaa (qae rfl) rfl ?_ ?_ ?_); rfl; rfl) | (refine qaK ?_; (first | refine qaa (qaI rfl rfl (by omega)) rfl ?_ ?_ ?_ | refine qaa (qaH rfl rfl (by omega)) rfl ?_ ?_ ?_ | refine qaa (OpW.eqlS rfl rfl rfl rfl) rfl ?_ ?_ ?_ | refine qaa (qaB rfl rfl (by first | assumption | with_reducible rfl | decide)) rfl ?_ ?_ ?_); rfl; rfl) | (refine qaR ?_; (refine qaa (qax rfl rfl rfl) rfl ?_ ?_ ?_); rfl; rfl) | (refine l_box ?_; refine qaV ?_ ?_ rfl rfl (fun g => ?_); rfl; rfl) | (rw [hS]) | refine qav ?_)
    refine qaC rfl rfl (fun w' hl => ⟨rfl, hl.mod⟩)
  by_cases ht : x.rtl = y.rtl
  rotate_left
  · have e : decide (x = y) = false := decide_eq_false fun h => ht (by rw [h])
    rw [e]
    have hb : (x.rtl == y.rtl) = false := by simpa using ht
    repeat (first | refine qap ?_ | refine qak ?_ | refine qaf ?_ | refine qab ?_ | (refine qaA ?_; (refine qaa (qal rfl (fun w hl => hT _ hl.mod)) rfl ?_ ?_ ?_); rfl; rfl) | (refine qaF ?_; (first | refine qaa (qaJ 1 (r := x.v.cells) rfl rfl rfl rfl) rfl ?_ ?_ ?_ | refine qaa (qaJ 0 (r := y.v.cells) rfl rfl rfl rfl) rfl ?_ ?_ ?_ | refine qaa (qat 0 rfl rfl rfl) rfl ?_ ?_ ?_ | refine qaa (qat 1 rfl rfl rfl) rfl ?_ ?_ ?_ | refine qaa (qaJ 0 rfl rfl rfl rfl) rfl ?_ ?_ ?_ | refine qaa (qaJ 1 rfl rfl rfl rfl) rfl ?_ ?_ ?_); rfl; rfl) | (refine qam ?_; (refine qaa (qag rfl) rfl ?_ ?_ ?_); rfl; rfl) | (refine qau ?_; (refine qaa (qaj rfl) rfl ?_ ?_ ?_); rfl; rfl) | (refine qai ?_; (refine qaa (qae rfl) rfl ?_ ?_ ?_); rfl; rfl) | (refine qaK ?_; (first | refine qaa (qaI rfl rfl (by omega)) rfl ?_ ?_ ?_ | refine qaa (OpW.eqlb rfl rfl) rfl ?_ ?_ ?_ | refine qaa (OpW.eqlS rfl rfl rfl rfl) rfl ?_ ?_ ?_ | refine qaa (qaB rfl rfl (by first | assumption | with_reducible rfl | decide)) rfl ?_ ?_ ?_); rfl; rfl) | (refine qaR ?_; (refine qaa (qax rfl rfl rfl) rfl ?_ ?_ ?_); rfl; rfl) | (refine l_box ?_; refine qaV ?_ ?_ rfl rfl (fun g => ?_); rfl; rfl) | (rw [hS]) | (rw [hb]) | refine qav ?_)
    refine qaC rfl rfl (fun w' hl => ⟨rfl, hl.mod⟩)
  have e : decide (x = y) = true := decide_eq_true (by cases x; cases y; simp_all)
  rw [e]
  have hb : (x.rtl == y.rtl) = true := by simpa using ht
  repeat (first | refine qap ?_ | refine qak ?_ | refine qaf ?_ | refine qab ?_ | (refine qaA ?_; (refine qaa (qal rfl (fun w hl => hT _ hl.mod)) rfl ?_ ?_ ?_); rfl; rfl) | (refine qaF ?_; (first | refine qaa (qaJ 1 (r := x.v.cells) rfl rfl rfl rfl) rfl ?_ ?_ ?_ | refine qaa (qaJ 0 (r := y.v.cells) rfl rfl rfl rfl) rfl ?_ ?_ ?_ | refine qaa (qat 0 rfl rfl rfl) rfl ?_ ?_ ?_ | refine qaa (qat 1 rfl rfl rfl) rfl ?_ ?_ ?_ | refine qaa (qaJ 0 rfl rfl rfl rfl) rfl ?_ ?_ ?_ | refine qaa (qaJ 1 rfl rfl rfl rfl) rfl ?_ ?_ ?_); rfl; rfl) | (refine qam ?_; (refine qaa (qag rfl) rfl ?_ ?_ ?_); rfl; rfl) | (refine qau ?_; (refine qaa (qaj rfl) rfl ?_ ?_ ?_); rfl; rfl) | (refine qai ?_; (refine qaa (qae rfl) rfl ?_ ?_ ?_); rfl; rfl) | (refine qaK ?_; (first | refine qaa (qaI rfl rfl (by omega)) rfl ?_ ?_ ?_ | refine qaa (OpW.eqlb rfl rfl) rfl ?_ ?_ ?_ | refine qaa (OpW.eqlS rfl rfl rfl rfl) rfl ?_ ?_ ?_ | refine qaa (qaB rfl rfl (by first | assumption | with_reducible rfl | decide)) rfl ?_ ?_ ?_); rfl; rfl) | (refine qaR ?_; (refine qaa (qax rfl rfl rfl) rfl ?_ ?_ ?_); rfl; rfl) | (refine l_box ?_; refine qaV ?_ ?_ rfl rfl (fun g => ?_); rfl; rfl) | (rw [hS]) | (rw [hb]) | refine qav ?_)
  refine qaC rfl rfl (fun w' hl => ⟨rfl, hl.mod⟩)

def fitN (n : Int) : Bool := inB n 0 1000000000
def sizeW (n : Int) : List UInt8 := if n = -1 then [97, 110, 121] else Lib.itoa n
def dirW (b : Bool) : List UInt8 := if b then [114, 116, 108] else [108, 116, 114]
def hasKey (k : List UInt8) : Bool := (idxOf intTexts k).isSome || (idxOf valueTexts k).isSome
def onlyA (x : ActL) : ActL := ⟨x.kind, if x.kind = 1 then 0 else x.n, if x.kind = 2 ∨ x.kind = 3 then x.kid else 0, if x.kind = 2 then x.pl else 0, if x.kind = 4 then x.key else [], if x.kind = 4 then x.v else ⟨0, 0⟩, if x.kind = 5 then x.rules else [], if x.kind = 7 then x.wide else 0, if x.kind = 7 then x.high else 0, if x.kind = 7 then x.rtl else false⟩
def actParts (x : ActL) : List (List UInt8) :=
  if x.kind = 1 then [[97, 100, 100]] else if x.kind = 2 then [[105, 110, 115, 101, 114, 116], Lib.itoa x.n, Lib.itoa x.kid, Lib.itoa x.pl] else if x.kind = 3 then [[114, 101, 109, 111, 118, 101], Lib.itoa x.n, Lib.itoa x.kid]
  else if x.kind = 4 then [[115, 101, 116], Lib.itoa x.n, x.key, valText x.v] else if x.kind = 5 then [[116, 97, 98, 108, 101], Lib.itoa x.n, ruleTextOf x.rules] else if x.kind = 6 then [[100, 105, 114, 116, 121], Lib.itoa x.n]
  else [[108, 97, 121], Lib.itoa x.n, sizeW x.wide, sizeW x.high, dirW x.rtl]
def okA (x : ActL) : Bool := inB x.kind 1 7 && decide (x.rules.length ≤ 8)
def fitA (x : ActL) : Bool := fitN x.n && fitN x.kid && fitN x.pl
def toldA (x : ActL) : Bool := if x.kind = 4 then hasKey x.key && valOk x.v else if x.kind = 5 then !decide (ruleTextOf x.rules = []) else true
def actLine (x : ActL) : List UInt8 := if okA x && fitA x && inB x.wide (-1) 1000000000 && inB x.high (-1) 1000000000 && toldA x && decide (x = onlyA x) then Lib.join (actParts x) [32] else []
section
variable {x : ActL}
theorem actLine_1 (h : okA x = false) : actLine x = [] := by simp [actLine, h]
theorem actLine_2 (h : fitA x = false) : actLine x = [] := by simp [actLine, h]
theorem actLine_3 (h : inB x.wide (-1) 1000000000 = false) : actLine x = [] := by simp [actLine, h]
theorem actLine_4 (h : inB x.high (-1) 1000000000 = false) : actLine x = [] := by simp [actLine, h]
theorem actLine_5 (h : toldA x = false) : actLine x = [] := by simp [actLine, h]
theorem actLine_6 (h : ¬ x = onlyA x) : actLine x = [] := by simp [actLine, h]
theorem actLine_y (h1 : okA x = true) (h2 : fitA x = true) (h3 : inB x.wide (-1) 1000000000 = true) (h4 : inB x.high (-1) 1000000000 = true) (h5 : toldA x = true) (h6 : x = onlyA x) : actLine x = Lib.join (actParts x) [32] := by
  unfold actLine
  rw [h1, h2, h3, h4, h5, decide_eq_true h6]
  rfl
theorem fitA_b (h : fitA x = true) : (0 ≤ x.n ∧ x.n ≤ 1000000000) ∧ (0 ≤ x.kid ∧ x.kid ≤ 1000000000) ∧ 0 ≤ x.pl ∧ x.pl ≤ 1000000000 := by
  unfold fitA fitN inB at h
  simp only [Bool.and_eq_true, decide_eq_true_eq] at h
  obtain ⟨⟨⟨a, b⟩, c, d⟩, e, f⟩ := h
  exact ⟨⟨by omega, by omega⟩, ⟨by omega, by omega⟩, by omega, by omega⟩
theorem inB_b {n a b : Int} (h : inB n a b = true) : a ≤ n ∧ n ≤ b := by
  unfold inB at h
  simp only [Bool.and_eq_true, decide_eq_true_eq] at h
  omega
theorem okA_kinds (h : okA x = true) : x.rules.length ≤ 8 ∧ (x.kind = 1 ∨ x.kind = 2 ∨ x.kind = 3 ∨ x.kind = 4 ∨ x.kind = 5 ∨ x.kind = 6 ∨ x.kind = 7) := by
  unfold okA at h
  simp only [Bool.and_eq_true, decide_eq_true_eq] at h
  have := inB_b h.1
  exact ⟨h.2, by omega⟩
end
theorem keyOf_has (s : Style) (k : List UInt8) : (keyOf s k).2 = hasKey k := by
  unfold keyOf hasKey
  cases h1 : idxOf intTexts k with
  | some i => rfl
  | none =>
    cases h2 : idxOf valueTexts k with
    | some i => rfl
    | none => rfl
theorem hasKey_mem {k : List UInt8} : hasKey k = true ↔ k ∈ keyTexts := by
  have h1 : ∀ l : List (List UInt8), (idxOf l k).isSome = true ↔ k ∈ l := fun l => by
    cases hi : idxOf l k with
    | some i => simp [List.mem_of_getElem? (idxOf_at hi)]
    | none =>
      unfold idxOf at hi
      rw [List.findIdx?_eq_none_iff] at hi
      simp only [Option.isSome_none, Bool.false_eq_true, false_iff]
      exact fun hm => by have := hi k hm; simp at this
  unfold hasKey keyTexts
  rw [Bool.or_eq_true, h1, h1, List.mem_append]
theorem keyI_has (k : List UInt8) : decide (keyI keyTexts k < 0) = !hasKey k := by
  by_cases hm : k ∈ keyTexts
  · rw [hasKey_mem.2 hm]
    cases hi : idxOf keyTexts k with
    | some i => rw [keyI_some hi]; simp
    | none =>
      unfold idxOf at hi
      rw [List.findIdx?_eq_none_iff] at hi
      have := hi k hm
      simp at this
  · have h0 : hasKey k = false := Bool.eq_false_iff.2 fun h => hm (hasKey_mem.1 h)
    have hn : idxOf keyTexts k = none := by
      cases hi : idxOf keyTexts k with
      | none => rfl
      | some i => exact (hm (List.mem_of_getElem? (idxOf_at hi))).elim
    rw [h0, keyI_none hn]
    rfl
theorem key_short {k : List UInt8} (h : hasKey k = true) : k.length ≤ 20 := by
  have hall : ∀ k ∈ keyTexts, k.length ≤ 20 := by decide
  exact hall k (hasKey_mem.1 h)
theorem valOk_b {v : Val} (h : valOk v = true) : I64 v.n := by
  unfold valOk at h
  split at h
  · simp only [decide_eq_true_eq] at h
    exact ⟨by omega, by omega⟩
  · split at h
    · have := inB_b h; exact ⟨by omega, by omega⟩
    · split at h
      · have := inB_b h; exact ⟨by omega, by omega⟩
      · cases h
theorem sizeW_short {n : Int} (h : inB n (-1) 1000000000 = true) : (sizeW n).length ≤ 21 := by
  have := inB_b h
  unfold sizeW
  split
  · decide
  · exact Lib.itoa_length_le _ (by omega) (by omega)
theorem dirW_short (b : Bool) : (dirW b).length ≤ 3 := by cases b <;> decide
theorem ruleText_short {l : List Rule} (h : l.length ≤ 8) : (ruleTextOf l).length ≤ 600 := by
  unfold ruleTextOf
  split
  · decide
  · split
    · rename_i hok
      have := ruleJoin_length (tableOk_parts hok).2
      omega
    · decide

theorem actOkL (x : ActL) (a : Option Addr) (c : Nat) (w : World) : Calls Tryz.prog 37 #[.agg (x.row a c).toArray] w fun e w' => e = .returned (.bool (okA x)) ∧ Mod (fun _ => False) w w' := by
  refine calls_sx Tryz.func37 rfl rfl (fun a h1 h2 h3 => ((Fr.nil h1 h2).arg (h3 0 _ rfl))) ?_
  unfold okA
  cases hk : inB x.kind 1 7
  · repeat (first | refine qap ?_ | refine qak ?_ | refine qaf ?_ | refine qab ?_ | (refine SXl.no rfl rfl rfl ?_) | (refine qaA ?_; (refine qaa (OpW.calls rfl (fun w _ => in_any _ _ _ _)) rfl ?_ ?_ ?_); rfl; rfl) | (refine qaF ?_; (refine qaa (qat 0 rfl rfl rfl) rfl ?_ ?_ ?_); rfl; rfl) | (refine qam ?_; (refine qaa (qag rfl) rfl ?_ ?_ ?_); rfl; rfl) | (refine qau ?_; (refine qaa (qaj rfl) rfl ?_ ?_ ?_); rfl; rfl) | (refine qai ?_; (refine qaa (qae rfl) rfl ?_ ?_ ?_); rfl; rfl) | (refine qaR ?_; (refine qaa (qax rfl rfl rfl) rfl ?_ ?_ ?_); rfl; rfl) | (refine l_box ?_; refine qaV ?_ ?_ rfl rfl (fun g => ?_); rfl; rfl) | (rw [hk]) | refine qav ?_)
    refine qaC rfl rfl (fun w' hl => ⟨rfl, hl.mod⟩)
  by_cases h8 : x.rules.length ≤ 8
  · repeat (first | refine qap ?_ | refine qak ?_ | refine qaf ?_ | refine qab ?_ | (refine qaA ?_; (refine qaa (OpW.calls rfl (fun w _ => in_any _ _ _ _)) rfl ?_ ?_ ?_); rfl; rfl) | (refine qaF ?_; (refine qaa (qat 0 rfl rfl rfl) rfl ?_ ?_ ?_); rfl; rfl) | (refine qam ?_; (refine qaa (qag rfl) rfl ?_ ?_ ?_); rfl; rfl) | (refine qau ?_; (refine qaa (qaj rfl) rfl ?_ ?_ ?_); rfl; rfl) | (refine qai ?_; (refine qaa (qae rfl) rfl ?_ ?_ ?_); rfl; rfl) | (refine l_len ?_; (refine qaa (OpW.len rfl) rfl ?_ ?_ ?_); rfl; rfl) | (refine l_leq ?_; (refine qaa (OpW.leqT rfl rfl (by omega)) rfl ?_ ?_ ?_); rfl; rfl) | (refine qaR ?_; (refine qaa (qax rfl rfl rfl) rfl ?_ ?_ ?_); rfl; rfl) | (refine l_box ?_; refine qaV ?_ ?_ rfl rfl (fun g => ?_); rfl; rfl) | (rw [hk]) | refine qav ?_)
    refine qaC rfl rfl (fun w' hl => ⟨by simp [h8], hl.mod⟩)
  · repeat (first | refine qap ?_ | refine qak ?_ | refine qaf ?_ | refine qab ?_ | (refine qaA ?_; (refine qaa (OpW.calls rfl (fun w _ => in_any _ _ _ _)) rfl ?_ ?_ ?_); rfl; rfl) | (refine qaF ?_; (refine qaa (qat 0 rfl rfl rfl) rfl ?_ ?_ ?_); rfl; rfl) | (refine qam ?_; (refine qaa (qag rfl) rfl ?_ ?_ ?_); rfl; rfl) | (refine qau ?_; (refine qaa (qaj rfl) rfl ?_ ?_ ?_); rfl; rfl) | (refine qai ?_; (refine qaa (qae rfl) rfl ?_ ?_ ?_); rfl; rfl) | (refine l_len ?_; (refine qaa (OpW.len rfl) rfl ?_ ?_ ?_); rfl; rfl) | (refine l_leq ?_; (refine qaa (OpW.leqF rfl rfl (by omega)) rfl ?_ ?_ ?_); rfl; rfl) | (refine qaR ?_; (refine qaa (qax rfl rfl rfl) rfl ?_ ?_ ?_); rfl; rfl) | (refine l_box ?_; refine qaV ?_ ?_ rfl rfl (fun g => ?_); rfl; rfl) | (rw [hk]) | refine qav ?_)
    refine qaC rfl rfl (fun w' hl => ⟨by simp [h8], hl.mod⟩)

theorem sactOkL (x : ActL) (a : Option Addr) (c : Nat) (w : World) : Calls Tryz.prog 58 #[.agg (x.row a c).toArray] w fun e w' => e = .returned (.bool (okA x)) ∧ Mod (fun _ => False) w w' := by
  refine calls_sx Tryz.func58 rfl rfl (fun a h1 h2 h3 => ((Fr.nil h1 h2).arg (h3 0 _ rfl))) ?_
  unfold okA
  cases hk : inB x.kind 1 7
  · repeat (first | refine qap ?_ | refine qak ?_ | refine qaf ?_ | refine qab ?_ | (refine SXl.no rfl rfl rfl ?_) | (refine qaA ?_; (refine qaa (OpW.calls rfl (fun w _ => l01In_any _ _ _ _)) rfl ?_ ?_ ?_); rfl; rfl) | (refine qaF ?_; (refine qaa (qat 0 rfl rfl rfl) rfl ?_ ?_ ?_); rfl; rfl) | (refine qam ?_; (refine qaa (qag rfl) rfl ?_ ?_ ?_); rfl; rfl) | (refine qau ?_; (refine qaa (qaj rfl) rfl ?_ ?_ ?_); rfl; rfl) | (refine qai ?_; (refine qaa (qae rfl) rfl ?_ ?_ ?_); rfl; rfl) | (refine qaR ?_; (refine qaa (qax rfl rfl rfl) rfl ?_ ?_ ?_); rfl; rfl) | (refine l_box ?_; refine qaV ?_ ?_ rfl rfl (fun g => ?_); rfl; rfl) | (rw [hk]) | refine qav ?_)
    refine qaC rfl rfl (fun w' hl => ⟨rfl, hl.mod⟩)
  by_cases h8 : x.rules.length ≤ 8
  · repeat (first | refine qap ?_ | refine qak ?_ | refine qaf ?_ | refine qab ?_ | (refine qaA ?_; (refine qaa (OpW.calls rfl (fun w _ => l01In_any _ _ _ _)) rfl ?_ ?_ ?_); rfl; rfl) | (refine qaF ?_; (refine qaa (qat 0 rfl rfl rfl) rfl ?_ ?_ ?_); rfl; rfl) | (refine qam ?_; (refine qaa (qag rfl) rfl ?_ ?_ ?_); rfl; rfl) | (refine qau ?_; (refine qaa (qaj rfl) rfl ?_ ?_ ?_); rfl; rfl) | (refine qai ?_; (refine qaa (qae rfl) rfl ?_ ?_ ?_); rfl; rfl) | (refine l_len ?_; (refine qaa (OpW.len rfl) rfl ?_ ?_ ?_); rfl; rfl) | (refine l_leq ?_; (refine qaa (OpW.leqT rfl rfl (by omega)) rfl ?_ ?_ ?_); rfl; rfl) | (refine qaR ?_; (refine qaa (qax rfl rfl rfl) rfl ?_ ?_ ?_); rfl; rfl) | (refine l_box ?_; refine qaV ?_ ?_ rfl rfl (fun g => ?_); rfl; rfl) | (rw [hk]) | refine qav ?_)
    refine qaC rfl rfl (fun w' hl => ⟨by simp [h8], hl.mod⟩)
  · repeat (first | refine qap ?_ | refine qak ?_ | refine qaf ?_ | refine qab ?_ | (refine qaA ?_; (refine qaa (OpW.calls rfl (fun w _ => l01In_any _ _ _ _)) rfl ?_ ?_ ?_); rfl; rfl) | (refine qaF ?_; (refine qaa (qat 0 rfl rfl rfl) rfl ?_ ?_ ?_); rfl; rfl) | (refine qam ?_; (refine qaa (qag rfl) rfl ?_ ?_ ?_); rfl; rfl) | (refine qau ?_; (refine qaa (qaj rfl) rfl ?_ ?_ ?_); rfl; rfl) | (refine qai ?_; (refine qaa (qae rfl) rfl ?_ ?_ ?_); rfl; rfl) | (refine l_len ?_; (refine qaa (OpW.len rfl) rfl ?_ ?_ ?_); rfl; rfl) | (refine l_leq ?_; (refine qaa (OpW.leqF rfl rfl (by omega)) rfl ?_ ?_ ?_); rfl; rfl) | (refine qaR ?_; (refine qaa (qax rfl rfl rfl) rfl ?_ ?_ ?_); rfl; rfl) | (refine l_box ?_; refine qaV ?_ ?_ rfl rfl (fun g => ?_); rfl; rfl) | (rw [hk]) | refine qav ?_)
    refine qaC rfl rfl (fun w' hl => ⟨by simp [h8], hl.mod⟩)
end Go.Proofs.YtkkjjhooamlljaaGreatDoor
