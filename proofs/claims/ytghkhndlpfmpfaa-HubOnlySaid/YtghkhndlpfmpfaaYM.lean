/- Maps: a block that holds one, as a list of pairs, each key once. No program is named here. -/
import Derived.Test.YtghkhndlpfmpfaaYB
import Derived.WideKeyPair
import Derived.DeepKeys5
import Derived.ChangeKeysEq
namespace Go.Proofs.Ytghkhndlpfmpfaa
open Go.RowKit
open Go.WideMaps (KeyLaw)

section pure
variable {α β : Type} [DecidableEq α]
end pure

/-- how a map's keys and values stand in memory -/
structure MapE (α β : Type) where
 ke : α → Value
 ve : β → Value
 ok : α → Prop
 inj : ∀ a b, ok a → ok b → ke a = ke b → a = b

variable {α β : Type} [DecidableEq α]
section
variable {P : Program} {w : World} {t kt et b clock : Nat} {M : MapE α β} {l : List (α × β)} {es : Array MapEntry}
end

theorem pick_or1 (c : Bool) : (if c then Value.bool true else cond (!c) (.bool true) undef) = .bool true := by cases c <;> rfl

section flow
variable {ds : List Deferred} {P : Program} {ops : Array Oper} {Q : Exit → Act → World → Prop} {a : Act} {w : World} {rest : List Oper} {o : Oper} {n : Nat} {S : Slots} {G : List GV}
variable {I0 D : Dm} {w0 : World} {I : Dm} {cs : List Ch}
end flow

end Go.Proofs.Ytghkhndlpfmpfaa
