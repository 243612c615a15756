/- Maps: a block that holds one, as a list of pairs, each key once. No program is named here. -/
import Derived.Test.YtfefmdllnjpmgaaYB
import Derived.WideKeyPair
import Derived.DeepKeys5
import Derived.ChangeKeysEq
namespace Go.Proofs.Ytfefmdllnjpmgaa
open Go.RowKit
open Go.WideMaps (KeyLaw)

theorem PsD.cnv {ds : List Deferred} {ops : Array Oper} {n : Nat} {S : Slots} {G : List GV} {a : Act} (h : PsD ds ops n S G a) {t : Nat} {v v' : Value} (hv : S.lookup t = some v) (e : v = v') : PsD ds ops n ((t, v') :: S) G a := ⟨h.sl.conv hv e, h.gv⟩

section pure
variable {α β : Type} [DecidableEq α]
end pure

/-- how a map's keys and values stand in memory -/
structure MapE (α β : Type) where
 ke : α → Value
 ve : β → Value
 ok : α → Prop
 inj : ∀ a b, ok a → ok b → ke a = ke b → a = b

variable {α β : Type} [DecidableEq α]
section
variable {P : Program} {w : World} {t kt et b clock : Nat} {M : MapE α β} {l : List (α × β)} {es : Array MapEntry}
end

section flow
variable {ds : List Deferred} {P : Program} {ops : Array Oper} {Q : Exit → Act → World → Prop} {a : Act} {w : World} {rest : List Oper} {o : Oper} {n : Nat} {S : Slots} {G : List GV}
variable {I0 D : Dm} {w0 : World} {I : Dm} {cs : List Ch}
end flow

end Go.Proofs.Ytfefmdllnjpmgaa
