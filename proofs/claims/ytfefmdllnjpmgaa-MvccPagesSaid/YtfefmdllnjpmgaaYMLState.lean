/- Many versions: what operations come to over pairs; MvccState's plain law. -/
import Derived.Test.YtfefmdllnjpmgaaYMWState
import Derived.Test.YtfefmdllnjpmgaaYML1
namespace Go.Proofs.Ytfefmdllnjpmgaa
-- a set of keys
-- the last operation of a key
-- lists of pairs in order are told by what they have
def SrtP (l : List EPair) : Prop := l.Pairwise fun a b => sltB a.key b.key = true

theorem vis_key {f to_ : ByteArray} {t : Int} {r : Rw} {p : EPair} (h : visR f to_ t r = some p) : p.key = r.k ∧ atL r.l t = (p.val, true) ∧ inR f to_ r.k = true := by
 unfold visR at h
 split at h
 ·rename_i c
  injection h with h; subst h
  rw [Bool.and_eq_true] at c
  exact ⟨rfl, Prod.ext rfl c.1, c.2⟩
 ·cases h

theorem view_srt {f to_ : ByteArray} {t : Int} : ∀ {rows : List Rw}, Srt rows → SrtP (viewR f to_ t rows)
 | [], _ => List.Pairwise.nil
 | r :: l, hs => by
  obtain ⟨h1, h2⟩ := List.pairwise_cons.1 hs
  unfold viewR
  rw [List.filterMap_cons]
  cases e : visR f to_ t r with
  | none => exact view_srt h2
  | some p =>
   refine List.pairwise_cons.2 ⟨fun y hy => ?_, view_srt h2⟩
   obtain ⟨z, z1, z2⟩ := List.mem_filterMap.1 hy
   rw [(vis_key e).1, (vis_key z2).1]; exact h1 z z1

-- a put at a time that is looked at
end Go.Proofs.Ytfefmdllnjpmgaa
