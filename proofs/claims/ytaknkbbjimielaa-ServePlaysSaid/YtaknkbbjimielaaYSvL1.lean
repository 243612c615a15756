/- What a replica answers: ServePlays, the plain law. -/
import Derived.Test.YtaknkbbjimielaaYSvP
import Derived.Test.YtaknkbbjimielaaYSvWP
namespace Go.Proofs.Ytaknkbbjimielaa

theorem beq_self_b (b : Bool) : (b == b) = true := by cases b <;> rfl

theorem pure_ServePlays (l : List Elaw31_Put) (w0 : Elaw31_View) (x : EMsg) (hl : bdSl bdElaw31_Put l) (_ : bdElaw31_View w0) (hx : bdEMsg x) : F_law31_ServePlays l w0 x = some true := by
 obtain ⟨f, hf⟩ := few31 l
 unfold F_law31_ServePlays
 rw [hf, Option.bind_some]
 generalize hq : ((((((!f) || (decide ((x.conf.members.length : Int) > 20))) || (decide ((x.batch.ops.length : Int) > 20))) || (decide ((x.entries.length : Int) > 20))) || (decide ((x.stamps.length : Int) > 20))) || (decide ((x.pairs.length : Int) > 40))) = q
 cases q
 ·obtain ⟨s, T, rows, h1, h, hc⟩ := stores_ok hl
  have hz : cellsR rows < big := by unfold big; omega
  have ev : ∀ e : Eserve_View, e = vOf { mark := w0.mark, horizon := w0.horizon, epoch := w0.epoch, head := w0.head } → e = vOf { mark := w0.mark, horizon := w0.horizon, epoch := w0.epoch, head := w0.head } := fun _ h => h
  rw [if_neg (by decide), h1, Option.bind_some, show F_serve_At w0.mark w0.horizon w0.epoch w0.head = some (vOf { mark := w0.mark, horizon := w0.horizon, epoch := w0.epoch, head := w0.head }) from rfl, Option.bind_some]
  generalize ({ mark := w0.mark, horizon := w0.horizon, epoch := w0.epoch, head := w0.head } : Eref31_View) = u
  dsimp only
  rw [sv_Answer h hz _ hx, Option.bind_some, rf_Answer h hz, Option.bind_some]
  dsimp only
  rw [ref09_Same _ _ (bdS_ans h hz _ _), Option.bind_some, sameMsg_self, beq_self_b, if_neg (by decide), sv_Get h hz, Option.bind_some, rf_Get h hz, Option.bind_some]
  dsimp only
  rw [ref09_Same _ _ (bdS_get _ _), Option.bind_some, sameMsg_self, gif_true, sv_Scan h hz, Option.bind_some, gif_true, rf_Scan h hz, Option.bind_some, gif_true]
  dsimp only
  rw [ref09_Same _ _ (bdS_scan h hz _ _), Option.bind_some, sameMsg_self, show (true && true) = true from rfl, gif_true, gif_true]
  have hd : bdS (noV (vOf u) x.req x.e) := ⟨Nat.zero_le _, Nat.zero_le _, Nat.zero_le _, fun j hj => absurd hj (Nat.not_lt_zero _), Nat.zero_le _, Nat.zero_le _⟩
  rw [show F_serve_No (vOf u) x.req x.e = some (noV (vOf u) x.req x.e) from rfl, show F_ref31_No u x.req x.e = some (noV (vOf u) x.req x.e) from rfl, Option.bind_some, Option.bind_some, gif_true, ref09_Same _ _ hd, Option.bind_some, sameMsg_self, show (true && true) = true from rfl, gif_true, awakeV]; rfl
 ·rw [if_pos rfl, awakeV]; rfl

end Go.Proofs.Ytaknkbbjimielaa
