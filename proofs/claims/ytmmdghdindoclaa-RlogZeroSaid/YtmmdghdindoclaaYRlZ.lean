/- A replica's log: RlogZero, plain. -/
import Derived.Test.YtmmdghdindoclaaYRlW
import Derived.Test.YtmmdghdindoclaaYP
namespace Go.Proofs.Ytmmdghdindoclaa

structure bdEOp (x : EOp) : Prop where
 key : bdStr x.key
 val : bdStr x.val
 del : bdT x.del

structure bdEBatch (x : EBatch) : Prop where
 client : inI x.client
 req : inI x.req
 ops : (bdSl bdEOp) x.ops

structure bdEEntry (x : EEntry) : Prop where
 batch : bdEBatch x.batch
 ts : inU x.ts

theorem awake17 : F_law17_awake = some true := by kernel_rfl

section
variable (i c : Int) (e : EEntry)
theorem z_At : F_rlog_Log_At (default : Erlog_Log) i = some (default, false) := rfl

theorem z_Set : F_rlog_Log_Set (default : Erlog_Log) i e = some (8, default) := rfl

theorem z_Stamp : F_rlog_Log_Stamp (default : Erlog_Log) i c = some (8, default) := rfl

theorem z_Find : F_rlog_Log_Find (default : Erlog_Log) i c = some (-1, default) := rfl

theorem z_Top : F_rlog_Log_Top (default : Erlog_Log) i = some (0, default) := rfl

theorem z_Thin : F_rlog_Log_Thin (default : Erlog_Log) c i = some 0 := rfl

theorem n_Set : F_rlog_Log_Set_nil i e = some 8 := rfl

theorem n_Stamp : F_rlog_Log_Stamp_nil i c = some 8 := rfl

theorem n_Find : F_rlog_Log_Find_nil i c = some (-1) := rfl

theorem n_Top : F_rlog_Log_Top_nil i = some 0 := rfl

theorem n_Thin : F_rlog_Log_Thin_nil c i = some 0 := rfl

end
theorem pure_RlogZero (i : Int) (e : EEntry) (_ : inI i) (_ : bdEEntry e) : F_law17_RlogZero i e = some true := by
 unfold F_law17_RlogZero
 by_cases c : (e.batch.ops.length : Int) > 20
 ·rw [if_pos (decide_eq_true c), awake17]; rfl
 ·rw [if_neg (by rw [decide_eq_false c]; decide), show F_rlog_Log_At_nil i = some (default, false) from rfl, Option.bind_some, z_At, Option.bind_some, n_Set, Option.bind_some]
  rw [show ((8 : Int) == 8) = true from rfl, gif_true, z_Set, Option.bind_some]
  dsimp only [cond]
  rw [show ((8 : Int) == 8) = true from rfl, show (true && true) = true from rfl, gif_true, n_Stamp, Option.bind_some]
  rw [show ((8 : Int) == 8) = true from rfl, show (true && true) = true from rfl, gif_true]
  dsimp only [cond]
  rw [z_Stamp, Option.bind_some]
  rw [show ((8 : Int) == 8) = true from rfl]
  show (gif true (F_rlog_Log_Find_nil i i) default).bind _ = _
  rw [gif_true, n_Find, Option.bind_some]
  show (gif true (F_rlog_Log_Find (default : Erlog_Log) i i) default).bind _ = _
  rw [gif_true, z_Find, Option.bind_some]
  rw [chk_t (by intro _; show inI (-2); unfold inI; decide)]
  show (gif true (F_rlog_Log_Top_nil i) default).bind _ = _
  rw [gif_true, n_Top, Option.bind_some]
  show (gif true (F_rlog_Log_Top (default : Erlog_Log) i) default).bind _ = _
  rw [gif_true, z_Top, Option.bind_some]
  rw [chk_t (by intro _; show inI (0); unfold inI; decide)]
  show (gif true (F_rlog_Log_Thin_nil e.ts i) default).bind _ = _
  rw [gif_true, n_Thin, Option.bind_some]
  rw [chk_t (by intro _; show inI (0); unfold inI; decide)]
  show (gif true (F_rlog_Log_Thin (default : Erlog_Log) e.ts i) default).bind _ = _
  rw [gif_true, z_Thin, Option.bind_some]
  rw [chk_t (by intro _; show inI (0); unfold inI; decide)]
  show (gif true (F_rlog_Log_Len_nil) default).bind _ = _
  rw [gif_true, show F_rlog_Log_Len_nil = some 0 from rfl, Option.bind_some]
  rw [chk_t (by intro _; show inI (0); unfold inI; decide)]
  show (gif true (F_rlog_Log_Len (default : Erlog_Log)) default).bind _ = _
  rw [gif_true, show F_rlog_Log_Len (default : Erlog_Log) = some 0 from rfl, Option.bind_some]
  rw [chk_t (by intro _; show inI (0); unfold inI; decide)]
  show (gif true (F_rlog_Log_Stamped_nil) default).bind _ = _
  rw [gif_true, show F_rlog_Log_Stamped_nil = some 0 from rfl, Option.bind_some]
  rw [chk_t (by intro _; show inI (0); unfold inI; decide)]
  show (gif true (F_rlog_Log_Stamped (default : Erlog_Log)) default).bind _ = _
  rw [gif_true, show F_rlog_Log_Stamped (default : Erlog_Log) = some 0 from rfl, Option.bind_some]
  rw [chk_t (by intro _; show inI (0); unfold inI; decide)]
  show (gif true (F_rlog_Log_All_nil) default).bind _ = _
  rw [gif_true, show F_rlog_Log_All_nil = some [] from rfl, Option.bind_some]
  rw [chk_t (by intro _; show inI (0); unfold inI; decide)]
  show (gif true (F_rlog_Log_All (default : Erlog_Log)) default).bind _ = _
  rw [gif_true, show F_rlog_Log_All (default : Erlog_Log) = some [] from rfl, Option.bind_some]
  rw [chk_t (by intro _; show inI (0); unfold inI; decide)]
  show (gif true (F_law17_awake) default).bind _ = _
  rw [gif_true, awake17, Option.bind_some]
  rfl

end Go.Proofs.Ytmmdghdindoclaa
