/- Messages read out of bytes: what the program and the document read. -/
import Derived.Test.YthmjkcdpbbcdgaaYMs3
import Derived.Test.YthmjkcdpbbcdgaaYMs4
import Derived.Test.YthmjkcdpbbcdgaaYMsP
namespace Go.Proofs.Ythmjkcdpbbcdgaa

theorem i8k : inI 65536 := by unfold inI; omega

theorem iMax : inI 1073741824 := by unfold inI; omega

theorem i21 : inI 21 := by unfold inI; omega

theorem i4k : inI 4 := by unfold inI; omega

theorem i32k : inI 32 := by unfold inI; omega

theorem i15 : inI 15 := by unfold inI; omega

def innerR {α : Type} [Inhabited α] (of : ByteArray → α × Int) (r : DReaderR) (f : α → EMsg) : Int × EMsg × DReaderR :=
 if (rText r 65536).e ≠ 0 then ((rText r 65536).e, f default, rText r 65536) else ((of (rTextV r 65536)).2, f (of (rTextV r 65536)).1, rText r 65536)

def severalR : Nat → DReaderR → List EEntry × Int × DReaderR
 | 0, r => ([], 0, r)
 | n + 1, r => if (rText r 65536).e ≠ 0 then ([], (rText r 65536).e, rText r 65536) else if (entryOf (rTextV r 65536)).2 ≠ 0 then ([], (entryOf (rTextV r 65536)).2, rText r 65536)
  else if (severalR n (rText r 65536)).2.1 ≠ 0 then ([], (severalR n (rText r 65536)).2) else ((entryOf (rTextV r 65536)).1 :: (severalR n (rText r 65536)).1, 0, (severalR n (rText r 65536)).2.2)

def bigRd (r : DReaderR) : Int × DReaderR := ((rBigV r : Int), rBig r)

def pairRd (r : DReaderR) : EPair × DReaderR := (⟨rTextV r 8, rTextV (rText r 8) 8⟩, rText (rText r 8) 8)

/-- a part read: the error, the message, the reader -/
def partR (r : DReaderR) (m : EMsg) : Nat → Int × EMsg × DReaderR
 | 101 => ((rNum r 1073741824).e, { m with epoch := rNumV r 1073741824 }, rNum r 1073741824)
 | 115 => ((rNum r 1073741824).e, { m with serial := rNumV r 1073741824 }, rNum r 1073741824)
 | 114 => ((rNum r 1073741824).e, { m with req := rNumV r 1073741824 }, rNum r 1073741824)
 | 110 => ((rNum r 1073741824).e, { m with n := rNumV r 1073741824 }, rNum r 1073741824)
 | 109 => ((rNum r 1073741824).e, { m with m := rNumV r 1073741824 }, rNum r 1073741824)
 | 112 => ((rNum r 1073741824).e, { m with p := rNumV r 1073741824 }, rNum r 1073741824)
 | 120 => ((rNum r 21).e, { m with e := rNumV r 21 }, rNum r 21)
 | 97 => ((rBig r).e, { m with at_ := (rBigV r : Int) }, rBig r)
 | 108 => ((rBig r).e, { m with last := (rBigV r : Int) }, rBig r)
 | 102 => ((rFlag r).e, { m with flag := rFlagV r }, rFlag r)
 | 107 => ((rText r 8).e, { m with key := rTextV r 8 }, rText r 8)
 | 116 => ((rText r 8).e, { m with to_ := rTextV r 8 }, rText r 8)
 | 67 => innerR confOf r fun x => { m with conf := x }
 | 66 => innerR batchOf r fun x => { m with batch := x }
 | 69 => (if (severalR (rNumV r 4).toNat (rNum r 4)).2.1 ≠ 0 then (severalR (rNumV r 4).toNat (rNum r 4)).2.1 else (severalR (rNumV r 4).toNat (rNum r 4)).2.2.e, { m with entries := (severalR (rNumV r 4).toNat (rNum r 4)).1 }, (severalR (rNumV r 4).toNat (rNum r 4)).2.2)
 | 83 => ((listRd bigRd (rNumV r 8).toNat (rNum r 8)).2.e, { m with stamps := m.stamps ++ (listRd bigRd (rNumV r 8).toNat (rNum r 8)).1 }, (listRd bigRd (rNumV r 8).toNat (rNum r 8)).2)
 | 82 => ((listRd pairRd (rNumV r 32).toNat (rNum r 32)).2.e, { m with pairs := (listRd pairRd (rNumV r 32).toNat (rNum r 32)).1 }, (listRd pairRd (rNumV r 32).toNat (rNum r 32)).2)
 | _ => (0, m, r)

theorem bigRd_ok (r : DReaderR) (h : rdOk r) : rdOk (bigRd r).2 := rBig_ok h

theorem pairRd_ok (r : DReaderR) (h : rdOk r) : rdOk (pairRd r).2 := rText_ok (rText_ok h)

theorem listRd_ok {α : Type} {f : DReaderR → α × DReaderR} (hok : ∀ r, rdOk r → rdOk (f r).2) : ∀ (n : Nat) (r : DReaderR), rdOk r → rdOk (listRd f n r).2
 | 0, _, h => h
 | n + 1, r, h => listRd_ok hok n _ (hok r h)

theorem several_ok : ∀ (n : Nat) (r : DReaderR), rdOk r → rdOk (severalR n r).2.2
 | 0, _, h => h
 | n + 1, r, h => by
  unfold severalR
  split; · exact rText_ok h
  split; · exact rText_ok h
  split
  ·exact several_ok n _ (rText_ok h)
  ·exact several_ok n _ (rText_ok h)

theorem ofRw_eta (r : DReaderR) : ({ s := r.s, at_ := r.at_, e := r.e, made := true } : Ewire_Reader) = ofRw r := rfl

/-- lists read to the end -/
theorem wgen {α σ R : Type} {f : DReaderR → α × DReaderR} {body : (σ → Option R) → σ → Option R} (enc : Int → DReaderR → List α → σ) (fin : List α → DReaderR → Option R) (n : Nat) (l0 : List α) (hok : ∀ r, rdOk r → rdOk (f r).2)
  (h : ∀ rc (k : Nat) (r : DReaderR) (l : List α), rdOk r → k ≤ n → l.length = l0.length + k → body rc (enc (k : Int) r l) = if k < n then rc (enc ((k : Int) + 1) (f r).2 (l ++ [(f r).1])) else fin l r) :
  ∀ (fu k : Nat) (r : DReaderR) (l : List α), rdOk r → k ≤ n → l.length = l0.length + k → n - k < fu → iter body fu (enc (k : Int) r l) = fin (l ++ (listRd f (n - k) r).1) (listRd f (n - k) r).2
 | 0, _, _, _, _, _, _, hf => by omega
 | fu + 1, k, r, l, h1, h2, h3, hf => by
  show body (iter body fu) (enc (k : Int) r l) = _
  rw [h _ k r l h1 h2 h3]
  by_cases hk : k < n
  ·rw [if_pos hk]
   have := wgen enc fin n l0 hok h fu (k + 1) (f r).2 (l ++ [(f r).1]) (hok r h1) hk (by rw [List.length_append]; simp only [List.length_singleton]; omega) (by omega)
   rw [show ((k + 1 : Nat) : Int) = (k : Int) + 1 from rfl] at this
   rw [this, show n - k = (n - (k + 1)) + 1 by omega]
   show fin ((l ++ _) ++ _) _ = fin (l ++ (_ :: _)) _
   rw [List.append_assoc]; rfl
  ·rw [if_neg hk, show n - k = 0 by omega]
   show _ = fin (l ++ []) r
   rw [List.append_nil]

theorem inner_conf {r : DReaderR} (hr : rdOk r) : F_mess_inner_api_Conf__conf_Of (ofRw r) = some (if (rText r 65536).e ≠ 0 then (default, (rText r 65536).e, ofRw (rText r 65536)) else ((confOf (rTextV r 65536)).1, (confOf (rTextV r 65536)).2, ofRw (rText r 65536))) := by
 unfold F_mess_inner_api_Conf__conf_Of
 rw [wR_text hr i8k, Option.bind_some, wR_err, Option.bind_some]
 by_cases h : (rText r 65536).e ≠ 0
 ·rw [if_pos (bne_iff_ne.2 h), if_pos h]
 ·rw [if_neg (fun x => h (bne_iff_ne.1 x)), if_neg h, conf_Of _ (rTextV_size r hr 65536)]; rfl

theorem inner_batch {r : DReaderR} (hr : rdOk r) : F_mess_inner_api_Batch__ops_Of (ofRw r) = some (if (rText r 65536).e ≠ 0 then (default, (rText r 65536).e, ofRw (rText r 65536)) else ((batchOf (rTextV r 65536)).1, (batchOf (rTextV r 65536)).2, ofRw (rText r 65536))) := by
 unfold F_mess_inner_api_Batch__ops_Of
 rw [wR_text hr i8k, Option.bind_some, wR_err, Option.bind_some]
 by_cases h : (rText r 65536).e ≠ 0
 ·rw [if_pos (bne_iff_ne.2 h), if_pos h]
 ·rw [if_neg (fun x => h (bne_iff_ne.1 x)), if_neg h, ops_Of _ (rTextV_size r hr 65536)]; rfl

theorem inner_entry {r : DReaderR} (hr : rdOk r) : F_mess_inner_api_Entry__item_Of (ofRw r) = some (if (rText r 65536).e ≠ 0 then (default, (rText r 65536).e, ofRw (rText r 65536)) else ((entryOf (rTextV r 65536)).1, (entryOf (rTextV r 65536)).2, ofRw (rText r 65536))) := by
 unfold F_mess_inner_api_Entry__item_Of
 rw [wR_text hr i8k, Option.bind_some, wR_err, Option.bind_some]
 by_cases h : (rText r 65536).e ≠ 0
 ·rw [if_pos (bne_iff_ne.2 h), if_pos h]
 ·rw [if_neg (fun x => h (bne_iff_ne.1 x)), if_neg h, item_Of _ (rTextV_size r hr 65536)]; rfl

theorem several_err : ∀ (n : Nat) (r : DReaderR), (severalR n r).2.1 ≠ 0 → (severalR n r).1 = []
 | 0, _, h => absurd rfl h
 | n + 1, r, h => by
  unfold severalR at h ⊢
  by_cases c1 : (rText r 65536).e ≠ 0
  ·rw [if_pos c1]
  rw [if_neg c1] at h ⊢
  by_cases c2 : (entryOf (rTextV r 65536)).2 ≠ 0
  ·rw [if_pos c2]
  rw [if_neg c2] at h ⊢
  by_cases c3 : (severalR n (rText r 65536)).2.1 ≠ 0
  ·rw [if_pos c3]
  ·rw [if_neg c3] at h; exact absurd rfl h

theorem mess_several_loop (n0 : Int × Ewire_Reader) (n : Nat) (hn : n0.1 = (n : Int)) (hn4 : n ≤ 4) : ∀ (fu k : Nat) (r : DReaderR) (l : List EEntry), rdOk r → k ≤ n → l.length = k → n - k < fu →
  iter (F_mess_several_l1 n0) fu (l, (k : Int), r.s, r.at_, r.e, true) = some (if (severalR (n - k) r).2.1 ≠ 0 then ([], (severalR (n - k) r).2.1, ofRw (severalR (n - k) r).2.2) else (l ++ (severalR (n - k) r).1, 0, ofRw (severalR (n - k) r).2.2))
 | 0, _, _, _, _, _, _, hf => by omega
 | fu + 1, k, r, l, h1, h2, h3, hf => by
  show F_mess_several_l1 n0 (iter (F_mess_several_l1 n0) fu) (l, (k : Int), r.s, r.at_, r.e, true) = _
  have hrec := mess_several_loop n0 n hn hn4 fu
  generalize iter (F_mess_several_l1 n0) fu = rc at hrec ⊢
  unfold F_mess_several_l1
  show (if (decide ((k : Int) < n0.1)) = true then (F_mess_inner_api_Entry__item_Of (ofRw r)).bind _ else some (l, 0, ofRw r)) = _
  rw [hn]
  by_cases hk : k < n
  ·rw [if_pos (decide_eq_true (by omega)), inner_entry h1, Option.bind_some, show n - k = (n - (k + 1)) + 1 by omega, severalR]
   by_cases c1 : (rText r 65536).e ≠ 0
   ·rw [if_pos c1, if_pos c1, if_pos (bne_iff_ne.2 c1), if_pos c1]
   rw [if_neg c1, if_neg c1]
   by_cases c2 : (entryOf (rTextV r 65536)).2 ≠ 0
   ·rw [if_pos c2, if_pos (bne_iff_ne.2 c2), if_pos c2]
   rw [if_neg c2, if_neg (fun x => c2 (bne_iff_ne.1 x)), chk_t (by rw [h3]; show ((k + 1 : Nat) : Int) * 48 ≤ _; omega), chk_t (by unfold inI; omega)]
   have := hrec (k + 1) (rText r 65536) (l ++ [(entryOf (rTextV r 65536)).1]) (rText_ok h1) hk (by rw [List.length_append, h3]; rfl) (by omega)
   refine this.trans ?_
   by_cases c3 : (severalR (n - (k + 1)) (rText r 65536)).2.1 ≠ 0
   ·rw [if_pos c3, if_pos c3, if_pos c3]
   ·rw [if_neg c3, if_neg c3, if_neg (fun h => h rfl)]
    show some ((l ++ _) ++ _, _) = some (l ++ (_ :: _), _)
    rw [List.append_assoc]; rfl
  ·rw [if_neg (by rw [decide_eq_false (by omega)]; exact Bool.false_ne_true), show n - k = 0 by omega]
   show some (l, 0, ofRw r) = some (l ++ [], 0, ofRw r)
   rw [List.append_nil]

theorem mess_several {r : DReaderR} (hr : rdOk r) : F_mess_several (ofRw r) = some (if (severalR (rNumV r 4).toNat (rNum r 4)).2.1 ≠ 0 then ([], (severalR (rNumV r 4).toNat (rNum r 4)).2.1, ofRw (severalR (rNumV r 4).toNat (rNum r 4)).2.2) else ((severalR (rNumV r 4).toNat (rNum r 4)).1, 0, ofRw (severalR (rNumV r 4).toNat (rNum r 4)).2.2)) := by
 obtain ⟨n, hn⟩ := rNumV_nat r 4
 have h4 := (rNumV_le (r := r) (most := 4) (by decide)).2
 unfold F_mess_several
 rw [wR_num hr i4k, Option.bind_some, hn, Int.toNat_natCast]
 rw [hn] at h4
 exact mess_several_loop ((n : Int), ofRw (rNum r 4)) n rfl (by omega) FU 0 (rNum r 4) [] (rNum_ok hr) (Nat.zero_le _) rfl (lt_FU (by unfold bdM; omega))

theorem mess_rows {r : DReaderR} (hr : rdOk r) : F_mess_rows (ofRw r) = some ((listRd pairRd (rNumV r 32).toNat (rNum r 32)).1, ofRw (listRd pairRd (rNumV r 32).toNat (rNum r 32)).2) := by
 obtain ⟨n, hn⟩ := rNumV_nat r 32
 have h4 := (rNumV_le (r := r) (most := 32) (by decide)).2
 unfold F_mess_rows
 rw [wR_num hr i32k, Option.bind_some, hn, Int.toNat_natCast]
 rw [hn] at h4
 refine (wgen (f := pairRd) (body := F_mess_rows_l1 ((n : Int), ofRw (rNum r 32))) (fun k r l => (l, k, r.s, r.at_, r.e, true)) (fun l r => some (l, ofRw r)) n [] pairRd_ok (fun rc k r l h1 h2 h3 => ?_) FU 0 (rNum r 32) [] (rNum_ok hr) (Nat.zero_le _) rfl (lt_FU (by unfold bdM; omega))).trans rfl
 unfold F_mess_rows_l1
 show (if (decide ((k : Int) < (n : Int))) = true then (F_wire_Reader_Text (ofRw r) 8).bind _ else some (l, ofRw r)) = _
 have h3' : l.length = k := by simpa using h3
 by_cases hk : k < n
 ·rw [if_pos (decide_eq_true (by omega)), if_pos hk, wR_text h1 i8, Option.bind_some, wR_text (rText_ok h1) i8, Option.bind_some, chk_t (by rw [h3']; show ((k + 1 : Nat) : Int) * 32 ≤ _; omega), chk_t (by unfold inI; omega)]; rfl
 ·rw [if_neg (by rw [decide_eq_false (by omega)]; exact Bool.false_ne_true), if_neg hk]

theorem mess_read_num {r : DReaderR} {m : EMsg} (hr : rdOk r) {c : Int} {o : Nat} (h : F_mess_number c = some (some o)) (ho : (some o).any [1, 2, 3, 7, 8, 9].contains = true) : F_mess_read (ofRw r) m c = some ((rNum r 1073741824).e, ofRw (rNum r 1073741824), { m with epoch := cond (some o == some 1) (rNumV r 1073741824) m.epoch, req := cond (some o == some 2) (rNumV r 1073741824) m.req, serial := cond (some o == some 3) (rNumV r 1073741824) m.serial, n := cond (some o == some 7) (rNumV r 1073741824) m.n, m := cond (some o == some 8) (rNumV r 1073741824) m.m, p := cond (some o == some 9) (rNumV r 1073741824) m.p }) := by
 unfold F_mess_read
 rw [h, Option.bind_some, if_pos (show (!(some o).isNone) = true from rfl), wR_num hr iMax, Option.bind_some, chk_t (show (some o).isSome = true from rfl), chk_t ho, wR_err, Option.bind_some]

theorem mess_read_end {r : DReaderR} {m : EMsg} : F_mess_read_k1 r.s r.at_ r.e true m = some (r.e, ofRw r, m) := by
 unfold F_mess_read_k1; rw [ofRw_eta, wR_err]; rfl

theorem mess_read {r : DReaderR} {m : EMsg} (hr : rdOk r) (hs : m.stamps.length ≤ 1000) {c : Nat} (hc : c ∈ okL) : F_mess_read (ofRw r) m (c : Int) = some ((partR r m c).1, ofRw (partR r m c).2.2, (partR r m c).2.1) := by
 refine okL_cases (P := fun c => F_mess_read (ofRw r) m (c : Int) = some ((partR r m c).1, ofRw (partR r m c).2.2, (partR r m c).2.1)) hc ?_ ?_ ?_ ?_ ?_ ?_ ?_ ?_ ?_ ?_ ?_ ?_ ?_ ?_ ?_ ?_ ?_
 ·exact mess_read_num (c := 101) (o := 1) hr rfl rfl
 ·exact mess_read_num (c := 115) (o := 3) hr rfl rfl
 ·exact mess_read_num (c := 114) (o := 2) hr rfl rfl
 ·exact mess_read_num (c := 110) (o := 7) hr rfl rfl
 ·exact mess_read_num (c := 109) (o := 8) hr rfl rfl
 ·exact mess_read_num (c := 112) (o := 9) hr rfl rfl
 ·show ((F_wire_Reader_Num (ofRw r) 21).bind fun n0 => some (n0.2, ({ m with e := n0.1 } : EMsg))).bind (fun s => F_mess_read_k1 s.1.s s.1.at_ s.1.e s.1.made s.2) = _
  rw [wR_num hr i21, Option.bind_some, Option.bind_some]; exact mess_read_end
 ·show ((F_wire_Reader_Big (ofRw r)).bind fun n0 => some (n0.2, ({ m with at_ := n0.1 } : EMsg))).bind (fun s => F_mess_read_k1 s.1.s s.1.at_ s.1.e s.1.made s.2) = _
  rw [wR_big hr, Option.bind_some, Option.bind_some]; exact mess_read_end
 ·show ((F_wire_Reader_Big (ofRw r)).bind fun n0 => some (n0.2, ({ m with last := n0.1 } : EMsg))).bind (fun s => F_mess_read_k1 s.1.s s.1.at_ s.1.e s.1.made s.2) = _
  rw [wR_big hr, Option.bind_some, Option.bind_some]; exact mess_read_end
 ·show ((F_wire_Reader_Flag (ofRw r)).bind fun n0 => some (n0.2, ({ m with flag := n0.1 } : EMsg))).bind (fun s => F_mess_read_k1 s.1.s s.1.at_ s.1.e s.1.made s.2) = _
  rw [wR_flag hr, Option.bind_some, Option.bind_some]; exact mess_read_end
 ·show ((F_wire_Reader_Text (ofRw r) 8).bind fun n0 => some (n0.2, ({ m with key := n0.1 } : EMsg))).bind (fun s => F_mess_read_k1 s.1.s s.1.at_ s.1.e s.1.made s.2) = _
  rw [wR_text hr i8, Option.bind_some, Option.bind_some]; exact mess_read_end
 ·show ((F_wire_Reader_Text (ofRw r) 8).bind fun n0 => some (n0.2, ({ m with to_ := n0.1 } : EMsg))).bind (fun s => F_mess_read_k1 s.1.s s.1.at_ s.1.e s.1.made s.2) = _
  rw [wR_text hr i8, Option.bind_some, Option.bind_some]; exact mess_read_end
 ·show ((F_mess_inner_api_Conf__conf_Of (ofRw r)).bind fun o => some (o.2.1, o.2.2, ({ m with conf := o.1 } : EMsg))) = some ((innerR confOf r fun x => { m with conf := x }).1, ofRw (innerR confOf r fun x => { m with conf := x }).2.2, (innerR confOf r fun x => { m with conf := x }).2.1)
  rw [inner_conf hr, Option.bind_some]; unfold innerR; split <;> rfl
 ·show ((F_mess_inner_api_Batch__ops_Of (ofRw r)).bind fun o => some (o.2.1, o.2.2, ({ m with batch := o.1 } : EMsg))) = some ((innerR batchOf r fun x => { m with batch := x }).1, ofRw (innerR batchOf r fun x => { m with batch := x }).2.2, (innerR batchOf r fun x => { m with batch := x }).2.1)
  rw [inner_batch hr, Option.bind_some]; unfold innerR; split <;> rfl
 ·show ((F_mess_several (ofRw r)).bind fun s0 => (if (s0.2.1 != 0) = true then (some (s0.2.1, s0.2.2, ({ m with entries := s0.1 } : EMsg))) else (F_mess_read_k1 s0.2.2.s s0.2.2.at_ s0.2.2.e s0.2.2.made ({ m with entries := s0.1 } : EMsg)))) = _
  rw [mess_several hr, Option.bind_some]
  show _ = some ((if (severalR (rNumV r 4).toNat (rNum r 4)).2.1 ≠ 0 then (severalR (rNumV r 4).toNat (rNum r 4)).2.1 else (severalR (rNumV r 4).toNat (rNum r 4)).2.2.e), ofRw (severalR (rNumV r 4).toNat (rNum r 4)).2.2, { m with entries := (severalR (rNumV r 4).toNat (rNum r 4)).1 })
  have he := several_err (rNumV r 4).toNat (rNum r 4)
  generalize severalR (rNumV r 4).toNat (rNum r 4) = q at *
  by_cases h : q.2.1 ≠ 0
  ·rw [if_pos h, if_pos (bne_iff_ne.2 h), if_pos h, he h]
  ·rw [if_neg h, if_neg (show ¬ ((0 : Int) != 0) = true by decide), if_neg h]
   exact mess_read_end
 ·obtain ⟨n, hn⟩ := rNumV_nat r 8
  have h4 := (rNumV_le (r := r) (most := 8) (by decide)).2
  show ((F_wire_Reader_Num (ofRw r) 8).bind fun n0_3 => iter (F_mess_read_l2 n0_3) FU (0, n0_3.2.s, n0_3.2.at_, n0_3.2.e, n0_3.2.made, m)) = some ((listRd bigRd (rNumV r 8).toNat (rNum r 8)).2.e, ofRw (listRd bigRd (rNumV r 8).toNat (rNum r 8)).2, { m with stamps := m.stamps ++ (listRd bigRd (rNumV r 8).toNat (rNum r 8)).1 })
  rw [wR_num hr i8, Option.bind_some, hn, Int.toNat_natCast]
  rw [hn] at h4
  refine (wgen (f := bigRd) (body := F_mess_read_l2 ((n : Int), ofRw (rNum r 8))) (fun k r l => (k, r.s, r.at_, r.e, true, { m with stamps := l })) (fun l r => F_mess_read_k1 r.s r.at_ r.e true { m with stamps := l }) n m.stamps bigRd_ok (fun rc k r l h1 h2 h3 => ?_) FU 0 (rNum r 8) m.stamps (rNum_ok hr) (Nat.zero_le _) rfl (lt_FU (by unfold bdM; omega))).trans mess_read_end
  unfold F_mess_read_l2
  show (if (decide ((k : Int) < (n : Int))) = true then (F_wire_Reader_Big (ofRw r)).bind _ else F_mess_read_k1 r.s r.at_ r.e true { m with stamps := l }) = _
  by_cases hk : k < n
  ·rw [if_pos (decide_eq_true (by omega)), if_pos hk, wR_big h1, Option.bind_some, chk_t (by show ((l.length + 1 : Nat) : Int) * 8 ≤ _; omega), chk_t (by unfold inI; omega)]; rfl
  ·rw [if_neg (by rw [decide_eq_false (by omega)]; exact Bool.false_ne_true), if_neg hk]
 ·show ((F_mess_rows (ofRw r)).bind fun r0_2 => (F_mess_read_k1 r0_2.2.s r0_2.2.at_ r0_2.2.e r0_2.2.made ({ m with pairs := r0_2.1 } : EMsg))) = _
  rw [mess_rows hr, Option.bind_some]; exact mess_read_end

-- the document's
end Go.Proofs.Ythmjkcdpbbcdgaa
