/- Messages read out of bytes: what the program and the document read. -/
import Derived.Test.YthmjkcdpbbcdgaaGreatYMs3
import Derived.Test.YthmjkcdpbbcdgaaGreatYMs4
import Derived.Test.YthmjkcdpbbcdgaaGreatYMsP
namespace Go.Proofs.YthmjkcdpbbcdgaaGreat

theorem i8k : inI 65536 := by unfold inI; omega

theorem iMax : inI 1073741824 := by unfold inI; omega

theorem i21 : inI 21 := by unfold inI; omega

theorem i4k : inI 4 := by unfold inI; omega

theorem i32k : inI 32 := by unfold inI; omega

theorem i15 : inI 15 := by unfold inI; omega

def innerR {α : Type} [Inhabited α] (of : ByteArray → α × Int) (r : DReaderR) (f : α → EMsg) : Int × EMsg × DReaderR :=
 if (rText r 65536).e ≠ 0 then ((rText r 65536).e, f default, rText r 65536) else ((of (rTextV r 65536)).2, f (of (rTextV r 65536)).1, rText r 65536)

def severalR : Nat → DReaderR → List EEntry × Int × DReaderR
 | 0, r => ([], 0, r)
 | n + 1, r => if (rText r 65536).e ≠ 0 then ([], (rText r 65536).e, rText r 65536) else if (entryOf (rTextV r 65536)).2 ≠ 0 then ([], (entryOf (rTextV r 65536)).2, rText r 65536)
  else if (severalR n (rText r 65536)).2.1 ≠ 0 then ([], (severalR n (rText r 65536)).2) else ((entryOf (rTextV r 65536)).1 :: (severalR n (rText r 65536)).1, 0, (severalR n (rText r 65536)).2.2)

def bigRd (r : DReaderR) : Int × DReaderR := ((rBigV r : Int), rBig r)

def pairRd (r : DReaderR) : EPair × DReaderR := (⟨rTextV r 8, rTextV (rText r 8) 8⟩, rText (rText r 8) 8)

/-- a part read: the error, the message, the reader -/
def partR (r : DReaderR) (m : EMsg) : Nat → Int × EMsg × DReaderR
 | 101 => ((rNum r 1073741824).e, { m with epoch := rNumV r 1073741824 }, rNum r 1073741824)
 | 115 => ((rNum r 1073741824).e, { m with serial := rNumV r 1073741824 }, rNum r 1073741824)
 | 114 => ((rNum r 1073741824).e, { m with req := rNumV r 1073741824 }, rNum r 1073741824)
 | 110 => ((rNum r 1073741824).e, { m with n := rNumV r 1073741824 }, rNum r 1073741824)
 | 109 => ((rNum r 1073741824).e, { m with m := rNumV r 1073741824 }, rNum r 1073741824)
 | 112 => ((rNum r 1073741824).e, { m with p := rNumV r 1073741824 }, rNum r 1073741824)
 | 120 => ((rNum r 21).e, { m with e := rNumV r 21 }, rNum r 21)
 | 97 => ((rBig r).e, { m with at_ := (rBigV r : Int) }, rBig r)
 | 108 => ((rBig r).e, { m with last := (rBigV r : Int) }, rBig r)
 | 102 => ((rFlag r).e, { m with flag := rFlagV r }, rFlag r)
 | 107 => ((rText r 8).e, { m with key := rTextV r 8 }, rText r 8)
 | 116 => ((rText r 8).e, { m with to_ := rTextV r 8 }, rText r 8)
 | 67 => innerR confOf r fun x => { m with conf := x }
 | 66 => innerR batchOf r fun x => { m with batch := x }
 | 69 => (if (severalR (rNumV r 4).toNat (rNum r 4)).2.1 ≠ 0 then (severalR (rNumV r 4).toNat (rNum r 4)).2.1 else (severalR (rNumV r 4).toNat (rNum r 4)).2.2.e, { m with entries := (severalR (rNumV r 4).toNat (rNum r 4)).1 }, (severalR (rNumV r 4).toNat (rNum r 4)).2.2)
 | 83 => ((listRd bigRd (rNumV r 8).toNat (rNum r 8)).2.e, { m with stamps := m.stamps ++ (listRd bigRd (rNumV r 8).toNat (rNum r 8)).1 }, (listRd bigRd (rNumV r 8).toNat (rNum r 8)).2)
 | 82 => ((listRd pairRd (rNumV r 32).toNat (rNum r 32)).2.e, { m with pairs := (listRd pairRd (rNumV r 32).toNat (rNum r 32)).1 }, (listRd pairRd (rNumV r 32).toNat (rNum r 32)).2)
 | _ => (0, m, r)

theorem bigRd_ok (r : DReaderR) (h : rdOk r) : rdOk (bigRd r).2 := rBig_ok h

theorem pairRd_ok (r : DReaderR) (h : rdOk r) : rdOk (pairRd r).2 := rText_ok (rText_ok h)

theorem listRd_ok {α : Type} {f : DReaderR → α × DReaderR} (hok : ∀ r, rdOk r → rdOk (f r).2) : ∀ (n : Nat) (r : DReaderR), rdOk r → rdOk (listRd f n r).2
 | 0, _, h => h
 | n + 1, r, h => listRd_ok hok n _ (hok r h)

theorem several_ok : ∀ (n : Nat) (r : DReaderR), rdOk r → rdOk (severalR n r).2.2
 | 0, _, h => h
 | n + 1, r, h => by
  unfold severalR
  split; · exact rText_ok h
  split; · exact rText_ok h
  split
  ·exact several_ok n _ (rText_ok h)
  ·exact several_ok n _ (rText_ok h)

theorem ofRw_eta (r : DReaderR) : ({ s := r.s, at_ := r.at_, e := r.e, made := true } : Ewire_Reader) = ofRw r := rfl

/-- lists read to the end -/
theorem wgen {α σ R : Type} {f : DReaderR → α × DReaderR} {body : (σ → Option R) → σ → Option R} (enc : Int → DReaderR → List α → σ) (fin : List α → DReaderR → Option R) (n : Nat) (l0 : List α) (hok : ∀ r, rdOk r → rdOk (f r).2)
  (h : ∀ rc (k : Nat) (r : DReaderR) (l : List α), rdOk r → k ≤ n → l.length = l0.length + k → body rc (enc (k : Int) r l) = if k < n then rc (enc ((k : Int) + 1) (f r).2 (l ++ [(f r).1])) else fin l r) :
  ∀ (fu k : Nat) (r : DReaderR) (l : List α), rdOk r → k ≤ n → l.length = l0.length + k → n - k < fu → iter body fu (enc (k : Int) r l) = fin (l ++ (listRd f (n - k) r).1) (listRd f (n - k) r).2
 | 0, _, _, _, _, _, _, hf => by omega
 | fu + 1, k, r, l, h1, h2, h3, hf => by
  show body (iter body fu) (enc (k : Int) r l) = _
  rw [h _ k r l h1 h2 h3]
  by_cases hk : k < n
  ·rw [if_pos hk]
   have := wgen enc fin n l0 hok h fu (k + 1) (f r).2 (l ++ [(f r).1]) (hok r h1) hk (by rw [List.length_append]; simp only [List.length_singleton]; omega) (by omega)
   rw [show ((k + 1 : Nat) : Int) = (k : Int) + 1 from rfl] at this
   rw [this, show n - k = (n - (k + 1)) + 1 by omega]
   show fin ((l ++ _) ++ _) _ = fin (l ++ (_ :: _)) _
   rw [List.append_assoc]; rfl
  ·rw [if_neg hk, show n - k = 0 by omega]
   show _ = fin (l ++ []) r
   rw [List.append_nil]

/-- lists read up to an error -/
theorem rgen {α σ R : Type} {f : DReaderR → α × DReaderR} {body : (σ → Option R) → σ → Option R} (enc : Int → DReaderR → List α → σ) (fin : List α → DReaderR → Option R) (n : Nat) (l0 : List α) (hok : ∀ r, rdOk r → rdOk (f r).2) (hst : ∀ n r, r.e ≠ 0 → (listRd f n r).2 = r)
  (h : ∀ rc (k : Nat) (r : DReaderR) (l : List α), rdOk r → k ≤ n → l.length = l0.length + k → body rc (enc (k : Int) r l) = if k < n ∧ r.e = 0 then rc (enc ((k : Int) + 1) (f r).2 (l ++ [(f r).1])) else fin l r) :
  ∀ (fu k : Nat) (r : DReaderR) (l : List α), rdOk r → k ≤ n → l.length = l0.length + k → n - k < fu → ∃ l', iter body fu (enc (k : Int) r l) = fin l' (listRd f (n - k) r).2 ∧ ((listRd f (n - k) r).2.e = 0 → l' = l ++ (listRd f (n - k) r).1)
 | 0, _, _, _, _, _, _, hf => by omega
 | fu + 1, k, r, l, h1, h2, h3, hf => by
  show ∃ l', body (iter body fu) (enc (k : Int) r l) = _ ∧ _
  rw [h _ k r l h1 h2 h3]
  by_cases hk : k < n
  ·by_cases he : r.e = 0
   ·rw [if_pos ⟨hk, he⟩]
    obtain ⟨l', e1, e2⟩ := rgen enc fin n l0 hok hst h fu (k + 1) (f r).2 (l ++ [(f r).1]) (hok r h1) hk (by rw [List.length_append]; simp only [List.length_singleton]; omega) (by omega)
    rw [show ((k + 1 : Nat) : Int) = (k : Int) + 1 from rfl] at e1
    rw [e1, show n - k = (n - (k + 1)) + 1 by omega]
    refine ⟨l', rfl, fun e => (e2 e).trans ?_⟩
    rw [List.append_assoc]; rfl
   ·rw [if_neg (fun x => he x.2)]
    refine ⟨l, by rw [hst _ _ he], fun e => ?_⟩
    rw [hst _ _ he] at e; exact absurd e he
  ·rw [if_neg (fun x => hk x.1), show n - k = 0 by omega]
   exact ⟨l, rfl, fun _ => (List.append_nil l).symm⟩

theorem bigRd_st : ∀ (n : Nat) (r : DReaderR), r.e ≠ 0 → (listRd bigRd n r).2 = r
 | 0, _, _ => rfl
 | n + 1, r, h => by
  have e : (bigRd r).2 = r := (rBig_err h).1
  show (listRd bigRd n (bigRd r).2).2 = r
  rw [e]; exact bigRd_st n r h

theorem pairRd_st : ∀ (n : Nat) (r : DReaderR), r.e ≠ 0 → (listRd pairRd n r).2 = r
 | 0, _, _ => rfl
 | n + 1, r, h => by
  have e1 := (rText_err2 8 h).1
  have e : (pairRd r).2 = r := by show rText (rText r 8) 8 = r; rw [e1, e1]
  show (listRd pairRd n (pairRd r).2).2 = r
  rw [e]; exact pairRd_st n r h

theorem inner_conf {r : DReaderR} (hr : rdOk r) : F_mess_inner_api_Conf__conf_Of (ofRw r) = some (if (rText r 65536).e ≠ 0 then (default, (rText r 65536).e, ofRw (rText r 65536)) else ((confOf (rTextV r 65536)).1, (confOf (rTextV r 65536)).2, ofRw (rText r 65536))) := by
 unfold F_mess_inner_api_Conf__conf_Of
 rw [wR_text hr i8k, Option.bind_some, wR_err, Option.bind_some]
 by_cases h : (rText r 65536).e ≠ 0
 ·rw [if_pos (bne_iff_ne.2 h), if_pos h]
 ·rw [if_neg (fun x => h (bne_iff_ne.1 x)), if_neg h, conf_Of _ (rTextV_size r hr 65536)]; rfl

theorem inner_batch {r : DReaderR} (hr : rdOk r) : F_mess_inner_api_Batch__ops_Of (ofRw r) = some (if (rText r 65536).e ≠ 0 then (default, (rText r 65536).e, ofRw (rText r 65536)) else ((batchOf (rTextV r 65536)).1, (batchOf (rTextV r 65536)).2, ofRw (rText r 65536))) := by
 unfold F_mess_inner_api_Batch__ops_Of
 rw [wR_text hr i8k, Option.bind_some, wR_err, Option.bind_some]
 by_cases h : (rText r 65536).e ≠ 0
 ·rw [if_pos (bne_iff_ne.2 h), if_pos h]
 ·rw [if_neg (fun x => h (bne_iff_ne.1 x)), if_neg h, ops_Of _ (rTextV_size r hr 65536)]; rfl

theorem inner_entry {r : DReaderR} (hr : rdOk r) : F_mess_inner_api_Entry__item_Of (ofRw r) = some (if (rText r 65536).e ≠ 0 then (default, (rText r 65536).e, ofRw (rText r 65536)) else ((entryOf (rTextV r 65536)).1, (entryOf (rTextV r 65536)).2, ofRw (rText r 65536))) := by
 unfold F_mess_inner_api_Entry__item_Of
 rw [wR_text hr i8k, Option.bind_some, wR_err, Option.bind_some]
 by_cases h : (rText r 65536).e ≠ 0
 ·rw [if_pos (bne_iff_ne.2 h), if_pos h]
 ·rw [if_neg (fun x => h (bne_iff_ne.1 x)), if_neg h, item_Of _ (rTextV_size r hr 65536)]; rfl

theorem several_err : ∀ (n : Nat) (r : DReaderR), (severalR n r).2.1 ≠ 0 → (severalR n r).1 = []
 | 0, _, h => absurd rfl h
 | n + 1, r, h => by
  unfold severalR at h ⊢
  by_cases c1 : (rText r 65536).e ≠ 0
  ·rw [if_pos c1]
  rw [if_neg c1] at h ⊢
  by_cases c2 : (entryOf (rTextV r 65536)).2 ≠ 0
  ·rw [if_pos c2]
  rw [if_neg c2] at h ⊢
  by_cases c3 : (severalR n (rText r 65536)).2.1 ≠ 0
  ·rw [if_pos c3]
  ·rw [if_neg c3] at h; exact absurd rfl h

theorem mess_several_loop (n0 : Int × Ewire_Reader) (n : Nat) (hn : n0.1 = (n : Int)) (hn4 : n ≤ 4) : ∀ (fu k : Nat) (r : DReaderR) (l : List EEntry), rdOk r → k ≤ n → l.length = k → n - k < fu →
  iter (F_mess_several_l1 n0) fu (l, (k : Int), r.s, r.at_, r.e, true) = some (if (severalR (n - k) r).2.1 ≠ 0 then ([], (severalR (n - k) r).2.1, ofRw (severalR (n - k) r).2.2) else (l ++ (severalR (n - k) r).1, 0, ofRw (severalR (n - k) r).2.2))
 | 0, _, _, _, _, _, _, hf => by omega
 | fu + 1, k, r, l, h1, h2, h3, hf => by
  show F_mess_several_l1 n0 (iter (F_mess_several_l1 n0) fu) (l, (k : Int), r.s, r.at_, r.e, true) = _
  have hrec := mess_several_loop n0 n hn hn4 fu
  generalize iter (F_mess_several_l1 n0) fu = rc at hrec ⊢
  unfold F_mess_several_l1
  show (if (decide ((k : Int) < n0.1)) = true then (F_mess_inner_api_Entry__item_Of (ofRw r)).bind _ else some (l, 0, ofRw r)) = _
  rw [hn]
  by_cases hk : k < n
  ·rw [if_pos (decide_eq_true (by omega)), inner_entry h1, Option.bind_some, show n - k = (n - (k + 1)) + 1 by omega, severalR]
   by_cases c1 : (rText r 65536).e ≠ 0
   ·rw [if_pos c1, if_pos c1, if_pos (bne_iff_ne.2 c1), if_pos c1]
   rw [if_neg c1, if_neg c1]
   by_cases c2 : (entryOf (rTextV r 65536)).2 ≠ 0
   ·rw [if_pos c2, if_pos (bne_iff_ne.2 c2), if_pos c2]
   rw [if_neg c2, if_neg (fun x => c2 (bne_iff_ne.1 x)), chk_t (by rw [h3]; show ((k + 1 : Nat) : Int) * 48 ≤ _; omega), chk_t (by unfold inI; omega)]
   have := hrec (k + 1) (rText r 65536) (l ++ [(entryOf (rTextV r 65536)).1]) (rText_ok h1) hk (by rw [List.length_append, h3]; rfl) (by omega)
   refine this.trans ?_
   by_cases c3 : (severalR (n - (k + 1)) (rText r 65536)).2.1 ≠ 0
   ·rw [if_pos c3, if_pos c3, if_pos c3]
   ·rw [if_neg c3, if_neg c3, if_neg (fun h => h rfl)]
    show some ((l ++ _) ++ _, _) = some (l ++ (_ :: _), _)
    rw [List.append_assoc]; rfl
  ·rw [if_neg (by rw [decide_eq_false (by omega)]; exact Bool.false_ne_true), show n - k = 0 by omega]
   show some (l, 0, ofRw r) = some (l ++ [], 0, ofRw r)
   rw [List.append_nil]

theorem mess_several {r : DReaderR} (hr : rdOk r) : F_mess_several (ofRw r) = some (if (severalR (rNumV r 4).toNat (rNum r 4)).2.1 ≠ 0 then ([], (severalR (rNumV r 4).toNat (rNum r 4)).2.1, ofRw (severalR (rNumV r 4).toNat (rNum r 4)).2.2) else ((severalR (rNumV r 4).toNat (rNum r 4)).1, 0, ofRw (severalR (rNumV r 4).toNat (rNum r 4)).2.2)) := by
 obtain ⟨n, hn⟩ := rNumV_nat r 4
 have h4 := (rNumV_le (r := r) (most := 4) (by decide)).2
 unfold F_mess_several
 rw [wR_num hr i4k, Option.bind_some, hn, Int.toNat_natCast]
 rw [hn] at h4
 exact mess_several_loop ((n : Int), ofRw (rNum r 4)) n rfl (by omega) FU 0 (rNum r 4) [] (rNum_ok hr) (Nat.zero_le _) rfl (lt_FU (by unfold bdM; omega))

theorem mess_rows {r : DReaderR} (hr : rdOk r) : F_mess_rows (ofRw r) = some ((listRd pairRd (rNumV r 32).toNat (rNum r 32)).1, ofRw (listRd pairRd (rNumV r 32).toNat (rNum r 32)).2) := by
 obtain ⟨n, hn⟩ := rNumV_nat r 32
 have h4 := (rNumV_le (r := r) (most := 32) (by decide)).2
 unfold F_mess_rows
 rw [wR_num hr i32k, Option.bind_some, hn, Int.toNat_natCast]
 rw [hn] at h4
 refine (wgen (f := pairRd) (body := F_mess_rows_l1 ((n : Int), ofRw (rNum r 32))) (fun k r l => (l, k, r.s, r.at_, r.e, true)) (fun l r => some (l, ofRw r)) n [] pairRd_ok (fun rc k r l h1 h2 h3 => ?_) FU 0 (rNum r 32) [] (rNum_ok hr) (Nat.zero_le _) rfl (lt_FU (by unfold bdM; omega))).trans rfl
 unfold F_mess_rows_l1
 show (if (decide ((k : Int) < (n : Int))) = true then (F_wire_Reader_Text (ofRw r) 8).bind _ else some (l, ofRw r)) = _
 have h3' : l.length = k := by simpa using h3
 by_cases hk : k < n
 ·rw [if_pos (decide_eq_true (by omega)), if_pos hk, wR_text h1 i8, Option.bind_some, wR_text (rText_ok h1) i8, Option.bind_some, chk_t (by rw [h3']; show ((k + 1 : Nat) : Int) * 32 ≤ _; omega), chk_t (by unfold inI; omega)]; rfl
 ·rw [if_neg (by rw [decide_eq_false (by omega)]; exact Bool.false_ne_true), if_neg hk]

theorem mess_read_num {r : DReaderR} {m : EMsg} (hr : rdOk r) {c : Int} {o : Nat} (h : F_mess_number c = some (some o)) (ho : (some o).any [1, 2, 3, 7, 8, 9].contains = true) : F_mess_read (ofRw r) m c = some ((rNum r 1073741824).e, ofRw (rNum r 1073741824), { m with epoch := cond (some o == some 1) (rNumV r 1073741824) m.epoch, req := cond (some o == some 2) (rNumV r 1073741824) m.req, serial := cond (some o == some 3) (rNumV r 1073741824) m.serial, n := cond (some o == some 7) (rNumV r 1073741824) m.n, m := cond (some o == some 8) (rNumV r 1073741824) m.m, p := cond (some o == some 9) (rNumV r 1073741824) m.p }) := by
 unfold F_mess_read
 rw [h, Option.bind_some, if_pos (show (!(some o).isNone) = true from rfl), wR_num hr iMax, Option.bind_some, chk_t (show (some o).isSome = true from rfl), chk_t ho, wR_err, Option.bind_some]

theorem mess_read_end {r : DReaderR} {m : EMsg} : F_mess_read_k1 r.s r.at_ r.e true m = some (r.e, ofRw r, m) := by
 unfold F_mess_read_k1; rw [ofRw_eta, wR_err]; rfl

theorem mess_read {r : DReaderR} {m : EMsg} (hr : rdOk r) (hs : m.stamps.length ≤ 1000) {c : Nat} (hc : c ∈ okL) : F_mess_read (ofRw r) m (c : Int) = some ((partR r m c).1, ofRw (partR r m c).2.2, (partR r m c).2.1) := by
 refine okL_cases (P := fun c => F_mess_read (ofRw r) m (c : Int) = some ((partR r m c).1, ofRw (partR r m c).2.2, (partR r m c).2.1)) hc ?_ ?_ ?_ ?_ ?_ ?_ ?_ ?_ ?_ ?_ ?_ ?_ ?_ ?_ ?_ ?_ ?_
 ·exact mess_read_num (c := 101) (o := 1) hr rfl rfl
 ·exact mess_read_num (c := 115) (o := 3) hr rfl rfl
 ·exact mess_read_num (c := 114) (o := 2) hr rfl rfl
 ·exact mess_read_num (c := 110) (o := 7) hr rfl rfl
 ·exact mess_read_num (c := 109) (o := 8) hr rfl rfl
 ·exact mess_read_num (c := 112) (o := 9) hr rfl rfl
 ·show ((F_wire_Reader_Num (ofRw r) 21).bind fun n0 => some (n0.2, ({ m with e := n0.1 } : EMsg))).bind (fun s => F_mess_read_k1 s.1.s s.1.at_ s.1.e s.1.made s.2) = _
  rw [wR_num hr i21, Option.bind_some, Option.bind_some]; exact mess_read_end
 ·show ((F_wire_Reader_Big (ofRw r)).bind fun n0 => some (n0.2, ({ m with at_ := n0.1 } : EMsg))).bind (fun s => F_mess_read_k1 s.1.s s.1.at_ s.1.e s.1.made s.2) = _
  rw [wR_big hr, Option.bind_some, Option.bind_some]; exact mess_read_end
 ·show ((F_wire_Reader_Big (ofRw r)).bind fun n0 => some (n0.2, ({ m with last := n0.1 } : EMsg))).bind (fun s => F_mess_read_k1 s.1.s s.1.at_ s.1.e s.1.made s.2) = _
  rw [wR_big hr, Option.bind_some, Option.bind_some]; exact mess_read_end
 ·show ((F_wire_Reader_Flag (ofRw r)).bind fun n0 => some (n0.2, ({ m with flag := n0.1 } : EMsg))).bind (fun s => F_mess_read_k1 s.1.s s.1.at_ s.1.e s.1.made s.2) = _
  rw [wR_flag hr, Option.bind_some, Option.bind_some]; exact mess_read_end
 ·show ((F_wire_Reader_Text (ofRw r) 8).bind fun n0 => some (n0.2, ({ m with key := n0.1 } : EMsg))).bind (fun s => F_mess_read_k1 s.1.s s.1.at_ s.1.e s.1.made s.2) = _
  rw [wR_text hr i8, Option.bind_some, Option.bind_some]; exact mess_read_end
 ·show ((F_wire_Reader_Text (ofRw r) 8).bind fun n0 => some (n0.2, ({ m with to_ := n0.1 } : EMsg))).bind (fun s => F_mess_read_k1 s.1.s s.1.at_ s.1.e s.1.made s.2) = _
  rw [wR_text hr i8, Option.bind_some, Option.bind_some]; exact mess_read_end
 ·show ((F_mess_inner_api_Conf__conf_Of (ofRw r)).bind fun o => some (o.2.1, o.2.2, ({ m with conf := o.1 } : EMsg))) = some ((innerR confOf r fun x => { m with conf := x }).1, ofRw (innerR confOf r fun x => { m with conf := x }).2.2, (innerR confOf r fun x => { m with conf := x }).2.1)
  rw [inner_conf hr, Option.bind_some]; unfold innerR; split <;> rfl
 ·show ((F_mess_inner_api_Batch__ops_Of (ofRw r)).bind fun o => some (o.2.1, o.2.2, ({ m with batch := o.1 } : EMsg))) = some ((innerR batchOf r fun x => { m with batch := x }).1, ofRw (innerR batchOf r fun x => { m with batch := x }).2.2, (innerR batchOf r fun x => { m with batch := x }).2.1)
  rw [inner_batch hr, Option.bind_some]; unfold innerR; split <;> rfl
 ·show ((F_mess_several (ofRw r)).bind fun s0 => (if (s0.2.1 != 0) = true then (some (s0.2.1, s0.2.2, ({ m with entries := s0.1 } : EMsg))) else (F_mess_read_k1 s0.2.2.s s0.2.2.at_ s0.2.2.e s0.2.2.made ({ m with entries := s0.1 } : EMsg)))) = _
  rw [mess_several hr, Option.bind_some]
  show _ = some ((if (severalR (rNumV r 4).toNat (rNum r 4)).2.1 ≠ 0 then (severalR (rNumV r 4).toNat (rNum r 4)).2.1 else (severalR (rNumV r 4).toNat (rNum r 4)).2.2.e), ofRw (severalR (rNumV r 4).toNat (rNum r 4)).2.2, { m with entries := (severalR (rNumV r 4).toNat (rNum r 4)).1 })
  have he := several_err (rNumV r 4).toNat (rNum r 4)
  generalize severalR (rNumV r 4).toNat (rNum r 4) = q at *
  by_cases h : q.2.1 ≠ 0
  ·rw [if_pos h, if_pos (bne_iff_ne.2 h), if_pos h, he h]
  ·rw [if_neg h, if_neg (show ¬ ((0 : Int) != 0) = true by decide), if_neg h]
   exact mess_read_end
 ·obtain ⟨n, hn⟩ := rNumV_nat r 8
  have h4 := (rNumV_le (r := r) (most := 8) (by decide)).2
  show ((F_wire_Reader_Num (ofRw r) 8).bind fun n0_3 => iter (F_mess_read_l2 n0_3) FU (0, n0_3.2.s, n0_3.2.at_, n0_3.2.e, n0_3.2.made, m)) = some ((listRd bigRd (rNumV r 8).toNat (rNum r 8)).2.e, ofRw (listRd bigRd (rNumV r 8).toNat (rNum r 8)).2, { m with stamps := m.stamps ++ (listRd bigRd (rNumV r 8).toNat (rNum r 8)).1 })
  rw [wR_num hr i8, Option.bind_some, hn, Int.toNat_natCast]
  rw [hn] at h4
  refine (wgen (f := bigRd) (body := F_mess_read_l2 ((n : Int), ofRw (rNum r 8))) (fun k r l => (k, r.s, r.at_, r.e, true, { m with stamps := l })) (fun l r => F_mess_read_k1 r.s r.at_ r.e true { m with stamps := l }) n m.stamps bigRd_ok (fun rc k r l h1 h2 h3 => ?_) FU 0 (rNum r 8) m.stamps (rNum_ok hr) (Nat.zero_le _) rfl (lt_FU (by unfold bdM; omega))).trans mess_read_end
  unfold F_mess_read_l2
  show (if (decide ((k : Int) < (n : Int))) = true then (F_wire_Reader_Big (ofRw r)).bind _ else F_mess_read_k1 r.s r.at_ r.e true { m with stamps := l }) = _
  by_cases hk : k < n
  ·rw [if_pos (decide_eq_true (by omega)), if_pos hk, wR_big h1, Option.bind_some, chk_t (by show ((l.length + 1 : Nat) : Int) * 8 ≤ _; omega), chk_t (by unfold inI; omega)]; rfl
  ·rw [if_neg (by rw [decide_eq_false (by omega)]; exact Bool.false_ne_true), if_neg hk]
 ·show ((F_mess_rows (ofRw r)).bind fun r0_2 => (F_mess_read_k1 r0_2.2.s r0_2.2.at_ r0_2.2.e r0_2.2.made ({ m with pairs := r0_2.1 } : EMsg))) = _
  rw [mess_rows hr, Option.bind_some]; exact mess_read_end

-- the document's
theorem ref09_several_end (m : EMsg) (n0 : Int × Eref02_Reader) {fu : Nat} (hf : 0 < fu) {e k : Int} {r : DReaderR} {l : List EEntry} (h : ¬ (k < n0.1 ∧ r.e = 0 ∧ e = 0)) : iter (F_ref09_lists_l2 m n0) fu (e, k, r.s, r.at_, r.e, l) = some ({ m with entries := l }, e, ofR2 r) := by
 obtain ⟨f, rfl⟩ : ∃ f, fu = f + 1 := ⟨fu - 1, by omega⟩
 show F_ref09_lists_l2 m n0 _ _ = _
 generalize iter (F_ref09_lists_l2 m n0) f = rc
 unfold F_ref09_lists_l2
 show (if ((decide (k < n0.1) && (r.e == 0)) && (e == 0)) = true then _ else _) = _
 rw [if_neg (by simp only [Bool.and_eq_true, decide_eq_true_eq, beq_iff_eq]; exact fun x => h ⟨x.1.1, x.1.2, x.2⟩)]
 rfl

theorem ref09_several_loop (m : EMsg) (n0 : Int × Eref02_Reader) (n : Nat) (hn : n0.1 = (n : Int)) (hn4 : n ≤ 4) : ∀ (fu k : Nat) (r : DReaderR) (l : List EEntry), rdOk r → k ≤ n → l.length ≤ 1000 + k → n - k < fu → r.e = 0 →
  ∃ l' er, iter (F_ref09_lists_l2 m n0) fu (0, (k : Int), r.s, r.at_, r.e, l) = some ({ m with entries := l' }, er, ofR2 (severalR (n - k) r).2.2) ∧ ((severalR (n - k) r).2.1 = 0 → er = 0 ∧ l' = l ++ (severalR (n - k) r).1 ∧ (severalR (n - k) r).2.2.e = 0) ∧ ((severalR (n - k) r).2.1 ≠ 0 → er = (severalR (n - k) r).2.1 ∨ er = 0 ∧ (severalR (n - k) r).2.2.e = (severalR (n - k) r).2.1)
 | 0, _, _, _, _, _, _, hf, _ => by omega
 | fu + 1, k, r, l, h1, h2, h3, hf, h0 => by
  by_cases hk : k < n
  ·have hrec := ref09_several_loop m n0 n hn hn4 fu
   have hend := @ref09_several_end m n0 fu (by omega)
   show ∃ l' er, F_ref09_lists_l2 m n0 (iter (F_ref09_lists_l2 m n0) fu) (0, (k : Int), r.s, r.at_, r.e, l) = _ ∧ _
   generalize iter (F_ref09_lists_l2 m n0) fu = rc at hrec hend ⊢
   rw [show n - k = (n - (k + 1)) + 1 by omega, severalR]
   have e0 : F_ref09_lists_l2 m n0 rc (0, (k : Int), r.s, r.at_, r.e, l) = ((F_ref02_Reader_Text (ofR2 r) 65536).bind fun t_3 => (if (t_3.2.e == 0) = true then ((F_ref08_Of t_3.1).bind fun o_3 => (chk (((l.length + [o_3.1].length : Nat) : Int) * 48 ≤ 140737488355328) (F_ref09_lists_k3 (k : Int) rc o_3.2 t_3.2.s t_3.2.at_ t_3.2.e (l ++ [o_3.1])))) else (F_ref09_lists_k3 (k : Int) rc 0 t_3.2.s t_3.2.at_ t_3.2.e l))) := by
    unfold F_ref09_lists_l2
    show (if ((decide ((k : Int) < n0.1) && (r.e == 0)) && ((0 : Int) == 0)) = true then _ else _) = _
    rw [if_pos (by rw [hn, h0]; simp; omega)]
    rfl
   rw [e0, r2_text h1 i8k, Option.bind_some]
   by_cases c1 : (rText r 65536).e ≠ 0
   ·rw [if_pos c1]
    refine ⟨l, 0, ?_, fun x => absurd x c1, fun _ => .inr ⟨rfl, rfl⟩⟩
    show (if ((rText r 65536).e == 0) = true then _ else F_ref09_lists_k3 (k : Int) rc 0 (rText r 65536).s (rText r 65536).at_ (rText r 65536).e l) = _
    rw [if_neg (fun x => c1 (eq_of_beq x)), F_ref09_lists_k3, chk_t (by unfold inI; omega)]
    exact hend (fun x => c1 x.2.1)
   rw [if_neg c1]
   have c1' : (rText r 65536).e = 0 := Decidable.not_not.1 c1
   have e1 : ∀ (A B : Option (EMsg × Int × Eref02_Reader)), (if (((rTextV r 65536, ofR2 (rText r 65536)) : ByteArray × Eref02_Reader).2.e == 0) = true then A else B) = A := fun A B => if_pos (beq_iff_eq.2 c1')
   rw [e1, ref08_Of _ (rTextV_size r h1 65536), Option.bind_some, chk_t (by show ((l.length + 1 : Nat) : Int) * 48 ≤ _; omega), F_ref09_lists_k3, chk_t (by unfold inI; omega)]
   by_cases c2 : (entryOf (rTextV r 65536)).2 ≠ 0
   ·rw [if_pos c2]
    refine ⟨l ++ [(entryOf (rTextV r 65536)).1], (entryOf (rTextV r 65536)).2, hend (fun x => c2 x.2.2), fun x => absurd x c2, fun _ => .inl rfl⟩
   rw [if_neg c2, Decidable.not_not.1 c2]
   obtain ⟨l', er, g1, g2, g3⟩ := hrec (k + 1) (rText r 65536) (l ++ [(entryOf (rTextV r 65536)).1]) (rText_ok h1) hk (by rw [List.length_append]; simp only [List.length_singleton]; omega) (by omega) c1'
   refine ⟨l', er, ?_, ?_, ?_⟩
   ·refine Eq.trans g1 ?_
    by_cases c3 : (severalR (n - (k + 1)) (rText r 65536)).2.1 ≠ 0
    ·rw [if_pos c3]
    ·rw [if_neg c3]
   ·by_cases c3 : (severalR (n - (k + 1)) (rText r 65536)).2.1 ≠ 0
    ·rw [if_pos c3]; exact fun x => absurd x c3
    ·rw [if_neg c3]
     intro _
     obtain ⟨q1, q2, q3⟩ := g2 (Decidable.not_not.1 c3)
     exact ⟨q1, by rw [q2, List.append_assoc]; rfl, q3⟩
   ·by_cases c3 : (severalR (n - (k + 1)) (rText r 65536)).2.1 ≠ 0
    ·rw [if_pos c3]; exact g3
    ·rw [if_neg c3]; exact fun x => absurd rfl x
  ·have : k = n := by omega
   subst this
   rw [Nat.sub_self]
   exact ⟨l, 0, ref09_several_end m n0 (by omega) (fun x => by rw [hn] at x; omega), fun _ => ⟨rfl, (List.append_nil l).symm, h0⟩, fun x => absurd rfl x⟩

theorem ref09_read {r : DReaderR} {m : EMsg} (hr : rdOk r) (hS : m.stamps.length ≤ 1000) {c : Nat} (hE : c = 69 → m.entries = []) (hP : c = 82 → m.pairs = []) (hc : c ∈ okL) :
  ∃ mr er, F_ref09_read (ofR2 r) m (c : Int) = some (mr, er, ofR2 (partR r m c).2.2) ∧ ((partR r m c).1 = 0 → er = 0 ∧ mr = (partR r m c).2.1 ∧ (partR r m c).2.2.e = 0) ∧ ((partR r m c).1 ≠ 0 → er = (partR r m c).1 ∨ er = 0 ∧ (partR r m c).2.2.e = (partR r m c).1) := by
 refine okL_cases (P := fun c => (c = 69 → m.entries = []) → (c = 82 → m.pairs = []) → ∃ mr er, F_ref09_read (ofR2 r) m (c : Int) = some (mr, er, ofR2 (partR r m c).2.2) ∧ ((partR r m c).1 = 0 → er = 0 ∧ mr = (partR r m c).2.1 ∧ (partR r m c).2.2.e = 0) ∧ ((partR r m c).1 ≠ 0 → er = (partR r m c).1 ∨ er = 0 ∧ (partR r m c).2.2.e = (partR r m c).1)) hc ?_ ?_ ?_ ?_ ?_ ?_ ?_ ?_ ?_ ?_ ?_ ?_ ?_ ?_ ?_ ?_ ?_ hE hP <;> intro hE hP
 ·refine ⟨_, 0, ?_, fun h => ⟨rfl, rfl, h⟩, fun h => .inr ⟨rfl, rfl⟩⟩
  show ((F_ref02_Reader_Num (ofR2 r) 1073741824).bind fun n0 => F_ref09_read_k1 m n0.2.s n0.2.at_ n0.2.e n0.1 m.req m.serial m.flag m.at_ m.last m.n m.m m.p m.e m.key m.to_) = _
  rw [r2_num hr iMax, Option.bind_some]; rfl
 ·refine ⟨_, 0, ?_, fun h => ⟨rfl, rfl, h⟩, fun h => .inr ⟨rfl, rfl⟩⟩
  show ((F_ref02_Reader_Num (ofR2 r) 1073741824).bind fun n0 => F_ref09_read_k1 m n0.2.s n0.2.at_ n0.2.e m.epoch m.req n0.1 m.flag m.at_ m.last m.n m.m m.p m.e m.key m.to_) = _
  rw [r2_num hr iMax, Option.bind_some]; rfl
 ·refine ⟨_, 0, ?_, fun h => ⟨rfl, rfl, h⟩, fun h => .inr ⟨rfl, rfl⟩⟩
  show ((F_ref02_Reader_Num (ofR2 r) 1073741824).bind fun n0 => F_ref09_read_k1 m n0.2.s n0.2.at_ n0.2.e m.epoch n0.1 m.serial m.flag m.at_ m.last m.n m.m m.p m.e m.key m.to_) = _
  rw [r2_num hr iMax, Option.bind_some]; rfl
 ·refine ⟨_, 0, ?_, fun h => ⟨rfl, rfl, h⟩, fun h => .inr ⟨rfl, rfl⟩⟩
  show ((F_ref02_Reader_Num (ofR2 r) 1073741824).bind fun n0 => F_ref09_read_k1 m n0.2.s n0.2.at_ n0.2.e m.epoch m.req m.serial m.flag m.at_ m.last n0.1 m.m m.p m.e m.key m.to_) = _
  rw [r2_num hr iMax, Option.bind_some]; rfl
 ·refine ⟨_, 0, ?_, fun h => ⟨rfl, rfl, h⟩, fun h => .inr ⟨rfl, rfl⟩⟩
  show ((F_ref02_Reader_Num (ofR2 r) 1073741824).bind fun n0 => F_ref09_read_k1 m n0.2.s n0.2.at_ n0.2.e m.epoch m.req m.serial m.flag m.at_ m.last m.n n0.1 m.p m.e m.key m.to_) = _
  rw [r2_num hr iMax, Option.bind_some]; rfl
 ·refine ⟨_, 0, ?_, fun h => ⟨rfl, rfl, h⟩, fun h => .inr ⟨rfl, rfl⟩⟩
  show ((F_ref02_Reader_Num (ofR2 r) 1073741824).bind fun n0 => F_ref09_read_k1 m n0.2.s n0.2.at_ n0.2.e m.epoch m.req m.serial m.flag m.at_ m.last m.n m.m n0.1 m.e m.key m.to_) = _
  rw [r2_num hr iMax, Option.bind_some]; rfl
 ·refine ⟨_, 0, ?_, fun h => ⟨rfl, rfl, h⟩, fun h => .inr ⟨rfl, rfl⟩⟩
  show ((F_ref02_Reader_Num (ofR2 r) 21).bind fun n0 => F_ref09_read_k1 m n0.2.s n0.2.at_ n0.2.e m.epoch m.req m.serial m.flag m.at_ m.last m.n m.m m.p n0.1 m.key m.to_) = _
  rw [r2_num hr i21, Option.bind_some]; rfl
 ·refine ⟨_, 0, ?_, fun h => ⟨rfl, rfl, h⟩, fun h => .inr ⟨rfl, rfl⟩⟩
  show ((F_ref02_Reader_Big (ofR2 r)).bind fun n0 => F_ref09_read_k1 m n0.2.s n0.2.at_ n0.2.e m.epoch m.req m.serial m.flag n0.1 m.last m.n m.m m.p m.e m.key m.to_) = _
  rw [r2_big hr, Option.bind_some]; rfl
 ·refine ⟨_, 0, ?_, fun h => ⟨rfl, rfl, h⟩, fun h => .inr ⟨rfl, rfl⟩⟩
  show ((F_ref02_Reader_Big (ofR2 r)).bind fun n0 => F_ref09_read_k1 m n0.2.s n0.2.at_ n0.2.e m.epoch m.req m.serial m.flag m.at_ n0.1 m.n m.m m.p m.e m.key m.to_) = _
  rw [r2_big hr, Option.bind_some]; rfl
 ·refine ⟨_, 0, ?_, fun h => ⟨rfl, rfl, h⟩, fun h => .inr ⟨rfl, rfl⟩⟩
  show ((F_ref02_Reader_Flag (ofR2 r)).bind fun n0 => F_ref09_read_k1 m n0.2.s n0.2.at_ n0.2.e m.epoch m.req m.serial n0.1 m.at_ m.last m.n m.m m.p m.e m.key m.to_) = _
  rw [r2_flag hr, Option.bind_some]; rfl
 ·refine ⟨_, 0, ?_, fun h => ⟨rfl, rfl, h⟩, fun h => .inr ⟨rfl, rfl⟩⟩
  show ((F_ref02_Reader_Text (ofR2 r) 8).bind fun n0 => F_ref09_read_k1 m n0.2.s n0.2.at_ n0.2.e m.epoch m.req m.serial m.flag m.at_ m.last m.n m.m m.p m.e n0.1 m.to_) = _
  rw [r2_text hr i8, Option.bind_some]; rfl
 ·refine ⟨_, 0, ?_, fun h => ⟨rfl, rfl, h⟩, fun h => .inr ⟨rfl, rfl⟩⟩
  show ((F_ref02_Reader_Text (ofR2 r) 8).bind fun n0 => F_ref09_read_k1 m n0.2.s n0.2.at_ n0.2.e m.epoch m.req m.serial m.flag m.at_ m.last m.n m.m m.p m.e m.key n0.1) = _
  rw [r2_text hr i8, Option.bind_some]; rfl
 ·show ∃ mr er, (((F_ref02_Reader_Text (ofR2 r) 65536).bind fun t => (if (t.2.e == 0) = true then ((F_ref07_Of t.1).bind fun o => (F_ref09_lists_k1 m o.2 t.2.s t.2.at_ t.2.e o.1.epoch o.1.members o.1.floor m.batch.client m.batch.req m.batch.ops m.entries m.stamps m.pairs)) else (F_ref09_lists_k1 m 0 t.2.s t.2.at_ t.2.e m.conf.epoch m.conf.members m.conf.floor m.batch.client m.batch.req m.batch.ops m.entries m.stamps m.pairs))).bind fun l => some (l.1, l.2.1, l.2.2)) = some (mr, er, ofR2 (innerR confOf r fun x => { m with conf := x }).2.2) ∧ ((innerR confOf r fun x => { m with conf := x }).1 = 0 → er = 0 ∧ mr = (innerR confOf r fun x => { m with conf := x }).2.1 ∧ (innerR confOf r fun x => { m with conf := x }).2.2.e = 0) ∧ ((innerR confOf r fun x => { m with conf := x }).1 ≠ 0 → er = (innerR confOf r fun x => { m with conf := x }).1 ∨ er = 0 ∧ (innerR confOf r fun x => { m with conf := x }).2.2.e = (innerR confOf r fun x => { m with conf := x }).1)
  rw [r2_text hr i8k, Option.bind_some]
  unfold innerR
  by_cases c1 : (rText r 65536).e ≠ 0
  ·simp only [if_pos c1]
   refine ⟨m, 0, ?_, fun x => absurd x c1, fun _ => .inr ⟨rfl, trivial⟩⟩
   show ((if ((rText r 65536).e == 0) = true then _ else _ : Option (EMsg × Int × Eref02_Reader)).bind _) = _
   rw [if_neg (fun x => c1 (eq_of_beq x))]; rfl
  ·simp only [if_neg c1]
   have c1' : (rText r 65536).e = 0 := Decidable.not_not.1 c1
   refine ⟨{ m with conf := (confOf (rTextV r 65536)).1 }, (confOf (rTextV r 65536)).2, ?_, fun x => ⟨x, rfl, c1'⟩, fun _ => .inl rfl⟩
   show ((if ((rText r 65536).e == 0) = true then _ else _ : Option (EMsg × Int × Eref02_Reader)).bind _) = _
   rw [if_pos (beq_iff_eq.2 c1'), ref07_Of _ (rTextV_size r hr 65536), Option.bind_some]; rfl
 ·show ∃ mr er, (((F_ref02_Reader_Text (ofR2 r) 65536).bind fun t => (if (t.2.e == 0) = true then ((F_ref06_Of t.1).bind fun o => (F_ref09_lists_k1 m o.2 t.2.s t.2.at_ t.2.e m.conf.epoch m.conf.members m.conf.floor o.1.client o.1.req o.1.ops m.entries m.stamps m.pairs)) else (F_ref09_lists_k1 m 0 t.2.s t.2.at_ t.2.e m.conf.epoch m.conf.members m.conf.floor m.batch.client m.batch.req m.batch.ops m.entries m.stamps m.pairs))).bind fun l => some (l.1, l.2.1, l.2.2)) = some (mr, er, ofR2 (innerR batchOf r fun x => { m with batch := x }).2.2) ∧ ((innerR batchOf r fun x => { m with batch := x }).1 = 0 → er = 0 ∧ mr = (innerR batchOf r fun x => { m with batch := x }).2.1 ∧ (innerR batchOf r fun x => { m with batch := x }).2.2.e = 0) ∧ ((innerR batchOf r fun x => { m with batch := x }).1 ≠ 0 → er = (innerR batchOf r fun x => { m with batch := x }).1 ∨ er = 0 ∧ (innerR batchOf r fun x => { m with batch := x }).2.2.e = (innerR batchOf r fun x => { m with batch := x }).1)
  rw [r2_text hr i8k, Option.bind_some]
  unfold innerR
  by_cases c1 : (rText r 65536).e ≠ 0
  ·simp only [if_pos c1]
   refine ⟨m, 0, ?_, fun x => absurd x c1, fun _ => .inr ⟨rfl, trivial⟩⟩
   show ((if ((rText r 65536).e == 0) = true then _ else _ : Option (EMsg × Int × Eref02_Reader)).bind _) = _
   rw [if_neg (fun x => c1 (eq_of_beq x))]; rfl
  ·simp only [if_neg c1]
   have c1' : (rText r 65536).e = 0 := Decidable.not_not.1 c1
   refine ⟨{ m with batch := (batchOf (rTextV r 65536)).1 }, (batchOf (rTextV r 65536)).2, ?_, fun x => ⟨x, rfl, c1'⟩, fun _ => .inl rfl⟩
   show ((if ((rText r 65536).e == 0) = true then _ else _ : Option (EMsg × Int × Eref02_Reader)).bind _) = _
   rw [if_pos (beq_iff_eq.2 c1'), ref06_Of _ (rTextV_size r hr 65536), Option.bind_some]; rfl
 ·obtain ⟨n, hn⟩ := rNumV_nat r 4
  have h4 := (rNumV_le (r := r) (most := 4) (by decide)).2
  show ∃ mr er, (((F_ref02_Reader_Num (ofR2 r) 4).bind fun n0 => (iter (F_ref09_lists_l2 m n0) FU (0, 0, n0.2.s, n0.2.at_, n0.2.e, m.entries))).bind fun l => some (l.1, l.2.1, l.2.2)) = some (mr, er, ofR2 (severalR (rNumV r 4).toNat (rNum r 4)).2.2) ∧ ((if (severalR (rNumV r 4).toNat (rNum r 4)).2.1 ≠ 0 then (severalR (rNumV r 4).toNat (rNum r 4)).2.1 else (severalR (rNumV r 4).toNat (rNum r 4)).2.2.e) = 0 → er = 0 ∧ mr = { m with entries := (severalR (rNumV r 4).toNat (rNum r 4)).1 } ∧ (severalR (rNumV r 4).toNat (rNum r 4)).2.2.e = 0) ∧ ((if (severalR (rNumV r 4).toNat (rNum r 4)).2.1 ≠ 0 then (severalR (rNumV r 4).toNat (rNum r 4)).2.1 else (severalR (rNumV r 4).toNat (rNum r 4)).2.2.e) ≠ 0 → er = (if (severalR (rNumV r 4).toNat (rNum r 4)).2.1 ≠ 0 then (severalR (rNumV r 4).toNat (rNum r 4)).2.1 else (severalR (rNumV r 4).toNat (rNum r 4)).2.2.e) ∨ er = 0 ∧ (severalR (rNumV r 4).toNat (rNum r 4)).2.2.e = (if (severalR (rNumV r 4).toNat (rNum r 4)).2.1 ≠ 0 then (severalR (rNumV r 4).toNat (rNum r 4)).2.1 else (severalR (rNumV r 4).toNat (rNum r 4)).2.2.e))
  rw [r2_num hr i4k, Option.bind_some, hn, Int.toNat_natCast]
  rw [hn] at h4
  by_cases hz : (rNum r 4).e = 0
  ·obtain ⟨l', er, g1, g2, g3⟩ := ref09_several_loop m ((n : Int), ofR2 (rNum r 4)) n rfl (by omega) FU 0 (rNum r 4) m.entries (rNum_ok hr) (Nat.zero_le _) (by rw [hE rfl]; exact Nat.zero_le _) (lt_FU (by unfold bdM; omega)) hz
   rw [Nat.sub_zero] at g1 g2 g3
   refine ⟨{ m with entries := l' }, er, ?_, ?_, ?_⟩
   ·refine Eq.trans (congrArg (fun x : Option (EMsg × Int × Eref02_Reader) => x.bind fun l => some (l.1, l.2.1, l.2.2)) g1) rfl
   ·by_cases c : (severalR n (rNum r 4)).2.1 ≠ 0
    ·rw [if_pos c]; exact fun x => absurd x c
    ·rw [if_neg c]
     obtain ⟨q1, q2, q3⟩ := g2 (Decidable.not_not.1 c)
     exact fun _ => ⟨q1, by rw [q2, hE rfl]; rfl, q3⟩
   ·by_cases c : (severalR n (rNum r 4)).2.1 ≠ 0
    ·rw [if_pos c]; exact g3
    ·rw [if_neg c]
     obtain ⟨q1, q2, q3⟩ := g2 (Decidable.not_not.1 c)
     exact fun x => absurd q3 x
  ·have hv : rNumV r 4 = 0 := if_pos hz
   have hn0 : n = 0 := by omega
   subst hn0
   refine ⟨{ m with entries := m.entries }, 0, ?_, fun x => absurd x hz, fun _ => .inr ⟨rfl, rfl⟩⟩
   refine Eq.trans (congrArg (fun x : Option (EMsg × Int × Eref02_Reader) => x.bind fun l => some (l.1, l.2.1, l.2.2)) (ref09_several_end m (((0 : Nat) : Int), ofR2 (rNum r 4)) (fu := FU) (by decide) (e := 0) (k := 0) (r := rNum r 4) (l := m.entries) (fun x => hz x.2.1))) rfl
 ·obtain ⟨n, hn⟩ := rNumV_nat r 8
  have h4 := (rNumV_le (r := r) (most := 8) (by decide)).2
  show ∃ mr er, (((F_ref02_Reader_Num (ofR2 r) 8).bind fun n0 => (iter (F_ref09_lists_l4 m n0) FU (0, n0.2.s, n0.2.at_, n0.2.e, m.stamps))).bind fun l => some (l.1, l.2.1, l.2.2)) = some (mr, er, ofR2 (listRd bigRd (rNumV r 8).toNat (rNum r 8)).2) ∧ ((listRd bigRd (rNumV r 8).toNat (rNum r 8)).2.e = 0 → er = 0 ∧ mr = { m with stamps := m.stamps ++ (listRd bigRd (rNumV r 8).toNat (rNum r 8)).1 } ∧ (listRd bigRd (rNumV r 8).toNat (rNum r 8)).2.e = 0) ∧ ((listRd bigRd (rNumV r 8).toNat (rNum r 8)).2.e ≠ 0 → er = (listRd bigRd (rNumV r 8).toNat (rNum r 8)).2.e ∨ er = 0 ∧ (listRd bigRd (rNumV r 8).toNat (rNum r 8)).2.e = (listRd bigRd (rNumV r 8).toNat (rNum r 8)).2.e)
  rw [r2_num hr i8, Option.bind_some, hn, Int.toNat_natCast]
  rw [hn] at h4
  obtain ⟨l', g1, g2⟩ := rgen (f := bigRd) (body := F_ref09_lists_l4 m ((n : Int), ofR2 (rNum r 8))) (fun k r l => (k, r.s, r.at_, r.e, l)) (fun l r => some ({ m with stamps := l }, 0, ofR2 r)) n m.stamps bigRd_ok bigRd_st (fun rc k r l h1 h2 h3 => by
   unfold F_ref09_lists_l4
   show (if ((decide ((k : Int) < (n : Int))) && (r.e == 0)) = true then (F_ref02_Reader_Big (ofR2 r)).bind _ else F_ref09_lists_k1 m 0 r.s r.at_ r.e m.conf.epoch m.conf.members m.conf.floor m.batch.client m.batch.req m.batch.ops m.entries l m.pairs) = _
   by_cases hk : k < n ∧ r.e = 0
   ·rw [if_pos (by simp only [Bool.and_eq_true, decide_eq_true_eq, beq_iff_eq]; exact ⟨by omega, hk.2⟩), if_pos hk, r2_big h1, Option.bind_some, chk_t (by show ((l.length + 1 : Nat) : Int) * 8 ≤ _; omega), chk_t (by unfold inI; omega)]; rfl
   ·rw [if_neg (by simp only [Bool.and_eq_true, decide_eq_true_eq, beq_iff_eq]; omega), if_neg hk]; rfl) FU 0 (rNum r 8) m.stamps (rNum_ok hr) (Nat.zero_le _) rfl (lt_FU (by unfold bdM; omega))
  rw [Nat.sub_zero] at g1 g2
  exact ⟨_, 0, Eq.trans (congrArg (fun x : Option (EMsg × Int × Eref02_Reader) => x.bind fun l => some (l.1, l.2.1, l.2.2)) g1) rfl, fun x => ⟨rfl, by rw [g2 x], x⟩, fun _ => .inr ⟨rfl, rfl⟩⟩
 ·obtain ⟨n, hn⟩ := rNumV_nat r 32
  have h4 := (rNumV_le (r := r) (most := 32) (by decide)).2
  show ∃ mr er, (((F_ref02_Reader_Num (ofR2 r) 32).bind fun n0 => (iter (F_ref09_lists_l5 m n0) FU (0, n0.2.s, n0.2.at_, n0.2.e, m.pairs))).bind fun l => some (l.1, l.2.1, l.2.2)) = some (mr, er, ofR2 (listRd pairRd (rNumV r 32).toNat (rNum r 32)).2) ∧ ((listRd pairRd (rNumV r 32).toNat (rNum r 32)).2.e = 0 → er = 0 ∧ mr = { m with pairs := (listRd pairRd (rNumV r 32).toNat (rNum r 32)).1 } ∧ (listRd pairRd (rNumV r 32).toNat (rNum r 32)).2.e = 0) ∧ ((listRd pairRd (rNumV r 32).toNat (rNum r 32)).2.e ≠ 0 → er = (listRd pairRd (rNumV r 32).toNat (rNum r 32)).2.e ∨ er = 0 ∧ (listRd pairRd (rNumV r 32).toNat (rNum r 32)).2.e = (listRd pairRd (rNumV r 32).toNat (rNum r 32)).2.e)
  rw [r2_num hr i32k, Option.bind_some, hn, Int.toNat_natCast]
  rw [hn] at h4
  obtain ⟨l', g1, g2⟩ := rgen (f := pairRd) (body := F_ref09_lists_l5 m ((n : Int), ofR2 (rNum r 32))) (fun k r l => (k, r.s, r.at_, r.e, l)) (fun l r => some ({ m with pairs := l }, 0, ofR2 r)) n m.pairs pairRd_ok pairRd_st (fun rc k r l h1 h2 h3 => by
   rw [hP rfl] at h3
   have h3' : l.length = 0 + k := h3
   unfold F_ref09_lists_l5
   show (if ((decide ((k : Int) < (n : Int))) && (r.e == 0)) = true then (F_ref02_Reader_Text (ofR2 r) 8).bind _ else F_ref09_lists_k1 m 0 r.s r.at_ r.e m.conf.epoch m.conf.members m.conf.floor m.batch.client m.batch.req m.batch.ops m.entries m.stamps l) = _
   by_cases hk : k < n ∧ r.e = 0
   ·rw [if_pos (by simp only [Bool.and_eq_true, decide_eq_true_eq, beq_iff_eq]; exact ⟨by omega, hk.2⟩), if_pos hk, r2_text h1 i8, Option.bind_some, r2_text (rText_ok h1) i8, Option.bind_some, chk_t (by show ((l.length + 1 : Nat) : Int) * 32 ≤ _; omega), chk_t (by unfold inI; omega)]; rfl
   ·rw [if_neg (by simp only [Bool.and_eq_true, decide_eq_true_eq, beq_iff_eq]; omega), if_neg hk]; rfl) FU 0 (rNum r 32) m.pairs (rNum_ok hr) (Nat.zero_le _) rfl (lt_FU (by unfold bdM; omega))
  rw [Nat.sub_zero] at g1 g2
  exact ⟨_, 0, Eq.trans (congrArg (fun x : Option (EMsg × Int × Eref02_Reader) => x.bind fun l => some (l.1, l.2.1, l.2.2)) g1) rfl, fun x => ⟨rfl, by rw [g2 x, hP rfl]; rfl, x⟩, fun _ => .inr ⟨rfl, rfl⟩⟩

end Go.Proofs.YthmjkcdpbbcdgaaGreat
