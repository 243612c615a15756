/- Messages there and back: plain. -/
import Derived.Test.YthmjkcdpbbcdgaaYMsU
import Derived.Test.YthmjkcdpbbcdgaaYMsQ
import Derived.Test.YthmjkcdpbbcdgaaYMsWB
namespace Go.Proofs.Ythmjkcdpbbcdgaa

theorem num_there {r : DReaderR} {z most : Int} {q : List Nat} (h : Rd r (vputL z.toNat ++ q)) (h0 : 0 ≤ z) (h1 : z ≤ most) (hm : most < 18446744073709551616) : rNumV r most = z ∧ Rd (rNum r most) q := by
 obtain ⟨v, g⟩ := h.num (most := most) (by omega) hm
 exact ⟨v.trans (Int.toNat_of_nonneg h0), g⟩

theorem big_there {r : DReaderR} {z : Int} {q : List Nat} (h : Rd r (vputL z.toNat ++ q)) (h0 : inU z) : ((rBigV r : Nat) : Int) = z ∧ Rd (rBig r) q := by
 unfold inU at h0
 obtain ⟨v, g⟩ := h.big (by omega)
 exact ⟨by rw [v, Int.toNat_of_nonneg h0.1], g⟩

theorem text_there {r : DReaderR} {t : ByteArray} {most : Int} {q : List Nat} (h : Rd r (textB t ++ q)) (h1 : (t.size : Int) ≤ most) (hm : most < 18446744073709551616) : rTextV r most = t ∧ Rd (rText r most) q := by
 unfold textB at h; rw [List.append_assoc] at h; exact h.text h1 hm

theorem inner_there {r : DReaderR} {t : ByteArray} {L q : List Nat} (ht : bL t = L) (hl : L.length ≤ 60000) (h : Rd r (vputL L.length ++ L ++ q)) : rTextV r 65536 = t ∧ Rd (rText r 65536) q := by
 subst ht
 rw [bL_len] at h hl
 refine text_there (q := q) ?_ (by omega) (by decide)
 unfold textB; exact h

theorem several_there : ∀ (l : List EEntry) (r : DReaderR) (q : List Nat), (∀ e ∈ l, batchCheck e.batch = 0 ∧ inU e.ts) → Rd r (l.flatMap innerE ++ q) → (severalR l.length r).1 = l ∧ (severalR l.length r).2.1 = 0 ∧ Rd (severalR l.length r).2.2 q
 | [], r, q, _, h => ⟨rfl, rfl, h⟩
 | e :: l, r, q, hm, h => by
  obtain ⟨h1, h2⟩ := hm e (by simp)
  obtain ⟨p, _, p5⟩ := item_Put1 e h2 h1
  rw [List.flatMap_cons, List.append_assoc] at h
  obtain ⟨v, g⟩ := inner_there p5 (by have := entryB_len h1; omega) h
  obtain ⟨a1, a2, a3⟩ := several_there l _ q (fun x hx => hm x (by simp [hx])) g
  rw [List.length_cons]
  unfold severalR
  have c1 : ¬ (rText r 65536).e ≠ 0 := fun x => x g.e
  have c2 : entryOf (rTextV r 65536) = (e, 0) := by rw [v]; exact entryOf_there e p.1 h1 h2 p5
  rw [if_neg c1, c2, if_neg (fun x => x rfl), if_neg (fun x => x a2)]
  exact ⟨by show e :: _ = _; rw [a1], rfl, a3⟩

theorem pairRd_there (a : EPair) (r : DReaderR) (q : List Nat) (h : pairBad a = 0) (hr : Rd r (pairB a ++ q)) : (pairRd r).1 = a ∧ Rd (pairRd r).2 q := by
 have hp := pair_ok h
 unfold pairB at hr
 rw [List.append_assoc] at hr
 obtain ⟨v1, r1⟩ := text_there (most := 8) hr (by omega) (by decide)
 obtain ⟨v2, r2⟩ := text_there (most := 8) r1 (by omega) (by decide)
 exact ⟨by unfold pairRd; rw [v1, v2], r2⟩

theorem bigRd_there (a : Int) (r : DReaderR) (q : List Nat) (h : inU a) (hr : Rd r (bigB a ++ q)) : (bigRd r).1 = a ∧ Rd (bigRd r).2 q := big_there hr h

theorem part_num {r : DReaderR} {q : List Nat} {z most : Int} (hr : Rd r (vputL z.toNat ++ q)) (h : 0 ≤ z ∧ z ≤ most) (hm : most < 18446744073709551616) (f : Int → EMsg) :
  (rNum r most).e = 0 ∧ f (rNumV r most) = f z ∧ Rd (rNum r most) q := by
 obtain ⟨v, g⟩ := num_there hr h.1 h.2 hm
 exact ⟨g.e, by rw [v], g⟩

theorem part_there {r : DReaderR} {x m : EMsg} {q : List Nat} {c : Nat} (hc : c ∈ okL) (h : wrongC m c = 0) (hb : bdEMsg m) (hs : c = 83 → x.stamps = []) (hr : Rd r (letB m c ++ q)) :
  (partR r x c).1 = 0 ∧ (partR r x c).2.1 = layC x m c ∧ Rd (partR r x c).2.2 q := by
 refine okL_cases (P := fun c => wrongC m c = 0 → (c = 83 → x.stamps = []) → Rd r (letB m c ++ q) → (partR r x c).1 = 0 ∧ (partR r x c).2.1 = layC x m c ∧ Rd (partR r x c).2.2 q) hc ?_ ?_ ?_ ?_ ?_ ?_ ?_ ?_ ?_ ?_ ?_ ?_ ?_ ?_ ?_ ?_ ?_ h hs hr <;> intro h hs hr
 ·exact part_num hr (rng_ok h) (by decide) fun z => { x with epoch := z }
 ·exact part_num hr (rng_ok h) (by decide) fun z => { x with serial := z }
 ·exact part_num hr (rng_ok h) (by decide) fun z => { x with req := z }
 ·exact part_num hr (rng_ok h) (by decide) fun z => { x with n := z }
 ·exact part_num hr (rng_ok h) (by decide) fun z => { x with m := z }
 ·exact part_num hr (rng_ok h) (by decide) fun z => { x with p := z }
 ·exact part_num hr (part120 h) (by decide) fun z => { x with e := z }
 ·obtain ⟨v, g⟩ := big_there hr hb.at_
  exact ⟨g.e, by show ({ x with at_ := ((rBigV r : Nat) : Int) } : EMsg) = _; rw [v]; rfl, g⟩
 ·obtain ⟨v, g⟩ := big_there hr hb.last
  exact ⟨g.e, by show ({ x with last := ((rBigV r : Nat) : Int) } : EMsg) = _; rw [v]; rfl, g⟩
 ·obtain ⟨v, g⟩ := Rd.flag (b := m.flag) (l := q) hr
  exact ⟨g.e, by show ({ x with flag := rFlagV r } : EMsg) = _; rw [v]; rfl, g⟩
 ·obtain ⟨v, g⟩ := text_there (most := 8) hr (by have := part107 h; omega) (by decide)
  exact ⟨g.e, by show ({ x with key := rTextV r 8 } : EMsg) = _; rw [v]; rfl, g⟩
 ·obtain ⟨v, g⟩ := text_there (most := 8) hr (by have := part116 h; omega) (by decide)
  exact ⟨g.e, by show ({ x with to_ := rTextV r 8 } : EMsg) = _; rw [v]; rfl, g⟩
 ·have hk : confCheck m.conf = 0 := h
  obtain ⟨p, _, p5⟩ := conf_Put1 m.conf hb.conf hk
  obtain ⟨v, g⟩ := inner_there (q := q) p5 (by have := confB_len (confCheck_ok hk).2.2.2.1; omega) hr
  have e : confOf (rTextV r 65536) = (m.conf, 0) := by rw [v]; exact confOf_there m.conf p.1 hk hb.conf.floor p5
  show (innerR confOf r fun y => { x with conf := y }).1 = 0 ∧ (innerR confOf r fun y => { x with conf := y }).2.1 = { x with conf := m.conf } ∧ Rd (innerR confOf r fun y => { x with conf := y }).2.2 q
  unfold innerR
  rw [if_neg (fun z => z g.e), e]
  exact ⟨rfl, rfl, g⟩
 ·have hk : batchCheck m.batch = 0 := h
  obtain ⟨p, _, p5⟩ := ops_Put1 m.batch hk
  obtain ⟨v, g⟩ := inner_there (q := q) p5 (by have := batchB_len hk; omega) hr
  have e : batchOf (rTextV r 65536) = (m.batch, 0) := by rw [v]; exact batchOf_there m.batch p.1 hk p5
  show (innerR batchOf r fun y => { x with batch := y }).1 = 0 ∧ (innerR batchOf r fun y => { x with batch := y }).2.1 = { x with batch := m.batch } ∧ Rd (innerR batchOf r fun y => { x with batch := y }).2.2 q
  unfold innerR
  rw [if_neg (fun z => z g.e), e]
  exact ⟨rfl, rfl, g⟩
 ·obtain ⟨h1, h2⟩ := part69 h
  replace hr : Rd r ((vputL m.entries.length ++ m.entries.flatMap innerE) ++ q) := hr
  rw [List.append_assoc] at hr
  obtain ⟨v, g⟩ := hr.num (most := 4) (by omega) (by decide)
  obtain ⟨a1, a2, a3⟩ := several_there m.entries _ q (fun e he => ⟨h2 e he, by
   obtain ⟨k, hk, rfl⟩ := List.getElem_of_mem he
   have := (hb.entries.2 k hk).ts; rwa [getD_lt hk] at this⟩) g
  show (if (severalR (rNumV r 4).toNat (rNum r 4)).2.1 ≠ 0 then (severalR (rNumV r 4).toNat (rNum r 4)).2.1 else (severalR (rNumV r 4).toNat (rNum r 4)).2.2.e) = 0 ∧ ({ x with entries := (severalR (rNumV r 4).toNat (rNum r 4)).1 } : EMsg) = { x with entries := m.entries } ∧ Rd (severalR (rNumV r 4).toNat (rNum r 4)).2.2 q
  rw [v, toNat_cast, if_neg (fun z => z a2), a1]
  exact ⟨a3.e, rfl, a3⟩
 ·have h1 := part83 h
  replace hr : Rd r ((vputL m.stamps.length ++ m.stamps.flatMap bigB) ++ q) := hr
  rw [List.append_assoc] at hr
  obtain ⟨v, g⟩ := hr.num (most := 8) (by omega) (by decide)
  obtain ⟨a1, a3⟩ := listRd_there (f := bigRd) bigB inU bigRd_there m.stamps _ q (fun e he => by
   obtain ⟨k, hk, rfl⟩ := List.getElem_of_mem he
   have := hb.stamps.2 k hk; rwa [getD_lt hk] at this) g
  show (listRd bigRd (rNumV r 8).toNat (rNum r 8)).2.e = 0 ∧ ({ x with stamps := x.stamps ++ (listRd bigRd (rNumV r 8).toNat (rNum r 8)).1 } : EMsg) = { x with stamps := m.stamps } ∧ Rd (listRd bigRd (rNumV r 8).toNat (rNum r 8)).2 q
  rw [v, toNat_cast, a1, hs rfl, List.nil_append]
  exact ⟨a3.e, rfl, a3⟩
 ·obtain ⟨h1, h2⟩ := part82 h
  replace hr : Rd r ((vputL m.pairs.length ++ m.pairs.flatMap pairB) ++ q) := hr
  rw [List.append_assoc] at hr
  obtain ⟨v, g⟩ := hr.num (most := 32) (by omega) (by decide)
  obtain ⟨a1, a3⟩ := listRd_there (f := pairRd) pairB (fun p => pairBad p = 0) pairRd_there m.pairs _ q h2 g
  show (listRd pairRd (rNumV r 32).toNat (rNum r 32)).2.e = 0 ∧ ({ x with pairs := (listRd pairRd (rNumV r 32).toNat (rNum r 32)).1 } : EMsg) = { x with pairs := m.pairs } ∧ Rd (listRd pairRd (rNumV r 32).toNat (rNum r 32)).2 q
  rw [v, toNat_cast, a1]
  exact ⟨a3.e, rfl, a3⟩

theorem lay_same (x m : EMsg) {c : Nat} (hc : c ∈ okL) : wrongC (layC x m c) c = wrongC m c :=
 okL_cases (P := fun c => wrongC (layC x m c) c = wrongC m c) hc rfl rfl rfl rfl rfl rfl rfl rfl rfl rfl rfl rfl rfl rfl rfl rfl rfl

theorem lay_other (x m : EMsg) {c d : Nat} (hc : c ∈ okL) (h : d ≠ c) : wrongC (layC x m d) c = wrongC x c := by
 refine okL_cases (P := fun c => d ≠ c → wrongC (layC x m d) c = wrongC x c) hc ?_ ?_ ?_ ?_ ?_ ?_ ?_ ?_ ?_ ?_ ?_ ?_ ?_ ?_ ?_ ?_ ?_ h <;> intro h <;> unfold layC <;> split <;> first | rfl | exact absurd rfl h

theorem lay_st (x m : EMsg) {d : Nat} (h : d ≠ 83) : (layC x m d).stamps = x.stamps := by
 unfold layC; split <;> first | rfl | exact absurd rfl h

theorem lay_k (x m : EMsg) (d : Nat) : (layC x m d).k = x.k := by
 unfold layC; split <;> rfl

def foldC (L : List Nat) (x m : EMsg) : EMsg := L.foldl (fun x c => layC x m c) x

theorem fold_k (m : EMsg) : ∀ (L : List Nat) (x : EMsg), (foldC L x m).k = x.k
 | [], _ => rfl
 | d :: L, x => (fold_k m L (layC x m d)).trans (lay_k x m d)

theorem fold_keep (m : EMsg) {c : Nat} (hc : c ∈ okL) : ∀ (L : List Nat) (x : EMsg), c ∉ L → wrongC (foldC L x m) c = wrongC x c
 | [], _, _ => rfl
 | d :: L, x, h => (fold_keep m hc L (layC x m d) (fun e => h (List.mem_cons_of_mem _ e))).trans (lay_other x m hc (fun e => h (by rw [e]; exact List.mem_cons_self)))

theorem fold_wrong (m : EMsg) : ∀ (L : List Nat) (x : EMsg), L.Nodup → (∀ c ∈ L, c ∈ okL) → ∀ c ∈ L, wrongC (foldC L x m) c = wrongC m c
 | [], _, _, _, c, hc => absurd hc List.not_mem_nil
 | d :: L, x, hn, ho, c, hc => by
  obtain ⟨h1, h2⟩ := List.nodup_cons.1 hn
  rcases List.mem_cons.1 hc with e | hc
  ·subst e
   exact (fold_keep m (ho _ hc) L (layC x m c) h1).trans (lay_same x m (ho _ hc))
  ·show wrongC (foldC L (layC x m d) m) c = _
   exact fold_wrong m L (layC x m d) h2 (fun e he => ho e (List.mem_cons_of_mem _ he)) c hc

theorem ofL_there (m : EMsg) (hb : bdEMsg m) : ∀ (L : List Nat) (r : DReaderR) (x : EMsg) (q : List Nat), (∀ c ∈ L, c ∈ okL ∧ wrongC m c = 0) → L.Nodup → (83 ∈ L → x.stamps = []) → Rd r (L.flatMap (letB m) ++ q) →
  (ofL L r x).1 = 0 ∧ (ofL L r x).2.1 = foldC L x m ∧ Rd (ofL L r x).2.2 q
 | [], _, _, _, _, _, _, h => ⟨rfl, rfl, h⟩
 | c :: L, r, x, q, hL, hn, hs, h => by
  obtain ⟨h1, h2⟩ := List.nodup_cons.1 hn
  obtain ⟨h3, h4⟩ := hL c List.mem_cons_self
  rw [List.flatMap_cons, List.append_assoc] at h
  obtain ⟨a1, a2, a3⟩ := part_there (x := x) h3 h4 hb (fun e => hs (by rw [e]; exact List.mem_cons_self)) h
  have := ofL_there m hb L (partR r x c).2.2 (partR r x c).2.1 q (fun d hd => hL d (List.mem_cons_of_mem _ hd)) h2 (fun e => by
   rw [a2, lay_st]
   ·exact hs (List.mem_cons_of_mem _ e)
   ·intro e'; rw [e'] at h1; exact h1 e) a3
  unfold ofL
  rw [if_neg (fun z => z a1)]
  rw [a2] at this ⊢
  exact this

theorem firstBad_0 {α : Type} {f : α → Int} : ∀ {l : List α}, (∀ a ∈ l, f a = 0) → firstBad f l = 0
 | [], _ => rfl
 | b :: l, h => by rw [firstBad, if_neg (fun z => z (h b List.mem_cons_self)), firstBad_0 fun a ha => h a (List.mem_cons_of_mem _ ha)]

theorem letters_ok {k : Int} (h : 1 ≤ k ∧ k ≤ 15) : ∀ c ∈ lettersK k, c ∈ okL := by
 obtain ⟨p, _, _, _, _, h7⟩ := parts_yes h; exact h7

theorem msgOf_there (m : EMsg) (hb : bdEMsg m) (h0 : msgCheck m = 0) (s : ByteArray) (hs : bL s = msgB m) (hz : s.size ≤ maxLen) : msgOf s = (cleanM m, 0) := by
 obtain ⟨hk, hw⟩ := msgCheck_ok h0
 have hd := Rd.start s hz
 rw [hs] at hd
 unfold msgB at hd
 obtain ⟨v, g⟩ := num_there (most := 15) hd (by omega) (by omega) (by decide)
 unfold msgOf
 rw [if_neg (fun z => z g.e), v, if_neg (by omega)]
 have ho := letters_ok hk
 obtain ⟨a1, a2, a3⟩ := ofL_there m hb (lettersK m.k) (rNum ⟨s, 0, 0⟩ 15) { (default : EMsg) with k := m.k } [] (fun c hc => ⟨ho c hc, hw c hc⟩) (letters_nd _) (fun _ => rfl) (by rw [List.append_nil]; exact g)
 have hc : msgCheck (foldC (lettersK m.k) { (default : EMsg) with k := m.k } m) = 0 := by
  unfold msgCheck
  rw [fold_k, if_pos hk]
  exact firstBad_0 fun c hc => (fold_wrong m _ _ (letters_nd _) ho c hc).trans (hw c hc)
 have e : cleanM m = foldC (lettersK m.k) { (default : EMsg) with k := m.k } m := if_pos hk
 unfold msgEnd
 rw [if_neg (fun z => z a1), a3.end, if_neg (by simp), a2, hc, if_neg (by simp), e]

-- back
theorem num_back2 {r : DReaderR} {most : Int} {q : List Nat} (h : Rd r q) (he : (rNum r most).e = 0) (hm : most ≤ 1073741824) : ∃ q', q = vputL (rNumV r most).toNat ++ q' ∧ Rd (rNum r most) q' ∧ inI (rNumV r most) := by
 obtain ⟨n, q', h1, h2, h3, h4⟩ := h.num_back he
 exact ⟨q', by rw [h1, toNat_cast]; exact h3, h4, by rw [h1]; unfold inI; omega⟩

theorem big_back2 {r : DReaderR} {q : List Nat} (h : Rd r q) (he : (rBig r).e = 0) : ∃ q', q = vputL ((rBigV r : Nat) : Int).toNat ++ q' ∧ Rd (rBig r) q' ∧ inU ((rBigV r : Nat) : Int) := by
 obtain ⟨q', h1, h2⟩ := h.big_back he
 exact ⟨q', by rw [toNat_cast]; exact h1, h2, by have := rBigV_lt r; unfold inU; omega⟩

theorem text_back2 {r : DReaderR} {q : List Nat} (h : Rd r q) (he : (rText r 8).e = 0) : ∃ q', q = textB (rTextV r 8) ++ q' ∧ Rd (rText r 8) q' ∧ (rTextV r 8).size ≤ 8 := by
 obtain ⟨q', h1, h2, h3⟩ := h.text_back he
 exact ⟨q', by unfold textB; rw [List.append_assoc]; exact h1, h3, by omega⟩

theorem inner_back {r : DReaderR} {q L : List Nat} (h : Rd r q) (he : (rText r 65536).e = 0) (hL : bL (rTextV r 65536) = L) : ∃ q', q = vputL L.length ++ L ++ q' ∧ Rd (rText r 65536) q' := by
 obtain ⟨q', h1, h2, h3⟩ := h.text_back he
 subst hL
 exact ⟨q', by rw [bL_len, List.append_assoc]; exact h1, h3⟩

theorem bd_conf {c : EConf} (h : confCheck c = 0) (hf : inU c.floor) : bdEConf c := by
 obtain ⟨c1, c2, c3, c4, cm, _⟩ := confCheck_ok h
 refine ⟨by unfold inI; omega, ⟨by unfold bdM; omega, fun k hk => ?_⟩, hf⟩
 have := cm (c.members.getD k default) (by rw [getD_lt hk]; exact List.getElem_mem hk)
 exact ⟨by unfold inI; omega, by unfold inI; omega⟩

theorem bd_batch {b : EBatch} (h : batchCheck b = 0) : bdEBatch b := by
 obtain ⟨c1, c2, c3, c4, c5, cm⟩ := batchCheck_ok h
 refine ⟨by unfold inI; omega, by unfold inI; omega, ⟨by unfold bdM; omega, fun k hk => ?_⟩⟩
 have := cm (b.ops.getD k default) (by rw [getD_lt hk]; exact List.getElem_mem hk)
 exact ⟨by have := this.1; unfold bdStr bdM; omega, by have := this.2; unfold bdStr bdM; omega, trivial⟩

theorem several_back : ∀ (n : Nat) (r : DReaderR) (q : List Nat), Rd r q → (severalR n r).2.1 = 0 → (severalR n r).2.2.e = 0 → ∃ q', q = (severalR n r).1.flatMap innerE ++ q' ∧ Rd (severalR n r).2.2 q' ∧ (severalR n r).1.length = n ∧ ∀ e ∈ (severalR n r).1, batchCheck e.batch = 0 ∧ inU e.ts
 | 0, r, q, h, _, _ => ⟨q, rfl, h, rfl, fun e he => absurd he List.not_mem_nil⟩
 | n + 1, r, q, h, h1, h2 => by
  unfold severalR at h1 h2 ⊢
  by_cases c1 : (rText r 65536).e ≠ 0
  ·rw [if_pos c1] at h1; exact absurd h1 c1
  rw [if_neg c1] at h1 h2 ⊢
  by_cases c2 : (entryOf (rTextV r 65536)).2 ≠ 0
  ·rw [if_pos c2] at h1; exact absurd h1 c2
  rw [if_neg c2] at h1 h2 ⊢
  by_cases c3 : (severalR n (rText r 65536)).2.1 ≠ 0
  ·rw [if_pos c3] at h1; exact absurd h1 c3
  rw [if_neg c3] at h1 h2 ⊢
  obtain ⟨k1, k2, k3⟩ := entryOf_back _ (rTextV_size r h.ok 65536) (Decidable.not_not.1 c2)
  obtain ⟨q1, g1, g2⟩ := inner_back h (Decidable.not_not.1 c1) k2
  obtain ⟨q2, f1, f2, f3, f4⟩ := several_back n _ q1 g2 (Decidable.not_not.1 c3) h2
  refine ⟨q2, ?_, f2, by show (_ :: _).length = _; rw [List.length_cons, f3], fun e he => ?_⟩
  ·show q = ((entryOf (rTextV r 65536)).1 :: (severalR n (rText r 65536)).1).flatMap innerE ++ q2
   rw [List.flatMap_cons, List.append_assoc, ← f1]; exact g1
  ·rcases List.mem_cons.1 (show e ∈ (entryOf (rTextV r 65536)).1 :: (severalR n (rText r 65536)).1 from he) with rfl | he
   ·exact ⟨k1, k3⟩
   ·exact f4 e he

theorem several_e0 : ∀ (n : Nat) (r : DReaderR), (severalR n r).2.1 = 0 → (severalR n r).2.2.e = 0 → r.e = 0
 | 0, _, _, h => h
 | n + 1, r, h1, h2 => by
  unfold severalR at h1 h2
  by_cases c1 : (rText r 65536).e ≠ 0
  ·rw [if_pos c1] at h1; exact absurd h1 c1
  ·exact rText_e0 (Decidable.not_not.1 c1)

theorem pairRd_e0 (r : DReaderR) (h : (pairRd r).2.e = 0) : r.e = 0 := rText_e0 (rText_e0 h)

theorem pairRd_back (r : DReaderR) (q : List Nat) (hr : Rd r q) (h : (pairRd r).2.e = 0) : ∃ q', q = pairB (pairRd r).1 ++ q' ∧ Rd (pairRd r).2 q' ∧ (pairRd r).1.key.size ≤ 8 ∧ (pairRd r).1.val.size ≤ 8 := by
 have e1 := rText_e0 h
 obtain ⟨q1, a1, a2, a3⟩ := text_back2 hr e1
 obtain ⟨q2, b1, b2, b3⟩ := text_back2 a2 h
 refine ⟨q2, ?_, b2, a3, b3⟩
 show q = (textB (rTextV r 8) ++ textB (rTextV (rText r 8) 8)) ++ q2
 rw [List.append_assoc, ← b1]; exact a1

theorem part_nb {r : DReaderR} {q : List Nat} {most : Int} (hr : Rd r q) (he : (rNum r most).e = 0) (hm : most ≤ 1073741824) (f : Int → EMsg) (hf : ∀ z, inI z → bdEMsg (f z)) :
  ∃ q', q = vputL (rNumV r most).toNat ++ q' ∧ Rd (rNum r most) q' ∧ bdEMsg (f (rNumV r most)) := by
 obtain ⟨q', h1, h2, h3⟩ := num_back2 hr he hm
 exact ⟨q', h1, h2, hf _ h3⟩

theorem part_back {r : DReaderR} {x : EMsg} {q : List Nat} {c : Nat} (hc : c ∈ okL) (hb : bdEMsg x) (hs : c = 83 → x.stamps = []) (hr : Rd r q) (h0 : (partR r x c).1 = 0) :
  ∃ q', q = letB (partR r x c).2.1 c ++ q' ∧ Rd (partR r x c).2.2 q' ∧ bdEMsg (partR r x c).2.1 := by
 refine okL_cases (P := fun c => (c = 83 → x.stamps = []) → (partR r x c).1 = 0 → ∃ q', q = letB (partR r x c).2.1 c ++ q' ∧ Rd (partR r x c).2.2 q' ∧ bdEMsg (partR r x c).2.1) hc ?_ ?_ ?_ ?_ ?_ ?_ ?_ ?_ ?_ ?_ ?_ ?_ ?_ ?_ ?_ ?_ ?_ hs h0 <;> intro hs h0
 ·exact part_nb hr h0 (by decide) (fun z => { x with epoch := z }) fun z hz => { hb with epoch := hz }
 ·exact part_nb hr h0 (by decide) (fun z => { x with serial := z }) fun z hz => { hb with serial := hz }
 ·exact part_nb hr h0 (by decide) (fun z => { x with req := z }) fun z hz => { hb with req := hz }
 ·exact part_nb hr h0 (by decide) (fun z => { x with n := z }) fun z hz => { hb with n := hz }
 ·exact part_nb hr h0 (by decide) (fun z => { x with m := z }) fun z hz => { hb with m := hz }
 ·exact part_nb hr h0 (by decide) (fun z => { x with p := z }) fun z hz => { hb with p := hz }
 ·exact part_nb hr h0 (by decide) (fun z => { x with e := z }) fun z hz => { hb with e := hz }
 ·obtain ⟨q', h1, h2, h3⟩ := big_back2 hr h0
  exact ⟨q', h1, h2, { hb with at_ := h3 }⟩
 ·obtain ⟨q', h1, h2, h3⟩ := big_back2 hr h0
  exact ⟨q', h1, h2, { hb with last := h3 }⟩
 ·obtain ⟨q', h1, h2⟩ := hr.flag_back h0
  exact ⟨q', h1, h2, { hb with flag := trivial }⟩
 ·obtain ⟨q', h1, h2, h3⟩ := text_back2 hr h0
  exact ⟨q', h1, h2, { hb with key := by unfold bdStr bdM; show (rTextV r 8).size ≤ _; omega }⟩
 ·obtain ⟨q', h1, h2, h3⟩ := text_back2 hr h0
  exact ⟨q', h1, h2, { hb with to_ := by unfold bdStr bdM; show (rTextV r 8).size ≤ _; omega }⟩
 ·replace h0 : (innerR confOf r fun y => { x with conf := y }).1 = 0 := h0
  show ∃ q', q = letB (innerR confOf r fun y => { x with conf := y }).2.1 67 ++ q' ∧ Rd (innerR confOf r fun y => { x with conf := y }).2.2 q' ∧ bdEMsg (innerR confOf r fun y => { x with conf := y }).2.1
  unfold innerR at h0 ⊢
  by_cases c1 : (rText r 65536).e ≠ 0
  ·rw [if_pos c1] at h0; exact absurd h0 c1
  rw [if_neg c1] at h0 ⊢
  obtain ⟨k1, k2, k3⟩ := confOf_back _ (rTextV_size r hr.ok 65536) h0
  obtain ⟨q1, g1, g2⟩ := inner_back hr (Decidable.not_not.1 c1) k2
  exact ⟨q1, g1, g2, { hb with conf := bd_conf k1 k3 }⟩
 ·replace h0 : (innerR batchOf r fun y => { x with batch := y }).1 = 0 := h0
  show ∃ q', q = letB (innerR batchOf r fun y => { x with batch := y }).2.1 66 ++ q' ∧ Rd (innerR batchOf r fun y => { x with batch := y }).2.2 q' ∧ bdEMsg (innerR batchOf r fun y => { x with batch := y }).2.1
  unfold innerR at h0 ⊢
  by_cases c1 : (rText r 65536).e ≠ 0
  ·rw [if_pos c1] at h0; exact absurd h0 c1
  rw [if_neg c1] at h0 ⊢
  obtain ⟨k1, k2⟩ := batchOf_back _ (rTextV_size r hr.ok 65536) h0
  obtain ⟨q1, g1, g2⟩ := inner_back hr (Decidable.not_not.1 c1) k2
  exact ⟨q1, g1, g2, { hb with batch := bd_batch k1 }⟩
 ·replace h0 : (if (severalR (rNumV r 4).toNat (rNum r 4)).2.1 ≠ 0 then (severalR (rNumV r 4).toNat (rNum r 4)).2.1 else (severalR (rNumV r 4).toNat (rNum r 4)).2.2.e) = 0 := h0
  by_cases c1 : (severalR (rNumV r 4).toNat (rNum r 4)).2.1 ≠ 0
  ·rw [if_pos c1] at h0; exact absurd h0 c1
  rw [if_neg c1] at h0
  have hn : (rNum r 4).e = 0 := several_e0 _ _ (Decidable.not_not.1 c1) h0
  obtain ⟨n, q1, b1, b2, b3, b4⟩ := hr.num_back hn
  obtain ⟨q2, f1, f2, f3, f4⟩ := several_back _ _ q1 b4 (Decidable.not_not.1 c1) h0
  refine ⟨q2, ?_, f2, { hb with entries := ⟨?_, fun k hk => ?_⟩ }⟩
  ·show q = (vputL (severalR (rNumV r 4).toNat (rNum r 4)).1.length ++ (severalR (rNumV r 4).toNat (rNum r 4)).1.flatMap innerE) ++ q2
   rw [f3, List.append_assoc, ← f1, b1, toNat_cast]; exact b3
  ·show (severalR (rNumV r 4).toNat (rNum r 4)).1.length ≤ bdM
   rw [f3, b1, toNat_cast]; unfold bdM; omega
  ·replace hk : k < (severalR (rNumV r 4).toNat (rNum r 4)).1.length := hk
   have := f4 ((severalR (rNumV r 4).toNat (rNum r 4)).1.getD k default) (by rw [getD_lt hk]; exact List.getElem_mem hk)
   exact ⟨bd_batch this.1, this.2⟩
 ·replace h0 : (listRd bigRd (rNumV r 8).toNat (rNum r 8)).2.e = 0 := h0
  have hn : (rNum r 8).e = 0 := listRd_e0 (fun r h => rBig_e0 h) _ _ h0
  obtain ⟨n, q1, b1, b2, b3, b4⟩ := hr.num_back hn
  obtain ⟨q2, f1, f2, f4⟩ := listRd_back (f := bigRd) bigB inU (fun r h => rBig_e0 h) (fun r q h he => big_back2 h he) _ _ q1 b4 h0
  have f3 := listRd_len (f := bigRd) (rNumV r 8).toNat (rNum r 8)
  have e : (partR r x 83).2.1.stamps = (listRd bigRd (rNumV r 8).toNat (rNum r 8)).1 := by
   show x.stamps ++ _ = _
   rw [hs rfl, List.nil_append]
  refine ⟨q2, ?_, f2, { hb with stamps := ?_ }⟩
  ·show q = (vputL (partR r x 83).2.1.stamps.length ++ (partR r x 83).2.1.stamps.flatMap bigB) ++ q2
   rw [e, f3, List.append_assoc, ← f1, b1, toNat_cast]; exact b3
  ·rw [e]
   refine ⟨by rw [f3, b1, toNat_cast]; unfold bdM; omega, fun k hk => ?_⟩
   exact f4 _ (by rw [getD_lt hk]; exact List.getElem_mem hk)
 ·replace h0 : (listRd pairRd (rNumV r 32).toNat (rNum r 32)).2.e = 0 := h0
  have hn : (rNum r 32).e = 0 := listRd_e0 pairRd_e0 _ _ h0
  obtain ⟨n, q1, b1, b2, b3, b4⟩ := hr.num_back hn
  obtain ⟨q2, f1, f2, f4⟩ := listRd_back (f := pairRd) pairB (fun p => p.key.size ≤ 8 ∧ p.val.size ≤ 8) pairRd_e0 pairRd_back _ _ q1 b4 h0
  have f3 := listRd_len (f := pairRd) (rNumV r 32).toNat (rNum r 32)
  refine ⟨q2, ?_, f2, { hb with pairs := ⟨?_, fun k hk => ?_⟩ }⟩
  ·show q = (vputL (listRd pairRd (rNumV r 32).toNat (rNum r 32)).1.length ++ (listRd pairRd (rNumV r 32).toNat (rNum r 32)).1.flatMap pairB) ++ q2
   rw [f3, List.append_assoc, ← f1, b1, toNat_cast]; exact b3
  ·show (listRd pairRd (rNumV r 32).toNat (rNum r 32)).1.length ≤ bdM
   rw [f3, b1, toNat_cast]; unfold bdM; omega
  ·replace hk : k < (listRd pairRd (rNumV r 32).toNat (rNum r 32)).1.length := hk
   have := f4 ((listRd pairRd (rNumV r 32).toNat (rNum r 32)).1.getD k default) (by rw [getD_lt hk]; exact List.getElem_mem hk)
   show bdEPair ((listRd pairRd (rNumV r 32).toNat (rNum r 32)).1.getD k default)
   exact ⟨by have := this.1; unfold bdStr bdM; omega, by have := this.2; unfold bdStr bdM; omega⟩

theorem part_letB {r : DReaderR} {x : EMsg} {c d : Nat} (hd : d ∈ okL) (h : c ≠ d) : letB (partR r x c).2.1 d = letB x d := by
 refine okL_cases (P := fun d => c ≠ d → letB (partR r x c).2.1 d = letB x d) hd ?_ ?_ ?_ ?_ ?_ ?_ ?_ ?_ ?_ ?_ ?_ ?_ ?_ ?_ ?_ ?_ ?_ h <;> intro h <;> unfold partR <;> split <;> first | rfl | exact absurd rfl h | (unfold innerR; split <;> rfl)

theorem part_st {r : DReaderR} {x : EMsg} {c : Nat} (h : c ≠ 83) : (partR r x c).2.1.stamps = x.stamps := by
 unfold partR; split <;> first | rfl | exact absurd rfl h | (unfold innerR; split <;> rfl)

theorem ofL_keep {d : Nat} (hd : d ∈ okL) : ∀ (L : List Nat) (r : DReaderR) (x : EMsg), d ∉ L → (ofL L r x).1 = 0 → letB (ofL L r x).2.1 d = letB x d
 | [], _, _, _, _ => rfl
 | c :: L, r, x, hn, h0 => by
  unfold ofL at h0 ⊢
  by_cases c1 : (partR r x c).1 ≠ 0
  ·rw [if_pos c1] at h0; exact absurd h0 c1
  rw [if_neg c1] at h0 ⊢
  exact (ofL_keep hd L _ _ (fun e => hn (List.mem_cons_of_mem _ e)) h0).trans (part_letB hd fun e => hn (by rw [e]; exact List.mem_cons_self))

theorem ofL_k : ∀ (L : List Nat) (r : DReaderR) (x : EMsg), (ofL L r x).1 = 0 → (ofL L r x).2.1.k = x.k
 | [], _, _, _ => rfl
 | c :: L, r, x, h0 => by
  unfold ofL at h0 ⊢
  by_cases c1 : (partR r x c).1 ≠ 0
  ·rw [if_pos c1] at h0; exact absurd h0 c1
  rw [if_neg c1] at h0 ⊢
  exact (ofL_k L _ _ h0).trans part_keep.2.2

theorem ofL_back : ∀ (L : List Nat) (r : DReaderR) (x : EMsg) (q : List Nat), (∀ c ∈ L, c ∈ okL) → L.Nodup → (83 ∈ L → x.stamps = []) → bdEMsg x → Rd r q → (ofL L r x).1 = 0 →
  ∃ q', q = L.flatMap (letB (ofL L r x).2.1) ++ q' ∧ Rd (ofL L r x).2.2 q' ∧ bdEMsg (ofL L r x).2.1
 | [], r, x, q, _, _, _, hb, h, _ => ⟨q, rfl, h, hb⟩
 | c :: L, r, x, q, hL, hn, hs, hb, h, h0 => by
  obtain ⟨h1, h2⟩ := List.nodup_cons.1 hn
  unfold ofL at h0 ⊢
  by_cases c1 : (partR r x c).1 ≠ 0
  ·rw [if_pos c1] at h0; exact absurd h0 c1
  rw [if_neg c1] at h0 ⊢
  have hc := hL c List.mem_cons_self
  obtain ⟨q1, a1, a2, a3⟩ := part_back hc hb (fun e => hs (by rw [e]; exact List.mem_cons_self)) h (Decidable.not_not.1 c1)
  obtain ⟨q2, b1, b2, b3⟩ := ofL_back L (partR r x c).2.2 (partR r x c).2.1 q1 (fun d hd => hL d (List.mem_cons_of_mem _ hd)) h2 (fun e => by
   rw [part_st]
   ·exact hs (List.mem_cons_of_mem _ e)
   ·intro e'; rw [e'] at h1; exact h1 e) a3 a2 h0
  have hk := ofL_keep hc L (partR r x c).2.2 (partR r x c).2.1 h1 h0
  refine ⟨q2, ?_, b2, b3⟩
  rw [List.flatMap_cons, List.append_assoc, hk, ← b1]; exact a1

theorem bd_dft (k : Int) (h : inI k) : bdEMsg { (default : EMsg) with k := k } := by
 have i0 : inI 0 := by unfold inI; omega
 have u0 : inU 0 := by unfold inU; omega
 have s0 : bdStr (default : ByteArray) := Nat.zero_le _
 exact ⟨h, i0, i0, i0, trivial, u0, u0, i0, i0, i0, i0, s0, s0, ⟨i0, ⟨Nat.zero_le _, fun j hj => absurd hj (Nat.not_lt_zero _)⟩, u0⟩, ⟨i0, i0, ⟨Nat.zero_le _, fun j hj => absurd hj (Nat.not_lt_zero _)⟩⟩, ⟨Nat.zero_le _, fun j hj => absurd hj (Nat.not_lt_zero _)⟩, ⟨Nat.zero_le _, fun j hj => absurd hj (Nat.not_lt_zero _)⟩, ⟨Nat.zero_le _, fun j hj => absurd hj (Nat.not_lt_zero _)⟩⟩

theorem msgEnd_err (q : Int × EMsg × DReaderR) (h : (msgEnd q).2 ≠ 0) : (msgEnd q).1 = default := by
 unfold msgEnd at h ⊢
 split; · rfl
 split; · rfl
 split; · rfl
 rename_i h1 h2 h3
 rw [if_neg h1, if_neg h2, if_neg h3] at h
 exact absurd rfl h

theorem msgOf_err (s : ByteArray) (h : (msgOf s).2 ≠ 0) : (msgOf s).1 = default := by
 unfold msgOf at h ⊢
 by_cases c1 : (rNum ⟨s, 0, 0⟩ 15).e ≠ 0
 ·rw [if_pos c1]
 rw [if_neg c1] at h ⊢
 by_cases c2 : rNumV ⟨s, 0, 0⟩ 15 = 0
 ·rw [if_pos c2]
 rw [if_neg c2] at h ⊢
 exact msgEnd_err _ h

theorem msgOf_back (s : ByteArray) (hz : s.size ≤ maxLen) (h0 : (msgOf s).2 = 0) : msgCheck (msgOf s).1 = 0 ∧ bL s = msgB (msgOf s).1 ∧ bdEMsg (msgOf s).1 := by
 unfold msgOf at h0 ⊢
 by_cases c1 : (rNum ⟨s, 0, 0⟩ 15).e ≠ 0
 ·rw [if_pos c1] at h0; exact absurd h0 c1
 rw [if_neg c1] at h0 ⊢
 by_cases c2 : rNumV ⟨s, 0, 0⟩ 15 = 0
 ·rw [if_pos c2] at h0; exact absurd h0 (by decide)
 rw [if_neg c2] at h0 ⊢
 obtain ⟨n, q1, b1, b2, b3, b4⟩ := (Rd.start s hz).num_back (Decidable.not_not.1 c1)
 have hk : 1 ≤ rNumV ⟨s, 0, 0⟩ 15 ∧ rNumV ⟨s, 0, 0⟩ 15 ≤ 15 := by omega
 have ho := letters_ok hk
 have hback := ofL_back (lettersK (rNumV ⟨s, 0, 0⟩ 15)) (rNum ⟨s, 0, 0⟩ 15) { (default : EMsg) with k := rNumV ⟨s, 0, 0⟩ 15 } q1 ho (letters_nd _) (fun _ => rfl) (bd_dft _ (by unfold inI; omega)) b4
 have hkk := ofL_k (lettersK (rNumV ⟨s, 0, 0⟩ 15)) (rNum ⟨s, 0, 0⟩ 15) { (default : EMsg) with k := rNumV ⟨s, 0, 0⟩ 15 }
 generalize ofL (lettersK (rNumV ⟨s, 0, 0⟩ 15)) (rNum ⟨s, 0, 0⟩ 15) { (default : EMsg) with k := rNumV ⟨s, 0, 0⟩ 15 } = Q at h0 hback hkk ⊢
 unfold msgEnd at h0 ⊢
 by_cases d1 : Q.1 ≠ 0
 ·rw [if_pos d1] at h0; exact absurd h0 d1
 rw [if_neg d1] at h0 ⊢
 by_cases d2 : rEnd Q.2.2 ≠ 0
 ·rw [if_pos d2] at h0; exact absurd h0 d2
 rw [if_neg d2] at h0 ⊢
 by_cases d3 : msgCheck Q.2.1 ≠ 0
 ·rw [if_pos d3] at h0; exact absurd h0 d3
 rw [if_neg d3] at h0 ⊢
 obtain ⟨q2, e1, e2, e3⟩ := hback (Decidable.not_not.1 d1)
 have hk2 : Q.2.1.k = rNumV ⟨s, 0, 0⟩ 15 := hkk (Decidable.not_not.1 d1)
 refine ⟨Decidable.not_not.1 d3, ?_, e3⟩
 have hq : q2 = [] := by
  have := e2.end
  rw [Decidable.not_not.1 d2] at this
  by_cases hq : q2 = []
  ·exact hq
  ·rw [if_neg hq] at this; cases this
 show bL s = vputL Q.2.1.k.toNat ++ (lettersK Q.2.1.k).flatMap (letB Q.2.1)
 rw [hk2]
 rw [hq, List.append_nil] at e1
 rw [← e1, b1, toNat_cast]; exact b3

end Go.Proofs.Ythmjkcdpbbcdgaa
