/- Links: two sides, plain: rounds, and LinkFair -/
import Derived.Test.YthomnhhjgcabkaaYLf2
namespace Go.Proofs.Ythomnhhjgcabkaa

def recvL (Y : Elink_Link) : List ESeg → Elink_Link
 | [] => Y
 | s :: l => recvL (inL Y s).2.2 l

/-- segments of one side, all of one boot and stream, with one acknowledgement -/
structure Lot (l : List ESeg) (a σ ab az ak : Int) : Prop where
 may : ∀ s ∈ l, mayS s = true
 bo : ∀ s ∈ l, s.boot = a ∧ s.stream = σ ∧ s.ackBoot = ab ∧ s.ackStream = az ∧ s.ackSeq = ak

theorem Lot.tail {s : ESeg} {l : List ESeg} {a σ ab az ak : Int} (h : Lot (s :: l) a σ ab az ak) : Lot l a σ ab az ak := ⟨fun x hx => h.may x (List.mem_cons_of_mem _ hx), fun x hx => h.bo x (List.mem_cons_of_mem _ hx)⟩

theorem learnS_str {pr : Elink_side} {s : ESeg} (h : pr.boot < s.boot ∨ pr.boot = s.boot ∧ pr.stream ≤ s.stream) : (learnS pr s).stream = s.stream := by
 unfold learnS
 by_cases c : s.boot > pr.boot
 ·rw [if_pos c]
 ·rw [if_neg c]
  by_cases c2 : s.stream > pr.stream
  ·rw [if_pos c2]
  ·rw [if_neg c2]; omega

section
variable {l : List ESeg} {a σ ab az ak : Int}
theorem recv_peer : ∀ {l : List ESeg} {Y : Elink_Link}, Lot l a σ ab az ak → (Y.peer.boot < a ∨ Y.peer.boot = a ∧ Y.peer.stream ≤ σ) → (recvL Y l).boot = Y.boot ∧ (l = [] ∧ (recvL Y l).peer = Y.peer ∨ (recvL Y l).peer.boot = a ∧ (recvL Y l).peer.stream = σ)
 | [], Y, _, _ => ⟨rfl, .inl ⟨rfl, rfl⟩⟩
 | s :: l, Y, h, hp => by
  obtain ⟨b1, b2, _⟩ := h.bo s (List.mem_cons_self ..)
  have hm := h.may s (List.mem_cons_self ..)
  rcases in_shape Y hm with ⟨q, _⟩ | ⟨c, _, _, q3, q4, q5, _⟩
  ·omega
  ·have e := learnS_str (pr := Y.peer) (s := s) (by omega)
   have := recv_peer (Y := (inL Y s).2.2) h.tail (.inr ⟨by omega, by omega⟩)
   refine ⟨this.1.trans q3, .inr ?_⟩
   show (recvL (inL Y s).2.2 l).peer.boot = a ∧ (recvL (inL Y s).2.2 l).peer.stream = σ
   rcases this.2 with ⟨_, z⟩ | z
   ·rw [z]; exact ⟨by omega, by omega⟩
   ·exact z

theorem in_owes (Y : Elink_Link) {s : ESeg} (hm : mayS s = true) : (Y.owes = true → (inL Y s).2.2.owes = true) ∧ (¬ s.boot < Y.peer.boot → s.has = true → (inL Y s).2.2.owes = true) := by
 have h1 : (learnL Y s).owes = Y.owes := by
  unfold learnL
  split
  ·split <;> rfl
  ·split <;> rfl
 have h2 : (takeL (learnL Y s) s).owes = Y.owes := by
  unfold takeL
  split
  ·exact h1
  ·exact h1
 unfold inL
 rw [if_neg (by rw [hm]; decide)]
 by_cases c : s.boot < Y.peer.boot
 ·rw [if_pos c]; exact ⟨id, fun q => absurd c q⟩
 rw [if_neg c]
 unfold tellL
 by_cases c2 : s.has = false
 ·rw [if_pos c2]; exact ⟨fun q => h2.trans q, fun _ q => by rw [c2] at q; cases q⟩
 ·rw [if_neg c2]
  split
  ·exact ⟨fun _ => rfl, fun _ _ => rfl⟩
  ·exact ⟨fun _ => rfl, fun _ _ => rfl⟩

theorem recv_owes1 : ∀ {l : List ESeg} {Y : Elink_Link}, (∀ s ∈ l, mayS s = true) → Y.owes = true → (recvL Y l).owes = true
 | [], _, _, h => h
 | s :: l, Y, hm, h => recv_owes1 (Y := (inL Y s).2.2) (fun x hx => hm x (List.mem_cons_of_mem _ hx)) ((in_owes Y (hm s (List.mem_cons_self ..))).1 h)

theorem recv_owes {s : ESeg} {Y : Elink_Link} (h : Lot (s :: l) a σ ab az ak) (hp : Y.peer.boot < a ∨ Y.peer.boot = a ∧ Y.peer.stream ≤ σ) (hh : s.has = true) : (recvL Y (s :: l)).owes = true := by
 have b := h.bo s (List.mem_cons_self ..)
 show (recvL (inL Y s).2.2 l).owes = true
 exact recv_owes1 (fun x hx => h.may x (List.mem_cons_of_mem _ hx)) ((in_owes Y (h.may s (List.mem_cons_self ..))).2 (by omega) hh)

/-- the queue of who receives acknowledgements -/
theorem recv_queue : ∀ {l : List ESeg} {X : Elink_Link}, Lot l a σ ab az ak → (X.peer.boot < a ∨ X.peer.boot = a ∧ X.peer.stream ≤ σ) → 0 ≤ X.peer.boot → 1 ≤ a → (ab = X.boot → az ≤ X.stream) → (recvL X l).q.l.length ≤ X.q.l.length ∧
  (X.peer.boot = a → (recvL X l).stream = X.stream ∧ (recvL X l).q.first + ((recvL X l).q.l.length : Int) = X.q.first + (X.q.l.length : Int) ∧ X.q.first ≤ (recvL X l).q.first ∧ (l ≠ [] → ab = X.boot → az = X.stream → min ak (X.q.first + (X.q.l.length : Int)) ≤ (recvL X l).q.first))
 | [], X, _, _, _, _, _ => ⟨Nat.le_refl _, fun _ => ⟨rfl, rfl, Int.le_refl _, fun h => absurd rfl h⟩⟩
 | s :: l, X, h, hp, hp0, ha, has => by
  obtain ⟨b1, b2, b3, b4, b5⟩ := h.bo s (List.mem_cons_self ..)
  have hm := h.may s (List.mem_cons_self ..)
  rcases in_shape X hm with ⟨q, _⟩ | ⟨c, _, _, q3, q4, q5, _⟩
  ·omega
  have e := learnS_str (pr := X.peer) (s := s) (by omega)
  have hst : X.stream ≤ (inL X s).2.2.stream := by
   rcases in_queue X hm c hp0 with ⟨_, _, r3, _⟩ | ⟨_, r3, _⟩ <;> omega
  have ih := recv_queue (X := (inL X s).2.2) h.tail (.inr ⟨by omega, by omega⟩) (by omega) ha (fun z => by have := has (by omega); omega)
  show (recvL (inL X s).2.2 l).q.l.length ≤ X.q.l.length ∧ (X.peer.boot = a → (recvL (inL X s).2.2 l).stream = X.stream ∧ (recvL (inL X s).2.2 l).q.first + ((recvL (inL X s).2.2 l).q.l.length : Int) = X.q.first + (X.q.l.length : Int) ∧ X.q.first ≤ (recvL (inL X s).2.2 l).q.first ∧ (s :: l ≠ [] → ab = X.boot → az = X.stream → min ak (X.q.first + (X.q.l.length : Int)) ≤ (recvL (inL X s).2.2 l).q.first))
  rcases in_queue X hm c hp0 with ⟨r1, r2, r3, r4⟩ | ⟨r1, r3, r4⟩
  ·refine ⟨?_, fun z => by omega⟩
   rcases r4 with r4 | r4
   ·have := has (by omega); omega
   ·rw [r4.2] at ih; exact ih.1
  ·have hk : uptoK X s.ackSeq ≤ X.q.l.length := by unfold uptoK; omega
   have hk2 : min s.ackSeq (X.q.first + (X.q.l.length : Int)) ≤ X.q.first + (uptoK X s.ackSeq : Int) := by unfold uptoK; omega
   have i2 := ih.2 (q4.trans b1)
   rcases r4 with ⟨a1, a2, a3, a4⟩ | ⟨a1, a3, a4⟩
   ·rw [a3, a4, List.length_drop] at i2
    have i1 := ih.1
    rw [a4, List.length_drop] at i1
    refine ⟨by omega, fun _ => ⟨by omega, by omega, by omega, fun _ _ _ => by omega⟩⟩
   ·rw [a3, a4] at i2
    have i1 := ih.1
    rw [a4] at i1
    exact ⟨i1, fun _ => ⟨by omega, i2.2.1, i2.2.2.1, fun _ z1 z2 => absurd ⟨by omega, by omega⟩ a1⟩⟩

/-- texts are taken in their order -/
theorem in_next (Y : Elink_Link) {s : ESeg} (hm : mayS s = true) (c : ¬ s.boot < Y.peer.boot) (hh : s.has = true) (ha : s.ackBoot = Y.boot) (hs : (learnS Y.peer s).stream = s.stream) (hq : s.seq ≤ (learnS Y.peer s).next) : s.seq + 1 ≤ (inL Y s).2.2.peer.next := by
 unfold inL
 rw [if_neg (by rw [hm]; decide), if_neg c]
 have lb : (learnL Y s).boot = Y.boot ∧ (learnL Y s).peer = learnS Y.peer s := by
  unfold learnL learnS
  by_cases c1 : s.boot > Y.peer.boot
  ·rw [if_pos c1, if_pos c1]
   by_cases c2 : Y.peer.boot > 0
   ·rw [if_pos c2]; exact ⟨rfl, rfl⟩
   ·rw [if_neg c2]; exact ⟨rfl, rfl⟩
  ·rw [if_neg c1, if_neg c1]
   by_cases c2 : s.stream > Y.peer.stream
   ·rw [if_pos c2, if_pos c2]; exact ⟨rfl, rfl⟩
   ·rw [if_neg c2, if_neg c2]; exact ⟨rfl, rfl⟩
 have tb : (takeL (learnL Y s) s).boot = Y.boot ∧ (takeL (learnL Y s) s).peer = learnS Y.peer s := by
  unfold takeL
  split
  ·exact ⟨lb.1, lb.2⟩
  ·exact ⟨lb.1, lb.2⟩
 generalize takeL (learnL Y s) s = R at tb
 unfold tellL
 rw [if_neg (by rw [hh]; decide), tb.1, tb.2]
 by_cases c2 : s.ackBoot = Y.boot ∧ s.stream = (learnS Y.peer s).stream ∧ s.seq = (learnS Y.peer s).next
 ·rw [if_pos c2]
  show s.seq + 1 ≤ (learnS Y.peer s).next + 1
  omega
 ·rw [if_neg c2]
  show s.seq + 1 ≤ (learnS Y.peer s).next
  have : ¬ s.seq = (learnS Y.peer s).next := fun z => c2 ⟨ha, hs.symm, z⟩
  omega

theorem recv_next {X : Elink_Link} : ∀ (n k : Nat) {Y : Elink_Link}, winL X - k = n → k ≤ winL X → (∀ i, mayS (segL X i) = true ∨ winL X ≤ i) → Y.peer.boot = X.boot → Y.peer.stream = X.stream → X.peer.boot = Y.boot → X.q.first + (k : Int) ≤ Y.peer.next → X.q.first + (winL X : Int) ≤ (recvL Y (segsL X k (winL X))).peer.next
 | 0, k, Y, hn, hk, _, _, _, _, h => by
  rw [segsL_end (by omega)]
  show X.q.first + (winL X : Int) ≤ Y.peer.next
  omega
 | n + 1, k, Y, hn, hk, hm, h1, h2, h3, h => by
  rw [segsL_step (by omega)]
  have m := (hm k).resolve_right (by omega)
  have es : (segL X k).boot = X.boot ∧ (segL X k).stream = X.stream ∧ (segL X k).ackBoot = X.peer.boot ∧ (segL X k).seq = X.q.first + (k : Int) ∧ (segL X k).has = true := ⟨rfl, rfl, rfl, rfl, rfl⟩
  have hl : learnS Y.peer (segL X k) = Y.peer := by
   unfold learnS
   rw [if_neg (by omega), if_neg (by omega)]
  have c : ¬ (segL X k).boot < Y.peer.boot := by omega
  have nx := in_next Y m c es.2.2.2.2 (by omega) (by rw [hl]; omega) (by rw [hl]; omega)
  rcases in_shape Y m with ⟨q, _⟩ | ⟨_, _, _, q3, q4, q5, _⟩
  ·exact absurd q c
  rw [hl] at q5
  exact recv_next n (k + 1) (Y := (inL Y (segL X k)).2.2) (by omega) (by omega) hm (by omega) (by omega) (by omega) (by omega)

end

theorem outs_ne {Y : Elink_Link} (h : Y.owes = true) : outsL Y true ≠ [] := by
 unfold outsL
 by_cases c : (segsL Y (fromL Y true) (winL Y)).length = 0 ∧ Y.owes = true
 ·rw [if_pos c]; exact List.cons_ne_nil _ _
 ·rw [if_neg c]; exact fun e => c ⟨by rw [e]; rfl, h⟩

theorem outs_txt {X : Elink_Link} (h : 0 < X.q.l.length) : outsL X true = segL X 0 :: segsL X 1 (winL X) := by
 have hw : 0 < winL X := by unfold winL; omega
 have hf : fromL X true = 0 := rfl
 unfold outsL
 rw [hf, if_neg (by rw [segsL_len]; omega), segsL_step hw]

structure Adv (X Y X' Y' : Elink_Link) : Prop where
 bx : X'.boot = X.boot
 bY : Y'.boot = Y.boot
 r6 : X'.q.l.length ≤ X.q.l.length
 r2 : 0 < X.q.l.length → Y'.owes = true
 r3 : Y.owes = true → X'.peer.boot = Y.boot
 r5 : X.peer.boot = Y.boot → X'.stream = X.stream ∧ X'.q.first + (X'.q.l.length : Int) = X.q.first + (X.q.l.length : Int) ∧ (Y.owes = true → Y.peer.boot = X.boot → Y.peer.stream = X.stream → min Y.peer.next (X.q.first + (X.q.l.length : Int)) ≤ X'.q.first)
 r4 : X.peer.boot = Y.boot → 0 < X.q.l.length → Y'.peer.boot = X.boot ∧ Y'.peer.stream = X.stream ∧ X.q.first + (winL X : Int) ≤ Y'.peer.next

theorem lot_of {A : Elink_Link} {S rb T : Int} {pr : Elink_side} {W : ESeg → Prop} {H : Hs} {M : Ms} (d : Dir A S rb pr T W H M) (hS : 0 ≤ S ∧ S ≤ 65535) (hn : 0 ≤ A.peer.next ∧ A.peer.next ≤ 65535) : Lot (outsL A true) A.boot A.stream A.peer.boot A.peer.stream A.peer.next :=
 ⟨fun s hs => (d.out hS hn true s hs).may, fun s hs => outs_ack A true hs⟩

theorem adv {X Y : Elink_Link} {SX SY TX TY : Int} {WX WY W0 : ESeg → Prop} {HX HY : Hs} {MX MY : Ms} (dX : Dir X SX Y.boot Y.peer TY WX HX MX) (dY : Dir Y SY X.boot X.peer TX WY HY MY) (fx : Fx X Y W0) (hX : 0 ≤ SX ∧ SX ≤ 60000) (hY : 0 ≤ SY ∧ SY ≤ 60000) :
  Adv X Y (recvL (outL X) (outsL Y true)) (recvL (outL Y) (outsL X true)) := by
 have n1 := dX.nx_le hX.1
 have n2 := dY.nx_le hY.1
 have lX := lot_of dX ⟨hX.1, by omega⟩ ⟨n2.1, by omega⟩
 have lY := lot_of dY ⟨hY.1, by omega⟩ ⟨n1.1, by omega⟩
 have pX := dX.pk
 have pY := dY.pk
 have bX := dX.ok.boot
 have bY := dY.ok.boot
 have hpX : (outL X).peer.boot < Y.boot ∨ (outL X).peer.boot = Y.boot ∧ (outL X).peer.stream ≤ Y.stream := by
  show X.peer.boot < Y.boot ∨ X.peer.boot = Y.boot ∧ X.peer.stream ≤ Y.stream; omega
 have hpY : (outL Y).peer.boot < X.boot ∨ (outL Y).peer.boot = X.boot ∧ (outL Y).peer.stream ≤ X.stream := by
  show Y.peer.boot < X.boot ∨ Y.peer.boot = X.boot ∧ Y.peer.stream ≤ X.stream; omega
 have rX := recv_peer lY hpX
 have rY := recv_peer lX hpY
 have qX := recv_queue lY hpX dX.ok.pboot.1 bY.1 (fun z => by
  have z' : Y.peer.boot = X.boot := z
  show Y.peer.stream ≤ X.stream; omega)
 refine ⟨rX.1, rY.1, qX.1, fun hl => ?_, fun ho => ?_, fun k => ⟨(qX.2 k).1, (qX.2 k).2.1, fun ho => (qX.2 k).2.2.2 (outs_ne ho)⟩, fun k hl => ?_⟩
 ·rw [outs_txt hl] at lX ⊢
  exact recv_owes lX hpY rfl
 ·rcases rX.2 with ⟨z, _⟩ | z
  ·exact absurd z (outs_ne ho)
  ·exact z.1
 ·rw [outs_txt hl] at lX rY ⊢
  have rY2 : (recvL (outL Y) (segL X 0 :: segsL X 1 (winL X))).peer.boot = X.boot ∧ (recvL (outL Y) (segL X 0 :: segsL X 1 (winL X))).peer.stream = X.stream := by
   rcases rY.2 with ⟨z, _⟩ | z
   ·cases z
   ·exact z
  refine ⟨rY2.1, rY2.2, ?_⟩
  have m := lX.may (segL X 0) (List.mem_cons_self ..)
  have es : (segL X 0).boot = X.boot ∧ (segL X 0).stream = X.stream ∧ (segL X 0).ackBoot = X.peer.boot ∧ (segL X 0).seq = X.q.first + ((0 : Nat) : Int) ∧ (segL X 0).has = true := ⟨rfl, rfl, rfl, rfl, rfl⟩
  have c : ¬ (segL X 0).boot < (outL Y).peer.boot := by omega
  have hls := learnS_str (pr := (outL Y).peer) (s := segL X 0) (by omega)
  have hq : (segL X 0).seq ≤ (learnS (outL Y).peer (segL X 0)).next := by
   show X.q.first + ((0 : Nat) : Int) ≤ (learnS Y.peer (segL X 0)).next
   have hn' : 0 ≤ (learnS Y.peer (segL X 0)).next := by
    unfold learnS
    split
    ·exact Int.le_refl _
    ·split
     ·exact Int.le_refl _
     ·exact n1.1
   rcases fx.f1 k with z | z
   ·have : learnS Y.peer (segL X 0) = Y.peer := by
     unfold learnS
     rw [if_neg (by omega), if_neg (by omega)]
    rw [this]; omega
   ·omega
  have nx := in_next (outL Y) m c es.2.2.2.2 (by show X.peer.boot = Y.boot; exact k) hls hq
  rcases in_shape (outL Y) m with ⟨q, _⟩ | ⟨_, _, _, q3, q4, q5, _⟩
  ·exact absurd q c
  have q3' : (inL (outL Y) (segL X 0)).2.2.boot = Y.boot := q3
  have hw : 1 ≤ winL X := by unfold winL; omega
  exact recv_next (winL X - 1) 1 (Y := (inL (outL Y) (segL X 0)).2.2) rfl hw (fun i => by
   by_cases z : i < winL X
   ·left
    by_cases z0 : i = 0
    ·rw [z0]; exact m
    ·refine lX.may _ (List.mem_cons_of_mem _ ?_)
     unfold segsL
     exact List.mem_map.2 ⟨i, by rw [List.mem_range'_1]; omega, rfl⟩
   ·right; omega) (by omega) (by omega) (by omega) (by omega)

/-- how far one way is behind so many rounds -/
def Ph (r : Nat) (X Y : Elink_Link) : Prop := X.q.l.length = 0 ∨ ((1 ≤ r → Y.owes = true) ∧ (2 ≤ r → X.peer.boot = Y.boot) ∧ (r = 3 ∨ r = 5 → Y.peer.boot = X.boot ∧ Y.peer.stream = X.stream) ∧ (r = 3 → X.q.first + (X.q.l.length : Int) - 4 ≤ Y.peer.next) ∧ (r = 4 → X.q.l.length ≤ 4) ∧ (r = 5 → X.q.first + (X.q.l.length : Int) ≤ Y.peer.next) ∧ r < 6)

theorem Ph_step {r : Nat} {X Y X' Y' : Elink_Link} (a : Adv X Y X' Y') (h : Ph r X Y) (hl : X.q.l.length ≤ 8) : Ph (r + 1) X' Y' := by
 have r6 := a.r6
 by_cases c : X'.q.l.length = 0
 ·exact .inl c
 have hpos : 0 < X.q.l.length := by omega
 rcases h with h | ⟨h1, h2, h3, h4, h5, h6, h7⟩
 ·omega
 have hw : (winL X : Int) = min (X.q.l.length : Int) 4 := by unfold winL; omega
 have hbx := a.bx
 have hby := a.bY
 refine .inr ⟨fun _ => a.r2 hpos, fun z => ?_, fun z => ?_, fun z => ?_, fun z => ?_, fun z => ?_, ?_⟩
 ·have := a.r3 (h1 (by omega)); omega
 ·have k := h2 (by omega)
  have := a.r4 k hpos; have := a.r5 k
  omega
 ·have k := h2 (by omega)
  have := a.r4 k hpos; have := a.r5 k
  omega
 ·have k := h2 (by omega)
  have k3 := h3 (.inl (by omega))
  have k5 := a.r5 k
  have := k5.2.2 (h1 (by omega)) k3.1 k3.2
  have := h4 (by omega)
  omega
 ·have k := h2 (by omega)
  have := a.r4 k hpos; have := a.r5 k; have := h5 (by omega)
  omega
 ·by_cases z : r = 5
  ·exfalso
   have k := h2 (by omega)
   have k3 := h3 (.inr z)
   have k5 := a.r5 k
   have := k5.2.2 (h1 (by omega)) k3.1 k3.2
   have := h6 z
   omega
  ·omega

-- the round's loop
def selS : List ESeg → List Int → Int → List ESeg
 | s :: w, d :: e, t => if d = t then s :: selS w e t else selS w e t
 | _, _, _ => []

theorem selS_0 : ∀ (Y : List ESeg), selS Y (List.replicate Y.length 0) 1 = [] ∧ selS Y (List.replicate Y.length 0) 0 = Y
 | [] => ⟨rfl, rfl⟩
 | s :: l => by
  have ih := selS_0 l
  rw [List.length_cons, List.replicate_succ]
  unfold selS
  rw [if_neg (by decide), if_pos rfl, ih.1, ih.2]; exact ⟨rfl, rfl⟩

theorem selS_1 : ∀ (X Y : List ESeg), selS (X ++ Y) (List.replicate X.length 1 ++ List.replicate Y.length 0) 1 = X ∧ selS (X ++ Y) (List.replicate X.length 1 ++ List.replicate Y.length 0) 0 = Y
 | [], Y => by rw [List.nil_append, List.length_nil, List.replicate_zero, List.nil_append]; exact selS_0 Y
 | s :: l, Y => by
  have ih := selS_1 l Y
  rw [List.length_cons, List.replicate_succ, List.cons_append, List.cons_append]
  unfold selS
  rw [if_pos rfl, if_neg (by decide), ih.1, ih.2]; exact ⟨rfl, rfl⟩

theorem l3_loop {st : Bool} {n round : Int} {rc : (Int × Elaw22_pair) → Option Bool} (hn : n ≤ 60000) {way : List ESeg} {dst : List Int} {S0 S1 : Int} : ∀ (N k : Nat) (A B : Elink_Link) (T0 T1 : Int), way.length - k < N → k ≤ way.length → PF st n A B way dst S0 S1 T0 T1 →
  ∃ T0' T1', iter (F_law22_LinkFair_l3 round rc) N ((k : Int), mkP A B way dst S0 S1 T0 T1) = chk (inI (round + 1)) (rc (round + 1, mkP (recvL A (selS (way.drop k) (dst.drop k) 0)) (recvL B (selS (way.drop k) (dst.drop k) 1)) way dst S0 S1 T0' T1')) ∧ PF st n (recvL A (selS (way.drop k) (dst.drop k) 0)) (recvL B (selS (way.drop k) (dst.drop k) 1)) way dst S0 S1 T0' T1'
 | 0, _, _, _, _, _, h, _, _ => by omega
 | N + 1, k, A, B, T0, T1, hN, hk, h => by
  have hlen := h.pi.len
  have hwl := h.pi.wl
  show ∃ T0' T1', F_law22_LinkFair_l3 round rc (iter (F_law22_LinkFair_l3 round rc) N) ((k : Int), mkP A B way dst S0 S1 T0 T1) = _ ∧ _
  generalize e0 : iter (F_law22_LinkFair_l3 round rc) N = rc2
  unfold F_law22_LinkFair_l3
  dsimp only
  have ew : (mkP A B way dst S0 S1 T0 T1).way = way := rfl
  rw [ew]
  by_cases c : k < way.length
  ·rw [if_pos (decide_eq_true (by omega)), drop_cons (d := default) c, drop_cons (d := default) (show k < dst.length by omega)]
   rcases come_ok hn h.pi c with ⟨t, T', e, g, hb, _⟩ | ⟨t, T', e, g, hb, _⟩
   ·rw [e, Option.bind_some, chk_t (by unfold inI; omega), ← e0]
    have s0 : selS (way.getD k default :: way.drop (k + 1)) (dst.getD k default :: dst.drop (k + 1)) 0 = selS (way.drop (k + 1)) (dst.drop (k + 1)) 0 := by rw [selS, if_neg (by omega)]
    have s1 : selS (way.getD k default :: way.drop (k + 1)) (dst.getD k default :: dst.drop (k + 1)) 1 = way.getD k default :: selS (way.drop (k + 1)) (dst.drop (k + 1)) 1 := by rw [selS, if_pos t]
    rw [s0, s1]
    exact l3_loop hn N (k + 1) A _ T0 T' (by omega) (by omega) (PF_inB h c t hb g)
   ·rw [e, Option.bind_some, chk_t (by unfold inI; omega), ← e0]
    have s0 : selS (way.getD k default :: way.drop (k + 1)) (dst.getD k default :: dst.drop (k + 1)) 1 = selS (way.drop (k + 1)) (dst.drop (k + 1)) 1 := by rw [selS, if_neg (by omega)]
    have s1 : selS (way.getD k default :: way.drop (k + 1)) (dst.getD k default :: dst.drop (k + 1)) 0 = way.getD k default :: selS (way.drop (k + 1)) (dst.drop (k + 1)) 0 := by rw [selS, if_pos t]
    rw [s0, s1]
    exact l3_loop hn N (k + 1) _ B T' T1 (by omega) (by omega) (PF_inA h c t hb g)
  ·rw [if_neg (by rw [decide_eq_false (by omega)]; decide), List.drop_eq_nil_of_le (by omega), List.drop_eq_nil_of_le (by omega)]
   exact ⟨T0, T1, rfl, h⟩

theorem round_ok {st : Bool} {n round : Int} {rc : (Int × Elaw22_pair) → Option Bool} (hn : n ≤ 60000) {A B : Elink_Link} {way : List ESeg} {dst : List Int} {S0 S1 T0 T1 : Int} (h : PF st n A B way dst S0 S1 T0 T1) :
  ∃ way' dst' T0' T1', ((F_law22_pair_out (mkP A B [] [] S0 S1 T0 T1) 0 true).bind fun o => ((F_law22_pair_out o 1 true).bind fun o_2 => (iter (F_law22_LinkFair_l3 round rc) FU (0, o_2)))) = chk (inI (round + 1)) (rc (round + 1, mkP (recvL (outL A) (outsL B true)) (recvL (outL B) (outsL A true)) way' dst' S0 S1 T0' T1')) ∧ PF st n (recvL (outL A) (outsL B true)) (recvL (outL B) (outsL A true)) way' dst' S0 S1 T0' T1' := by
 have hw0 : ∀ {t s}, Wy [] [] t s → False := fun {t s} ⟨i, hi, _⟩ => by simp at hi
 have h0 : PF st n A B [] [] S0 S1 T0 T1 := by
  obtain ⟨H0, M0, d0⟩ := h.pi.d0
  obtain ⟨H1, M1, d1⟩ := h.pi.d1
  exact ⟨⟨rfl, fun i hi => by simp at hi, by simp, h.pi.s0, h.pi.s1, h.pi.b0, h.pi.b1, ⟨H0, M0, d0.mono fun s hs => (hw0 hs).elim⟩, ⟨H1, M1, d1.mono fun s hs => (hw0 hs).elim⟩⟩, h.fa.mono fun s hs => (hw0 hs).elim, h.fb.mono fun s hs => (hw0 hs).elim, h.ns⟩
 have la := outs_len4 A true
 have lb := outs_len4 B true
 obtain ⟨m, m1, m2, e, g⟩ := out0_ok hn h0.pi true
 have g1 := PF_out0 h0 true m1 g
 have em : m = (outsL A true).length := m2 (by rw [List.length_nil]; omega)
 subst em
 rw [List.take_of_length_le (Nat.le_refl _), List.nil_append, List.nil_append] at e g1
 obtain ⟨m', m1', m2', e', g'⟩ := out1_ok hn g1.pi true
 have g2 := PF_out1 g1 true m1' g'
 have em' : m' = (outsL B true).length := m2' (by omega)
 subst em'
 rw [List.take_of_length_le (Nat.le_refl _)] at e' g2
 show ∃ way' dst' T0' T1', ((F_law22_pair_out (mkP A B [] [] S0 S1 T0 T1) 0 true).bind fun o => ((F_law22_pair_out o 1 true).bind fun o_2 => (iter (F_law22_LinkFair_l3 round rc) FU (0, o_2)))) = _ ∧ _
 rw [e, Option.bind_some, e', Option.bind_some]
 obtain ⟨T0', T1', q1, q2⟩ := l3_loop (round := round) (rc := rc) hn FU 0 (outL A) (outL B) T0 T1 (by rw [List.length_append]; unfold FU; omega) (Nat.zero_le _) g2
 rw [List.drop_zero, List.drop_zero, (selS_1 _ _).1, (selS_1 _ _).2] at q1 q2
 exact ⟨_, _, T0', T1', q1, q2⟩

theorem told_all {A B : Elink_Link} {S T : Int} {W W' : ESeg → Prop} {H : Hs} {M : Ms} (d : Dir A S B.boot B.peer T W H M) (fx : Fx A B W') (hS : 0 ≤ S) (ha : A.boot = 1) (hb : B.boot = 1) (hl : A.q.l.length = 0) (hs : A.q.first + (A.q.l.length : Int) = S) : T = S := by
 have hf : A.q.first = S := by omega
 have hst : A.stream = 1 := by have := d.ok.str2; have := d.ok.stream; have := d.peers; have := d.mle A.boot A.stream; omega
 have zero : S = 0 → T = S := fun z => by
  rcases d.tl with q | ⟨b, s, i, _, q2, q3, _⟩
  ·omega
  ·have := d.rng b s i q2; omega
 have hp := d.peers
 have hm := d.mle A.boot A.stream
 have hp0 := d.ok.pboot
 by_cases c : A.peer.boot = B.boot
 ·rcases fx.f1 c with z | z
  ·by_cases zs : S = 0
   ·exact zero zs
   ·have hn := d.nx.2.resolve_left (by omega)
    have hq := d.qlen
    rw [z.1, z.2.1] at hn
    have hnS : B.peer.next = S := by omega
    have ht := d.tn (by omega)
    rw [z.1, z.2.1, hnS] at ht
    have hr := d.rng A.boot A.stream (S.toNat - 1) (by omega)
    have hg : ∀ k, k < (H A.boot A.stream).length → (k : Int) + 1 ≤ (H A.boot A.stream).getD k 0 := by
     intro k
     induction k with
     | zero => intro hk; have := d.rng A.boot A.stream 0 hk; omega
     | succ k ih => intro hk; have := ih (by omega); have := d.inc A.boot A.stream k (k + 1) (by omega) hk; omega
    have := hg (S.toNat - 1) (by omega)
    omega
  ·exact zero (by omega)
 ·have := fx.f0 (by omega)
  exact zero (by omega)

theorem fair_end {st : Bool} {n : Int} {A B : Elink_Link} {way : List ESeg} {dst : List Int} {S0 S1 T0 T1 : Int} (h : PF st n A B way dst S0 S1 T0 T1) (ha : A.q.l.length = 0) (hb : B.q.l.length = 0) : (st || ((T0 == S1) && (T1 == S0))) = true := by
 cases st with
 | true => rfl
 | false =>
  have ns := h.ns rfl
  obtain ⟨H0, M0, d0⟩ := h.pi.d0
  obtain ⟨H1, M1, d1⟩ := h.pi.d1
  have e1 := told_all d0 h.fa h.pi.s0.1 ns.1.1 ns.2.1 ha ns.1.2
  have e2 := told_all d1 h.fb h.pi.s1.1 ns.2.1 ns.1.1 hb ns.2.2
  rw [e1, e2, beq_self_eq_true, beq_self_eq_true]; rfl

theorem waits {l : Elink_Link} (h : lkOk l) : F_link_Link_Waiting l = some (l.q.l.length : Int) := by
 unfold F_link_Link_Waiting
 rw [none_of h, Option.bind_some, if_neg (by decide)]

theorem fair_rounds {st : Bool} {n : Int} (hn : n ≤ 60000) {p : Elaw22_pair} (h : PS st n p) : iter (F_law22_LinkFair_l2 st) FU (0, p) = some true := by
 obtain ⟨A0, B0, way0, dst0, S0, S1, T00, T10, rfl, h⟩ := h
 refine iter_rule (fun s : Int × Elaw22_pair => 8 - s.1.toNat) (fun _ => some true) (fun s => ∃ r : Nat, s.1 = (r : Int) ∧ r ≤ 8 ∧ ∃ A B way dst T0 T1, s.2 = mkP A B way dst S0 S1 T0 T1 ∧ PF st n A B way dst S0 S1 T0 T1 ∧ Ph r A B ∧ Ph r B A) ?_ FU _ ⟨0, rfl, by omega, A0, B0, way0, dst0, T00, T10, rfl, h, .inr ⟨fun z => by omega, fun z => by omega, fun z => by omega, fun z => by omega, fun z => by omega, fun z => by omega, by omega⟩, .inr ⟨fun z => by omega, fun z => by omega, fun z => by omega, fun z => by omega, fun z => by omega, fun z => by omega, by omega⟩⟩ (by unfold FU; simp only; omega)
 rintro rc ⟨round, p⟩ ⟨r, e1, e2, A, B, way, dst, T0, T1, e3, h, f1, f2⟩ hrc
 simp only at e1 e3 hrc
 subst e1; subst e3
 obtain ⟨H0, M0, d0⟩ := h.pi.d0
 obtain ⟨H1, M1, d1⟩ := h.pi.d1
 unfold F_law22_LinkFair_l2
 dsimp only
 have eo : (mkP A B way dst S0 S1 T0 T1).ok = true := rfl
 rw [eo]
 by_cases c : r < 8
 ·obtain ⟨way', dst', T0', T1', e, g⟩ := round_ok (round := (r : Int)) (rc := rc) hn h
  rw [if_pos (by rw [decide_eq_true (by omega)]; rfl)]
  show ((F_law22_pair_out (mkP A B [] [] S0 S1 T0 T1) 0 true).bind fun o => ((F_law22_pair_out o 1 true).bind fun o_2 => (iter (F_law22_LinkFair_l3 (r : Int) rc) FU (0, o_2)))) = _
  rw [e, chk_t (by unfold inI; omega)]
  have s0 := h.pi.s0; have s1 := h.pi.s1
  have a1 := adv d0 d1 h.fa ⟨s0.1, by omega⟩ ⟨s1.1, by omega⟩
  have a2 := adv d1 d0 h.fb ⟨s1.1, by omega⟩ ⟨s0.1, by omega⟩
  exact hrc _ ⟨r + 1, rfl, by omega, _, _, way', dst', T0', T1', rfl, g, Ph_step a1 f1 d0.ok.len, Ph_step a2 f2 d1.ok.len⟩ (by simp only; omega)
 ·have er : r = 8 := by omega
  have l0 : A.q.l.length = 0 := by rcases f1 with q | q; exact q; omega
  have l1 : B.q.l.length = 0 := by rcases f2 with q | q; exact q; omega
  have fe := fair_end h l0 l1
  rw [if_neg (by rw [decide_eq_false (by omega)]; decide)]
  show (gif (!(!true)) (F_link_Link_Waiting A) default).bind _ = _
  rw [show (!(!true)) = true from rfl, gif_true, waits d0.ok, Option.bind_some, l0]
  show (gif (!((!true) || (((0 : Nat) : Int) != 0))) (F_link_Link_Waiting B) default).bind _ = _
  rw [show (!((!true) || (((0 : Nat) : Int) != 0))) = true from rfl, gif_true, waits d1.ok, Option.bind_some, l1, if_neg (by decide)]
  show (gif (st || ((T0 == S1) && (T1 == S0))) F_law22_awake default).bind (fun a0_4 => some ((st || ((T0 == S1) && (T1 == S0))) && a0_4)) = some true
  rw [fe, gif_true, awake22]; rfl

theorem pure_LinkFair (l : List Elaw22_Step) (h1 : bdSl bdElaw22_Step l) : F_law22_LinkFair l = some true := by
 unfold F_law22_LinkFair
 rw [both_ok.1, Option.bind_some]
 show iter (F_law22_LinkFair_l1 l) FU (false, 0, mkP (newL 1) (newL 1) [] [] 0 0 0 0) = some true
 refine iter_rule (fun s : Bool × Int × Elaw22_pair => 200 - s.2.1.toNat) (fun _ => some true) (fun s => 0 ≤ s.2.1 ∧ s.2.1 ≤ 200 ∧ PS s.1 s.2.1 s.2.2) ?_ FU _ ⟨Int.le_refl _, by simp only; omega, both_ok.2⟩ (by unfold FU; simp only; omega)
 rintro rc ⟨st, i, p⟩ ⟨a1, a2, a3⟩ hrc
 simp only at a1 a2 a3 hrc
 unfold F_law22_LinkFair_l1
 dsimp only
 by_cases c : i < (l.length : Int) ∧ i < 200
 ·obtain ⟨p', e, g⟩ := step_ok (by omega) a3 (l.getD i.toNat default) (h1.2 i.toNat (by omega)).n
  rw [if_pos (by rw [decide_eq_true c.1, decide_eq_true c.2]; rfl), chk_t (by omega), e, Option.bind_some, chk_t (fun _ => by omega), chk_t (fun _ => by omega), chk_t (by unfold inI; omega)]
  exact hrc _ ⟨by simp only; omega, by simp only; omega, g⟩ (by simp only; omega)
 ·rw [if_neg (by rw [Bool.and_eq_true, decide_eq_true_eq, decide_eq_true_eq]; exact c)]
  exact fair_rounds (by omega) a3

end Go.Proofs.Ythomnhhjgcabkaa
