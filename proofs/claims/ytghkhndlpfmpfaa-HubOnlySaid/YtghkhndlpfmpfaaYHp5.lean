/- A hub, plain: the rounds; HubOnly. -/
import Derived.Test.YtghkhndlpfmpfaaYHp4
namespace Go.Proofs.Ytghkhndlpfmpfaa
structure bdElaw23_Act (x : Elaw23_Act) : Prop where
 k : inI x.k
 n : inI x.n
 s : bdStr x.s
 again : bdT x.again

theorem pe {α β : Type} {a a' : α} {b b' : β} (h : a = a') (h2 : b = b') : (a, b) = (a', b') := by rw [h, h2]

def stF (q : Nat → Nat → List ByteArray) : Nat → Nat → Nat → Elink_Link
 | 0 => fun a b => lk0 (q a b)
 | r + 1 => fun a b => pst (stF q r a b) (stF q r b a)

def toF (q : Nat → Nat → List ByteArray) : Nat → Nat → Nat → List ByteArray
 | 0 => fun _ _ => []
 | r + 1 => fun a b => toF q r a b ++ ptx (stF q r a b) (stF q r b a)

theorem prds_is (q : Nat → Nat → List ByteArray) (a b : Nat) : ∀ r, ∃ ok, prds r ⟨lk0 (q a b), lk0 (q b a), [], [], true⟩ = ⟨stF q r a b, stF q r b a, toF q r a b, toF q r b a, ok⟩
 | 0 => ⟨true, rfl⟩
 | r + 1 => by
  obtain ⟨ok, h⟩ := prds_is q a b r
  exact ⟨_, (congrArg prd h).trans rfl⟩

theorem fin_ok {p : PS} {a b c d : List ByteArray} {e : Bool} (h : fin p = (a, b, c, d, e)) : p.A.q.l = a ∧ p.ga = c ∧ p.ok = e :=
 ⟨congrArg (fun x => x.1) h, congrArg (fun x => x.2.2.1) h, congrArg (fun x => x.2.2.2.2) h⟩

structure Qs (q : Nat → Nat → List ByteArray) : Prop where
 len : ∀ a b, (q a b).length ≤ 8
 sz : ∀ a b, ∀ t ∈ q a b, (t.size : Int) ≤ 65536

theorem lk0_ok (q : List ByteArray) (h : q.length ≤ 8) : lkOk (lk0 q) := by
 refine ⟨?_, ?_, ?_, ?_, ?_, ?_, ?_, ?_, ?_⟩ <;> first | exact h | (show (q.length : Int) ≤ 8; omega) | (simp [lk0]; done) | (simp only [lk0]; omega)

theorem stF_ok {q : Nat → Nat → List ByteArray} (h : Qs q) : ∀ r a b, LkS (stF q r a b)
 | 0, a, b => ⟨lk0_ok _ (h.len a b), h.sz a b⟩
 | r + 1, a, b => (stF_ok h r a b).pst

theorem stF_may {q : Nat → Nat → List ByteArray} (h : Qs q) {r : Nat} (hr : r < 8) (a b : Nat) : ∀ s ∈ outsL (stF q r a b) true, mayS s = true := by
 have h8 := pair8 (q a b) (q b a) (h.len a b) (h.len b a)
 have h9 := (fin_ok h8).2.2
 obtain ⟨k, hk⟩ : ∃ k, 8 = (r + 1) + k := ⟨7 - r, by omega⟩
 rw [hk] at h9
 have h10 := prds_ok _ _ _ h9
 obtain ⟨ok, e⟩ := prds_is q a b r
 have e2 : (prd (prds r ⟨lk0 (q a b), lk0 (q b a), [], [], true⟩)).ok = true := h10
 rw [e] at e2
 have e3 : (ok && ((outsL (stF q r a b) true).all mayS && (outsL (stF q r b a) true).all mayS)) = true := e2
 rw [Bool.and_eq_true, Bool.and_eq_true] at e3
 exact List.all_eq_true.1 e3.2.1

theorem stF_wr {q : Nat → Nat → List ByteArray} (h : Qs q) {r : Nat} (hr : r < 8) (a b : Nat) : WrL (stF q r a b) :=
 ⟨(stF_ok h r a b).ok, fun s hs => (put_of (stF_may h hr a b s hs) ((stF_ok h r a b).body hs)).1⟩

theorem pair_end {q : Nat → Nat → List ByteArray} (h : Qs q) (a b : Nat) : (stF q 8 a b).q.l = [] ∧ toF q 8 a b = q a b := by
 have h8 := pair8 (q a b) (q b a) (h.len a b) (h.len b a)
 obtain ⟨ok, e⟩ := prds_is q a b 8
 have h9 := fin_ok h8
 rw [e] at h9
 dsimp only at h9
 exact ⟨h9.1, h9.2.1⟩

theorem ptx_len {q : Nat → Nat → List ByteArray} (h : Qs q) (r a b : Nat) : (ptx (stF q r a b) (stF q r b a)).length ≤ 4 := Nat.le_trans (inT_len _ _) (outs_len (stF_ok h r a b).ok true)

theorem toF_len {q : Nat → Nat → List ByteArray} (h : Qs q) : ∀ r a b, (toF q r a b).length ≤ 4 * r
 | 0, _, _ => Nat.le_refl _
 | r + 1, a, b => by
  have h1 := toF_len h r a b
  have h2 := ptx_len h r a b
  show (toF q r a b ++ _).length ≤ _
  rw [List.length_append]; omega

theorem in_zero {l : Elink_Link} {s : ESeg} (h : mayS s = true) : (inL l s).2.1 = 0 := by
 unfold inL
 rw [if_neg (by rw [h]; decide)]
 split
 ·rfl
 ·unfold tellL
  split
  ·rfl
  ·split <;> rfl

-- the loops
/-- one hub's entries come in -/
theorem loop7 {f : Nat → Elink_Link} {i : Nat} (hi : i < 4) (x : FG) (ok : ∀ a b, LkS (x.1 a b)) (hg : ∀ a b, (x.2 a b).length ≤ 100) (hlk : ∀ j, j < 4 → j ≠ i → LkS (f j)) (hm : ∀ j, j < 4 → j ≠ i → ∀ s ∈ outsL (f j) true, mayS s = true)
  {al : List (List EOut)} (hal : al.getD (0 + i * 1) [] = ents f i) (rc5 : (Int × (List (Option Ehub_Hub)) × (List (List ByteArray))) → Option Bool)
  (hrc : rc5 ((i : Int) + 1, hs (dls i x (entsP f i)).1, gs (dls i x (entsP f i)).2) = some true) : iter (F_law23_HubOnly_l7 al (i : Int) rc5) FU (0, hs x.1, gs x.2) = some true := by
 have hlen := ents_len hi (fun j h1 h2 => (hlk j h1 h2).ok)
 have hel : (ents f i).length = (entsP f i).length := by rw [← ents_tel f hi, List.length_map]
 have hek : ∀ k, k < (entsP f i).length → (ents f i).getD k default = tel ((entsP f i).getD k default) := fun k hk => by
  rw [← ents_tel f hi, getD_lt (by rw [List.length_map]; exact hk), List.getElem_map, getD_lt hk]
 refine iter_up2 (body := F_law23_HubOnly_l7 al (i : Int) rc5) (entsP f i).length (fun _ _ => some true) (fun k s => s = (hs (dls i x ((entsP f i).take k)).1, gs (dls i x ((entsP f i).take k)).2)) (by unfold bdM; omega) rfl fun rc k s hk hs' hrc2 => ?_
 subst hs'
 unfold F_law23_HubOnly_l7
 dsimp only
 rw [toNat_cast, hal, hel, chk_t (by omega)]
 by_cases c : k < (entsP f i).length
 ·have hmem : (entsP f i).getD k default ∈ entsP f i := by rw [getD_lt c]; exact List.getElem_mem c
  obtain ⟨m1, m2, m3⟩ := ents_mem hi hmem
  have htk : (entsP f i).take (k + 1) = (entsP f i).take k ++ [(entsP f i).getD k default] := take_snoc c
  have hmay := hm _ m1 m2 _ m3
  have hof := (put_of hmay ((hlk _ m1 m2).body m3)).2
  obtain ⟨d1, d2⟩ := dls_at i ((entsP f i).take k) x
  have hlen2 : ∀ a, (sel a ((entsP f i).take k)).length ≤ 12 := fun a => by
   unfold sel
   rw [List.length_map]
   refine Nat.le_trans (List.length_filter_le _ _) ?_
   rw [List.length_take]; omega
  have hx : dls i x ((entsP f i).take (k + 1)) = dl i (dls i x ((entsP f i).take k)) ((entsP f i).getD k default) := by rw [htk]; exact dls_snoc _ _ _ _
  have hok : LkS ((dls i x ((entsP f i).take k)).1 ((entsP f i).getD k default).1 i) := by
   rw [d1, if_pos rfl]; exact LkS.inF _ (ok _ _)
  have hgl : ((dls i x ((entsP f i).take k)).2 i ((entsP f i).getD k default).1).length ≤ 112 := by
   rw [d2, if_pos rfl, List.length_append]
   have h1 := hg i ((entsP f i).getD k default).1
   have h2 := inT_len (sel ((entsP f i).getD k default).1 ((entsP f i).take k)) (x.1 ((entsP f i).getD k default).1 i)
   have h3 := hlen2 ((entsP f i).getD k default).1
   omega
  have hr2 := hrc2 _ c rfl
  rw [hx] at hr2
  rw [toNat_cast, hek k c]
  generalize (entsP f i).getD k default = p at m1 m2 m3 hmay hof hok hgl hr2
  generalize dls i x ((entsP f i).take k) = y at hok hgl hr2
  have hin := hub_In (f := y.1 p.1) m1 hi (Ne.symm m2) hok.ok hof
  have hil := in_len (y.1 p.1 i) p.2
  have t1 : (tel p).to_ = (p.1 : Int) := rfl
  have t2 : (tel p).body = pt p.2 := rfl
  rw [if_pos (by rw [decide_eq_true (show (k : Int) < ((entsP f i).length : Int) by omega), decide_eq_true (show (k : Int) < 60 by omega)]; rfl), chk_t (by omega), t1, t2, toNat_cast,
   if_neg (by rw [decide_eq_false (by omega), decide_eq_false (by omega), show ((p.1 : Int) == (i : Int)) = false from by rw [beq_eq_false_iff_ne]; omega]; decide), chk_t (by omega), hs_get m1, optE, chk_t (by omega), hin, Option.bind_some, in_zero hmay]
  dsimp only
  rw [if_neg (by decide), gs_get hi m1, chk_t (by omega), chk_t (by unfold inI; omega), hs_set m1, gs_set hi m1]
  exact hr2
 ·rw [if_neg (by rw [decide_eq_false (by omega), Bool.false_and]; decide), chk_t (by unfold inI; omega)]
  rw [List.take_of_length_le (by omega)]; exact hrc

theorem LkS.dls {i : Nat} {x : FG} (ok : ∀ a b, LkS (x.1 a b)) (l : List (Nat × ESeg)) (a b : Nat) : LkS ((dls i x l).1 a b) := by
 rw [(dls_at i l x).1 a b]
 split
 ·exact LkS.inF _ (ok a b)
 ·exact ok a b

/-- all hubs' entries come in -/
theorem loop6 {q : Nat → Nat → List ByteArray} (h : Qs q) {r : Nat} (hr : r < 8) {g : Nat → Nat → List ByteArray} (hg : ∀ a b, a < 4 → b < 4 → g a b = if a = b then [] else toF q r a b)
  {al : List (List EOut)} (hal : ∀ i, i < 4 → al.getD (0 + i * 1) [] = ents (stF q r i) i) (rc3 : (Int × (List (Option Ehub_Hub)) × (List (List ByteArray))) → Option Bool)
  (hrc : rc3 ((r : Int) + 1, hs (stF q (r + 1)), gs (fun a b => if a = b then [] else toF q (r + 1) a b)) = some true) : iter (F_law23_HubOnly_l6 (r : Int) rc3 al) FU (0, hs (fun a b => outL (stF q r a b)), gs g) = some true := by
 have hol := fun a b => stF_ok h r a b
 refine iter_up2 (body := F_law23_HubOnly_l6 (r : Int) rc3 al) 4 (fun _ _ => some true) (fun k s => ∃ x : FG, s = (hs x.1, gs x.2) ∧ (∀ a b, LkS (x.1 a b)) ∧ (∀ a b, (x.2 a b).length ≤ 100) ∧ (∀ a b, a < 4 → b < 4 → a ≠ b → x.1 a b = if b < k then pst (stF q r a b) (stF q r b a) else outL (stF q r a b)) ∧ ∀ a b, a < 4 → b < 4 → x.2 a b = if a = b then [] else if a < k then toF q (r + 1) a b else toF q r a b) (by unfold bdM; decide)
  ⟨(fun a b => outL (stF q r a b), fun a b => if a < 4 ∧ b < 4 then g a b else []), Prod.ext rfl (gs_ext fun a b h1 h2 => by show g a b = if a < 4 ∧ b < 4 then g a b else []; rw [if_pos ⟨h1, h2⟩]), fun a b => (hol a b).out, fun a b => ?_, fun a b _ _ _ => by rw [if_neg (by omega)], fun a b h1 h2 => by show (if a < 4 ∧ b < 4 then g a b else []) = _; rw [if_pos ⟨h1, h2⟩, hg a b h1 h2, if_neg (show ¬ a < 0 by omega)]⟩ fun rc k s hk ⟨x, hs', x1, x2, x3, x4⟩ hrc2 => ?_
 ·show (if a < 4 ∧ b < 4 then g a b else []).length ≤ 100
  have := toF_len h r a b
  split
  ·rename_i hh
   rw [hg a b hh.1 hh.2]
   split
   ·simp
   ·omega
  ·simp
 ·subst hs'
  unfold F_law23_HubOnly_l6
  dsimp only
  by_cases c : k < 4
  ·rw [if_pos (decide_eq_true (by omega))]
   refine loop7 (f := stF q r k) c x x1 x2 (fun j _ _ => hol k j) (fun j _ _ => stF_may h hr k j) (hal k c) rc ?_
   refine hrc2 _ c ⟨dls k x (entsP (stF q r k) k), rfl, fun a b => LkS.dls x1 _ a b, fun a b => ?_, fun a b h1 h2 h3 => ?_, fun a b h1 h2 => ?_⟩
   ·rw [(dls_at k _ x).2 a b]
    split
    ·rename_i e
     subst e
     by_cases hb : b < 4 ∧ b ≠ a
     ·have ha4 : a < 4 := c
      rw [x4 a b ha4 hb.1, if_neg (Ne.symm hb.2), if_neg (Nat.lt_irrefl a), List.length_append]
      have h1 := toF_len h r a b
      have h2 := inT_len (sel b (entsP (stF q r a) a)) (x.1 b a)
      have h3 : (sel b (entsP (stF q r a) a)).length ≤ 4 := by rw [sel_ents _ c hb.1 hb.2]; exact outs_len (hol a b).ok true
      omega
     ·have h0 : sel b (entsP (stF q r a) a) = [] := by
       unfold sel
       rw [List.map_eq_nil_iff, List.filter_eq_nil_iff]
       intro p hp
       obtain ⟨p1, p2, _⟩ := ents_mem c hp
       rw [beq_iff_eq]
       intro e
       rw [e] at p1 p2
       exact hb ⟨p1, p2⟩
      rw [h0]
      show (x.2 a b ++ []).length ≤ 100
      rw [List.append_nil]; exact x2 a b
    ·exact x2 a b
   ·rw [(dls_at k _ x).1 a b]
    by_cases e : b = k
    ·subst e
     rw [if_pos rfl, x3 a b h1 h2 h3, if_neg (Nat.lt_irrefl b), if_pos (Nat.lt_succ_self b), sel_ents _ c h1 h3]; rfl
    ·rw [if_neg e, x3 a b h1 h2 h3]
     by_cases e2 : b < k
     ·rw [if_pos e2, if_pos (by omega)]
     ·rw [if_neg e2, if_neg (by omega)]
   ·rw [(dls_at k _ x).2 a b]
    by_cases e : a = k
    ·subst e
     rw [if_pos rfl, x4 a b h1 h2]
     by_cases e3 : a = b
     ·subst e3
      have h0 : sel a (entsP (stF q r a) a) = [] := by
       unfold sel
       rw [List.map_eq_nil_iff, List.filter_eq_nil_iff]
       intro p hp
       obtain ⟨_, p2, _⟩ := ents_mem c hp
       rw [beq_iff_eq]; exact p2
      rw [h0, if_pos rfl, if_pos rfl]; rfl
     ·rw [if_neg e3, if_neg e3, if_neg (Nat.lt_irrefl a), if_pos (Nat.lt_succ_self a), sel_ents _ c h2 (Ne.symm e3), x3 b a h2 h1 (Ne.symm e3), if_neg (Nat.lt_irrefl a)]; rfl
    ·rw [if_neg e, x4 a b h1 h2]
     by_cases e3 : a = b
     ·rw [if_pos e3, if_pos e3]
     ·rw [if_neg e3, if_neg e3]
      by_cases e2 : a < k
      ·rw [if_pos e2, if_pos (by omega)]
      ·rw [if_neg e2, if_neg (by omega)]
  ·rw [if_neg (by rw [decide_eq_false (by omega)]; decide), chk_t (by unfold inI; omega)]
   have e1 : hs x.1 = hs (stF q (r + 1)) := hs_ext fun a b h1 h2 h3 => by rw [x3 a b h1 h2 (Ne.symm h3), if_pos (by omega)]; rfl
   have e2 : gs x.2 = gs (fun a b => if a = b then [] else toF q (r + 1) a b) := gs_ext fun a b h1 h2 => by rw [x4 a b h1 h2, if_pos (show a < k by omega)]
   rw [e1, e2]; exact hrc

/-- what goes out of all -/
theorem loop5 {q : Nat → Nat → List ByteArray} (h : Qs q) {r : Nat} (hr : r < 8) {g : Nat → Nat → List ByteArray} (hg : ∀ a b, a < 4 → b < 4 → g a b = if a = b then [] else toF q r a b)
  (rc3 : (Int × (List (Option Ehub_Hub)) × (List (List ByteArray))) → Option Bool)
  (hrc : rc3 ((r : Int) + 1, hs (stF q (r + 1)), gs (fun a b => if a = b then [] else toF q (r + 1) a b)) = some true) : iter (F_law23_HubOnly_l5 (r : Int) (gs g) rc3) FU (0, hs (stF q r), (List.replicate 4 ([] : List EOut))) = some true := by
 refine iter_up2 (body := F_law23_HubOnly_l5 (r : Int) (gs g) rc3) 4 (fun _ _ => some true) (fun k s => s = (hs (fun a b => if a < k then outL (stF q r a b) else stF q r a b), rw4 (fun a => if a < k then ents (stF q r a) a else []))) (by unfold bdM; decide) (Prod.ext (hs_ext fun a b _ _ _ => by show stF q r a b = if a < 0 then outL (stF q r a b) else stF q r a b; rw [if_neg (by omega)]) rfl) fun rc k s hk hs' hrc2 => ?_
 subst hs'
 unfold F_law23_HubOnly_l5
 dsimp only
 by_cases c : k < 4
 ·rw [if_pos (decide_eq_true (by omega)), chk_t (by omega), toNat_cast, hs_get c, optE]
  have e0 : (fun b => if k < k then outL (stF q r k b) else stF q r k b) = stF q r k := funext fun b => if_neg (Nat.lt_irrefl k)
  rw [e0, hub_Out c (fun j _ _ => stF_wr h hr k j), Option.bind_some, chk_t (by unfold inI; omega)]
  dsimp only
  rw [hs_set c, rw_set c]
  refine hrc2 _ c (pe (hs_ext fun a b h1 h2 h3 => ?_) ?_)
  ·unfold updE
   by_cases e : a = k
   ·subst e; rw [if_pos rfl, if_pos (Nat.lt_succ_self a)]
   ·rw [if_neg e]
    dsimp only
    by_cases e2 : a < k
    ·rw [if_pos e2, if_pos (by omega)]
    ·rw [if_neg e2, if_neg (by omega)]
  ·refine List.map_congr_left fun a ha => ?_
   unfold updE
   by_cases e : a = k
   ·subst e; rw [if_pos rfl, if_pos (Nat.lt_succ_self a)]
   ·rw [if_neg e]
    dsimp only
    by_cases e2 : a < k
    ·rw [if_pos e2, if_pos (by omega)]
    ·rw [if_neg e2, if_neg (by omega)]
 ·rw [if_neg (by rw [decide_eq_false (by omega)]; decide)]
  have e1 : hs (fun a b => if a < k then outL (stF q r a b) else stF q r a b) = hs (fun a b => outL (stF q r a b)) := hs_ext fun a b h1 _ _ => by rw [if_pos (by omega)]
  rw [e1]
  exact loop6 h hr hg (fun i hi => by rw [rw_get hi, if_pos (by omega)]) rc3 hrc

theorem awake23 : F_law23_awake = some true := by kernel_rfl

/-- the end -/
theorem loop8 {q : Nat → Nat → List ByteArray} (h : Qs q) {s g : Nat → Nat → List ByteArray} (hs' : ∀ a b, a < 4 → b < 4 → s a b = if a = b then [] else q a b) (hg : ∀ a b, a < 4 → b < 4 → g a b = if a = b then [] else toF q 8 a b) :
  iter (F_law23_HubOnly_l8 (gs s) (gs g)) FU (0, hs (stF q 8)) = some true := by
 refine iter_up2 (body := F_law23_HubOnly_l8 (gs s) (gs g)) 4 (fun _ _ => some true) (fun _ y => y = hs (stF q 8)) (by unfold bdM; decide) rfl fun rc i y hi hy hrc => ?_
 subst hy
 unfold F_law23_HubOnly_l8
 dsimp only
 by_cases c : i < 4
 ·rw [if_pos (decide_eq_true (by omega))]
  refine iter_up2 (body := F_law23_HubOnly_l9 (gs s) (gs g) (i : Int) rc) 4 (fun _ _ => some true) (fun _ y => y = hs (stF q 8)) (by unfold bdM; decide) rfl fun rc2 k y hk hy hrc2 => ?_
  subst hy
  unfold F_law23_HubOnly_l9
  dsimp only
  by_cases d : k < 4
  ·rw [if_pos (decide_eq_true (by omega)), chk_t (by omega), chk_t (by omega), toNat_cast, toNat_cast, hs_get c, optE]
   have e1 : (gs s).getD (0 + i * 4 + k * 1) [] = (gs g).getD (0 + i * 4 + k * 1) [] := by
    rw [gs_get c d, gs_get c d, hs' i k c d, hg i k c d, (pair_end h i k).2]
   have e2 : ((gs g).getD (0 + i * 4 + k * 1) []).length ≤ bdM := by
    rw [gs_get c d, hg i k c d]
    have := toF_len h 8 i k
    unfold bdM
    split
    ·simp
    ·omega
   rw [e1, same_strs _ e2, Option.bind_some, show (!(!true)) = true from rfl, gif_true]
   have e3 : F_hub_Hub_Waiting (hb (stF q 8 i) i) (k : Int) = some (0, hb (stF q 8 i) i) := by
    by_cases e : k = i
    ·subst e; exact hub_Waiting_no c
    ·rw [hub_Waiting c d e (stF_ok h 8 i k).ok, (pair_end h i k).1]; rfl
   rw [e3, Option.bind_some]
   dsimp only
   rw [if_neg (by decide), chk_t (by unfold inI; omega)]
   show rc2 (_, (hs (stF q 8)).set (0 + i * 1) (some (hb (stF q 8 i) i))) = _
   rw [hs_same c]
   exact hrc2 _ d rfl
  ·rw [if_neg (by rw [decide_eq_false (by omega)]; decide), chk_t (by unfold inI; omega)]
   exact hrc _ c rfl
 ·rw [if_neg (by rw [decide_eq_false (by omega)]; decide), awake23]; rfl

theorem loop4 {q : Nat → Nat → List ByteArray} (h : Qs q) {s : Nat → Nat → List ByteArray} (hs' : ∀ a b, a < 4 → b < 4 → s a b = if a = b then [] else q a b) :
  iter (F_law23_HubOnly_l4 (gs s)) FU (0, hs (stF q 0), gs (fun _ _ => [])) = some true := by
 refine iter_up2 (body := F_law23_HubOnly_l4 (gs s)) 8 (fun _ _ => some true) (fun k y => y = (hs (stF q k), gs (fun a b => if a = b then [] else toF q k a b))) (by unfold bdM; decide) (Prod.ext rfl (show gs (fun _ _ => []) = gs (fun a b => if a = b then [] else toF q 0 a b) from gs_ext fun a b _ _ => by split <;> rfl)) fun rc k y hk hy hrc => ?_
 subst hy
 unfold F_law23_HubOnly_l4
 dsimp only
 by_cases c : k < 8
 ·rw [if_pos (decide_eq_true (by omega))]
  exact loop5 h c (fun _ _ _ _ => rfl) rc (hrc _ c rfl)
 ·rw [if_neg (by rw [decide_eq_false (by omega)]; decide)]
  have : k = 8 := by omega
  subst this
  exact loop8 h hs' (fun _ _ _ _ => rfl)

theorem send_lk0 (q : List ByteArray) (s : ByteArray) : sendL (lk0 q) s = if (s.size : Int) > 65536 then (3, lk0 q) else if q.length ≥ 8 then (6, lk0 q) else (0, lk0 (q ++ [s])) := rfl

theorem pure_HubOnly (l : List Elaw23_Act) (hl : bdSl bdElaw23_Act l) : F_law23_HubOnly l = some true := by
 unfold F_law23_HubOnly
 refine iter_up2 (body := F_law23_HubOnly_l1 l) 4 (fun _ _ => some true) (fun k y => y = (List.range 4).map (fun i => if i < k then some (hb (fun _ => lk0 []) i) else none)) (by unfold bdM; decide) rfl fun rc k y hk hy hrc => ?_
 subst hy
 unfold F_law23_HubOnly_l1
 dsimp only
 by_cases c : k < 4
 ·have hn : F_hub_New (k : Int) 1 = some (some (hb (fun _ => lk0 []) k), 0) := by
   rcases lt4 c with rfl | rfl | rfl | rfl <;> kernel_rfl
  rw [if_pos (decide_eq_true (by omega)), hn, Option.bind_some, optE]
  dsimp only
  rw [if_neg (by decide), chk_t (by omega), chk_t (by unfold inI; omega), toNat_cast]
  refine hrc _ c ?_
  rcases lt4 c with rfl | rfl | rfl | rfl <;> rfl
 ·rw [if_neg (by rw [decide_eq_false (by omega)]; decide)]
  have : k = 4 := by omega
  subst this
  have hbl := hl.1
  refine iter_up2 (body := F_law23_HubOnly_l2 l) (min l.length 30) (fun _ _ => some true) (fun _ y => ∃ q : Nat → Nat → List ByteArray, Qs q ∧ y = (hs (stF q 0), gs (fun a b => if a = b then [] else q a b))) (by unfold bdM; omega) ⟨fun _ _ => [], ⟨fun _ _ => by simp, fun _ _ t ht => by cases ht⟩, Prod.ext rfl rfl⟩ fun rc i y hi ⟨q, hq, hy⟩ hrc => ?_
  subst hy
  unfold F_law23_HubOnly_l2
  dsimp only
  by_cases d : i < min l.length 30
  ·have hfrom : i % 4 < 4 := Nat.mod_lt _ (by decide)
   have e0 : (i : Int).tmod 4 = ((i % 4 : Nat) : Int) := rfl
   rw [if_pos (by rw [decide_eq_true (show (i : Int) < (l.length : Int) by omega), decide_eq_true (show (i : Int) < 30 by omega)]; rfl), e0, chk_t (by omega), toNat_cast, hs_get hfrom, optE, chk_t (by omega), chk_t (by omega), toNat_cast]
   generalize (l.getD i default).n = n
   generalize (l.getD i default).s = s
   generalize i % 4 = fr at hfrom
   by_cases cn : n < 0 ∨ n ≥ 4 ∨ n = (fr : Int)
   ·rw [hub_Send_no hfrom n cn s, Option.bind_some]
    dsimp only
    rw [if_neg (by decide), hs_same hfrom]
    unfold F_law23_HubOnly_k3
    rw [chk_t (by unfold inI; omega)]
    exact hrc _ d ⟨q, hq, rfl⟩
   ·obtain ⟨m, rfl⟩ := Int.eq_ofNat_of_zero_le (show 0 ≤ n by omega)
    have hm : m < 4 := by omega
    have hne : m ≠ fr := by omega
    rw [hub_Send hfrom hm hne (lk0_ok _ (hq.len fr m)) s, Option.bind_some]
    dsimp only
    have esend := send_lk0 (q fr m) s
    have ekeep : ∀ x, (x = (3 : Int) ∨ x = 6) → sendL (stF q 0 fr m) s = (x, lk0 (q fr m)) → (if ((sendL (stF q 0 fr m) s).1 == 0) = true then (none : Option Bool) else none) = none → hs (updE (stF q 0) fr (updE (stF q 0 fr) m (sendL (stF q 0 fr m) s).2)) = hs (stF q 0) := fun x _ e _ => by
     rw [e]
     refine hs_ext fun a b _ _ _ => ?_
     show up2 (stF q 0) fr m (lk0 (q fr m)) a b = _
     rw [up2_at]
     by_cases h : a = fr ∧ b = m
     ·rw [if_pos h, h.1, h.2]; rfl
     ·rw [if_neg h]
    by_cases c1 : (s.size : Int) > 65536
    ·rw [if_pos c1] at esend
     have e1 : sendL (stF q 0 fr m) s = (3, lk0 (q fr m)) := esend
     have e2 := ekeep 3 (.inl rfl) e1 (by split <;> rfl)
     rw [if_neg (by rw [e1]; show ¬ ((3 : Int) == 0) = true; decide), hs_set hfrom, e2]
     unfold F_law23_HubOnly_k3
     rw [chk_t (by unfold inI; omega)]
     exact hrc _ d ⟨q, hq, rfl⟩
    ·by_cases c2 : (q fr m).length ≥ 8
     ·rw [if_neg c1, if_pos c2] at esend
      have e1 : sendL (stF q 0 fr m) s = (6, lk0 (q fr m)) := esend
      have e2 := ekeep 6 (.inr rfl) e1 (by split <;> rfl)
      rw [if_neg (by rw [e1]; show ¬ ((6 : Int) == 0) = true; decide), hs_set hfrom, e2]
      unfold F_law23_HubOnly_k3
      rw [chk_t (by unfold inI; omega)]
      exact hrc _ d ⟨q, hq, rfl⟩
     ·rw [if_neg c1, if_neg c2] at esend
      have e1 : sendL (stF q 0 fr m) s = (0, lk0 (q fr m ++ [s])) := esend
      have hgm : (gs (fun a b => if a = b then [] else q a b)).getD (0 + fr * 4 + m * 1) [] = q fr m := by rw [gs_get hfrom hm, if_neg (Ne.symm hne)]
      rw [if_pos (by rw [e1]; rfl), e1, chk_t (by omega), chk_t (by omega), chk_t (by omega), chk_t (by omega), toNat_cast, hgm, chk_t (by rw [List.length_cons, List.length_nil]; omega), hs_set hfrom, gs_set hfrom hm]
      unfold F_law23_HubOnly_k3
      rw [chk_t (by unfold inI; omega)]
      refine hrc _ d ⟨up2 q fr m (q fr m ++ [s]), ⟨fun a b => ?_, fun a b t ht => ?_⟩, pe (hs_ext fun a b _ _ _ => ?_) (gs_ext fun a b _ _ => ?_)⟩
      ·rw [up2_at]
       split
       ·rw [List.length_append, List.length_cons, List.length_nil]; omega
       ·exact hq.len a b
      ·rw [up2_at] at ht
       split at ht
       ·rcases List.mem_append.1 ht with ht | ht
        ·exact hq.sz _ _ t ht
        ·rw [List.mem_singleton.1 ht]; omega
       ·exact hq.sz a b t ht
      ·show up2 (stF q 0) fr m (lk0 (q fr m ++ [s])) a b = lk0 (up2 q fr m (q fr m ++ [s]) a b)
       rw [up2_at, up2_at]
       split <;> rfl
      ·rw [up2_at, up2_at]
       by_cases h : a = fr ∧ b = m
       ·rw [if_pos h, if_pos h, if_neg (by rw [h.1, h.2]; exact Ne.symm hne)]
       ·rw [if_neg h, if_neg h]
  ·rw [if_neg (by
    by_cases d1 : i < l.length
    ·rw [decide_eq_false (show ¬ (i : Int) < 30 by omega), Bool.and_false]; decide
    ·rw [decide_eq_false (show ¬ (i : Int) < (l.length : Int) by omega), Bool.false_and]; decide)]
   exact loop4 hq (fun _ _ _ _ => rfl)

end Go.Proofs.Ytghkhndlpfmpfaa
