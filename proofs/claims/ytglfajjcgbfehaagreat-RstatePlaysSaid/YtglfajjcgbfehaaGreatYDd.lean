/- A replica's log as one object: its entries' operations are its own. -/
import Derived.Test.YtglfajjcgbfehaaGreatYDg
namespace Go.Proofs.YtglfajjcgbfehaaGreat
open Go.RowKit

section
variable {I0 D : Dm} {w0 : World} {I : Dm} {w : World} {cs : List Ch}
theorem PmC.any {α β : Type} {M : MapE α β} {v : Value} {o : Option (List (α × β))} {I2 f : Dm} (h : (PmC M v o).P I w f) : (PmC M v o).P I2 w f := by
 cases o with
 | none => exact h
 | some m =>
  obtain ⟨b, f1, g1, h1, ⟨f2, g2, h2, h3⟩, h4⟩ := h
  exact ⟨b, f1, g1, h1, ⟨f2, g2, h2, h3⟩, h4⟩

/-- the same log under other labels, that agree on its own blocks -/
theorem XErlog_Log.re {T : Lb} {A : Dm} {b : Nat} {x : Erlog_Log} {f : Dm} (h : (XErlog_Log T A b x).P I w f) :
  ∃ T' : Lb, (∀ k, A k → T' k = T k) ∧ ∀ (I2 : Dm) (T2 : Lb), (∀ k, I k → T' k ≠ none → I2 k ∧ T2 k = T' k) → (XErlog_Log T2 AnyA b x).P I2 w f := by
 obtain ⟨⟨v1, v2, T'⟩, f1, g1, h1, ⟨f2, g2, h2, ⟨f3, g3, h3, h4, h5, h6⟩, h7, h8⟩, h9, h10⟩ := h
 refine ⟨T'.1, T'.2, fun I2 T2 hq => ⟨(v1, v2, ⟨T2, fun _ _ => rfl⟩), f1, g1, h1, ⟨f2, g2, ⟨h2.1, h2.2.1, ?_⟩, ⟨f3, g3, ?_, h4, h5, h6⟩, h7, h8⟩, h9, h10⟩⟩
 ·rcases h2.2.2 with ⟨ao, e1, e2⟩ | ⟨g, cap, css, e1, e2, e3, e4⟩
  ·exact .inl ⟨ao, e1, e2⟩
  ·refine .inr ⟨g, cap, css, e1, e2, e3, fun i a b => ?_⟩
   obtain ⟨u, d1, d2⟩ := e4 i a b
   have hk : ∀ k, u.ownBlock = some k → (I2 k ∧ k ≠ g) ∧ k < w.heap.size ∧ T2 k = some ((x.l[i]).batch.client, (x.l[i]).batch.req) := fun k hk => by
    obtain ⟨c1, c2, c3⟩ := d2.lb k hk
    obtain ⟨c4, c5⟩ := hq k c1.1 (by rw [c3]; exact Option.some_ne_none _)
    exact ⟨⟨c4, c1.2⟩, c2, c5.trans c3⟩
   exact ⟨u, d1, Ow.slO (Ow.flatA (A' := NoD) NEOp.isFlat d2.ow) (fun k h => h.elim) fun k h => (hk k h).1, d2.ow, hk⟩
 ·exact PmC.any h3

/-- the log with all that is its own -/
def OErlog_Log (b : Nat) (x : Erlog_Log) : Ch where
 P I w fp := ∃ (J f : Dm) (T : Lb), (∀ k, fp k ↔ (J k ∨ f k)) ∧ (∀ k, J k → ¬ f k) ∧ (∀ k, J k → k < w.heap.size) ∧ (∀ k, T k ≠ none → J k) ∧ (XErlog_Log T AnyA b x).P (fun k => I k ∨ J k) w f
 keep := fun ⟨J, f, T, h1, h2, h3, h4, h5⟩ hI hk => ⟨J, f, T, h1, h2, fun k hk' => Nat.lt_of_lt_of_le (h3 k hk') hk.1, h4, (XErlog_Log T AnyA _ _).keep h5 (fun k h => h.imp (hI k) id) (hk.sub fun k h => by
  rcases h with (h | h) | h
  ·exact .inl h
  ·exact .inr ((h1 k).2 (.inl h))
  ·exact .inr ((h1 k).2 (.inr h)))⟩
 pur := false
 hpur := fun h => by cases h

/-- into the log: what is its own never turns for the while -/
theorem deep_in {b : Nat} {x : Erlog_Log} {cin : List Ch} (H : St I D w (OErlog_Log b x :: cin)) :
  ∃ (J : Dm) (T : Lb) (D1 : Dm), (∀ k, T k ≠ none → J k) ∧ (∀ k, J k → ¬ I k ∧ D k) ∧ (∀ k, D1 k → D k) ∧ St (fun k => I k ∨ J k) D1 w (XErlog_Log T AnyA b x :: cin) := by
 obtain ⟨F, g, ⟨J, f, T, h1, h2, h3, h4, h5⟩, hg, hd, hD⟩ := H.star
 have hJ : ∀ k, J k → D k := fun k hk => (hD k).2 (.inl ((h1 k).2 (.inl hk)))
 refine ⟨J, T, fun k => f k ∨ g k, h4, fun k hk => ⟨(H.sep k (hJ k hk)).1, hJ k hk⟩, fun k hk => (hD k).2 (hk.imp (fun h => (h1 k).2 (.inr h)) id), ⟨fun k hk => hk.elim (H.imm k) (h3 k), ⟨f, g, h5, hg.keep (fun k h => .inl h) (Keep.refl _ _), fun k a b => hd k ((h1 k).2 (.inr a)) b, fun _ => Iff.rfl⟩, fun k hk => ?_⟩⟩
 rcases hk with hk | hk
 ·have := H.sep k ((hD k).2 (.inl ((h1 k).2 (.inr hk))))
  exact ⟨fun h => h.elim this.1 fun h => h2 k h hk, this.2⟩
 ·have := H.sep k ((hD k).2 (.inr hk))
  exact ⟨fun h => h.elim this.1 fun h => hd k ((h1 k).2 (.inl h)) hk, this.2⟩

/-- out of it: what is labelled is its own -/
theorem deep_out {J : Dm} {T : Lb} {D1 : Dm} (hT : ∀ k, T k ≠ none → J k) (hJ : ∀ k, J k → ¬ I k ∧ D k) (hD : ∀ k, D1 k → D k) {A I' : Dm} {w' : World} {b : Nat} {x : Erlog_Log} {co co' : List Ch}
  (K : Hf (fun k => I k ∨ J k) D1 w I' w' (XErlog_Log T A b x :: co)) (hA : ∀ k, I k → A k) (I2 : Dm) (hI : ∀ k, I k → I2 k) (hI2 : ∀ k, I2 k → I' k) (hs : ∀ T' : Lb, (∀ k, A k → T' k = T k) → ∀ k, I2 k → T' k = none) (hc : ∀ f, Star I' w' co f → Star I2 w' co' f) :
  Hf I D w I2 w' (OErlog_Log b x :: co') := by
 obtain ⟨fp, ⟨f, g, h1, h2, h3, h4⟩, h5⟩ := K.star
 obtain ⟨T', g1, g2⟩ := XErlog_Log.re h1
 have hIT : ∀ k, I k → T' k = none := fun k hk => hs T' g1 k (hI k hk)
 have hD2 : ∀ k, I' k → T' k ≠ none → D k ∨ w.heap.size ≤ k := fun k hk hn => by
  rcases (K.imm2 k hk).2 with (h | h) | h | h
  ·exact absurd (hIT k h) hn
  ·exact .inl (hJ k h).2
  ·exact .inl (hD k h)
  ·exact .inr h
 classical
 refine ⟨⟨K.frm.os, K.frm.tape, K.frm.output, K.frm.size, fun k hk hn => K.frm.block k hk fun h => hn (hD k h)⟩, hI, fun k hk => ⟨(K.imm2 k (hI2 k hk)).1, ?_⟩, fun k => ((I' k ∧ T' k ≠ none) ∨ f k) ∨ g k,
  ⟨fun k => (I' k ∧ T' k ≠ none) ∨ f k, g, ⟨fun k => I' k ∧ T' k ≠ none, f, fun k => if I' k then T' k else none, fun _ => Iff.rfl, fun k a b => (h5 k ((h4 k).2 (.inl b))).1 a.1, fun k hk => (K.imm2 k hk.1).1, fun k hk => ?_, g2 _ _ fun k a b => ⟨.inr ⟨a, b⟩, if_pos a⟩⟩, hc g h2, fun k a b => ?_, fun _ => Iff.rfl⟩, fun k hk => ?_⟩
 ·rcases (K.imm2 k (hI2 k hk)).2 with (h | h) | h | h
  ·exact .inl h
  ·exact .inr (.inl (hJ k h).2)
  ·exact .inr (.inl (hD k h))
  ·exact .inr (.inr h)
 ·replace hk : (if I' k then T' k else none) ≠ none := hk
  by_cases q : I' k
  ·rw [if_pos q] at hk; exact ⟨q, hk⟩
  ·rw [if_neg q] at hk; exact absurd rfl hk
 ·rcases a with a | a
  ·exact (h5 k ((h4 k).2 (.inr b))).1 a.1
  ·exact h3 k a b
 ·rcases hk with (hk | hk) | hk
  ·exact ⟨fun h => hk.2 (hs T' g1 k h), (K.imm2 k hk.1).1, hD2 k hk.1 hk.2⟩
  ·have := h5 k ((h4 k).2 (.inl hk))
   exact ⟨fun h => this.1 (hI2 k h), this.2.1, this.2.2.imp (hD k) id⟩
  ·have := h5 k ((h4 k).2 (.inr hk))
   exact ⟨fun h => this.1 (hI2 k h), this.2.1, this.2.2.imp (hD k) id⟩

/-- .. with results that pass through no block -/
theorem deep_flat {J : Dm} {T : Lb} {D1 : Dm} (hT : ∀ k, T k ≠ none → J k) (hJ : ∀ k, J k → ¬ I k ∧ D k) (hD : ∀ k, D1 k → D k) {A I' : Dm} {w' : World} {b : Nat} {x : Erlog_Log} {co : List Ch}
  (K : Hf (fun k => I k ∨ J k) D1 w I' w' (XErlog_Log T A b x :: co)) (hA : ∀ k, I k → A k) (hc : ∀ f, Star I' w' co f → Star I w' co f) : Hf I D w I w' (OErlog_Log b x :: co) :=
 deep_out hT hJ hD K hA I (fun _ h => h) (fun k h => K.imm k (.inl h)) (fun T' hT' k hk => (hT' k (hA k hk)).trans (Decidable.by_contra fun h => (hJ k (hT k h)).1 hk)) hc

/-- labels that hold everywhere hold on less -/
theorem XErlog_Log.less {T : Lb} {A A' : Dm} {b : Nat} {x : Erlog_Log} {f : Dm} (hA : ∀ k, A' k → A k) (h : (XErlog_Log T A b x).P I w f) : (XErlog_Log T A' b x).P I w f := by
 obtain ⟨⟨v1, v2, T'⟩, h⟩ := h
 exact ⟨(v1, v2, ⟨T'.1, fun k hk => T'.2 k (hA k hk)⟩), h⟩

theorem St.less {T : Lb} {A A' : Dm} {b : Nat} {x : Erlog_Log} {cin : List Ch} (hA : ∀ k, A' k → A k) (H : St I D w (XErlog_Log T A b x :: cin)) : St I D w (XErlog_Log T A' b x :: cin) := by
 obtain ⟨f, g, h1, h2⟩ := H.star
 exact ⟨H.imm, ⟨f, g, XErlog_Log.less hA h1, h2⟩, H.sep⟩

theorem Star.own1 {α : Type} {R : Rp α} (hF : R.Flat) {e : TypeId} {v : Value} {l : List α} {I2 f : Dm} (h : Star I w [OwC R e v l] f) : Star I2 w [OwC R e v l] f := by
 obtain ⟨f1, g1, ⟨h1, h2, h3⟩, h4⟩ := h
 exact ⟨f1, g1, ⟨h1, h2, Ow.flatA hF h3⟩, h4⟩

theorem NEEntryN.re {A1 : Dm} {e : TypeId} {v : Value} {l : List EEntry} {I2 f : Dm} (hA : ∀ k, I k → ¬ A1 k → I2 k) (h : Star I w [OwC (NEEntryN A1) e v l] f) : Star I2 w [OwC NEEntry e v l] f := by
 obtain ⟨f1, g1, ⟨h1, h2, h3⟩, h4⟩ := h
 refine ⟨f1, g1, ⟨h1, h2, ?_⟩, h4⟩
 rcases h3 with ⟨ao, e1, e2⟩ | ⟨g, cap, css, e1, e2, e3, e4⟩
 ·exact .inl ⟨ao, e1, e2⟩
 ·refine .inr ⟨g, cap, css, e1, e2, e3, fun i a b => ?_⟩
  obtain ⟨u, d1, d2⟩ := e4 i a b
  exact ⟨u, d1, d2.mono (fun k hk => ⟨hA k hk.1.1 hk.2, hk.1.2⟩) (Keep.refl _ _)⟩

end
section
variable {I D : Dm} {w : World}
theorem d_rlog_New {rr : Erlog_Log} (hF : F_rlog_New = some rr) (H : St I D w []) :
  Calls Tryz.prog 18 #[] w (Ret fun vv w' => ∃ g1 : Nat, vv = .pointer (some ⟨g1, 0, none⟩) ∧ ∃ I', Hf I D w I' w' [OErlog_Log g1 rr]) := by
 refine (c_rlog_New (T0 := fun _ => none) (A0 := I) hF H).mono fun e w' he => ?_
 cases e with
 | returned v =>
  obtain ⟨g1, h1, I', K⟩ := he
  have K' : Hf (fun k => I k ∨ NoD k) D w I' w' [XErlog_Log (fun _ => none) I g1 rr] := ⟨K.frm, fun k hk => K.imm k (hk.elim id fun h => h.elim), fun k hk => ⟨(K.imm2 k hk).1, (K.imm2 k hk).2.imp .inl id⟩, K.star⟩
  exact ⟨g1, h1, I, deep_flat (T := fun _ => none) (fun k h => absurd rfl h) (fun k h => h.elim) (fun _ h => h) K' (fun _ h => h) fun _ h => h⟩
 | panicked c => exact he.elim
 | outgrown => exact he.elim

section
variable {b_l : Nat} {l : Erlog_Log}
/-- a function of the log that answers plain values -/
theorem deep_call {n : Nat} {args : Array Value} {cin : List Ch} {Pv : Value → Prop} {x' : Erlog_Log} (H : St I D w (OErlog_Log b_l l :: cin))
  (hc : ∀ {T0 : Lb} {A0 I1 D1 : Dm}, (∀ k, A0 k → I1 k) → St I1 D1 w (XErlog_Log T0 A0 b_l l :: cin) → Calls Tryz.prog n args w (Ret fun vv w' => Pv vv ∧ ∃ I', Hf I1 D1 w I' w' [XErlog_Log T0 A0 b_l x'])) :
  Calls Tryz.prog n args w (Ret fun vv w' => Pv vv ∧ ∃ I', Hf I D w I' w' [OErlog_Log b_l x']) := by
 obtain ⟨J, T, D1, h1, h2, h3, h4⟩ := deep_in H
 refine (hc (A0 := I) (fun k h => .inl h) (St.less (fun _ _ => trivial) h4)).mono fun e w' he => ?_
 cases e with
 | returned v => obtain ⟨g1, I', K⟩ := he; exact ⟨g1, I, deep_flat h1 h2 h3 K (fun _ h => h) fun _ h => h⟩
 | panicked c => exact he.elim
 | outgrown => exact he.elim

theorem d_rlog_Log_none {rr : Bool} (hF : F_rlog_Log_none l = some rr) (H : St I D w [OErlog_Log b_l l]) :
  Calls Tryz.prog 56 #[.pointer (some ⟨b_l, 0, none⟩)] w (Ret fun vv w' => vv = .bool rr ∧ ∃ I', Hf I D w I' w' [OErlog_Log b_l l]) := deep_call H fun _ H => c_rlog_Log_none hF H

theorem d_rlog_Log_Set {i : Int} {e : EEntry} {v1_e : Value} {rr : Int × Erlog_Log} (hF : F_rlog_Log_Set l i e = some rr) (H : St I D w [OErlog_Log b_l l, SlC NEOp v1_e e.batch.ops]) :
  Calls Tryz.prog 22 #[.pointer (some ⟨b_l, 0, none⟩), .int .i64 i, .agg #[.int .i64 e.batch.client, .int .i64 e.batch.req, v1_e, .int .u64 e.ts]] w (Ret fun vv w' => vv = .int .i64 rr.1 ∧ ∃ I', Hf I D w I' w' [OErlog_Log b_l rr.2]) := deep_call H fun hA H => c_rlog_Log_Set hA hF H

theorem d_rlog_Log_Stamp {i ts : Int} {rr : Int × Erlog_Log} (hF : F_rlog_Log_Stamp l i ts = some rr) (H : St I D w [OErlog_Log b_l l]) :
  Calls Tryz.prog 23 #[.pointer (some ⟨b_l, 0, none⟩), .int .i64 i, .int .u64 ts] w (Ret fun vv w' => vv = .int .i64 rr.1 ∧ ∃ I', Hf I D w I' w' [OErlog_Log b_l rr.2]) := deep_call H fun _ H => c_rlog_Log_Stamp hF H

theorem d_rlog_Log_Find {client req : Int} {rr : Int × Erlog_Log} (hF : F_rlog_Log_Find l client req = some rr) (H : St I D w [OErlog_Log b_l l]) :
  Calls Tryz.prog 78 #[.pointer (some ⟨b_l, 0, none⟩), .int .i64 client, .int .i64 req] w (Ret fun vv w' => vv = .int .i64 rr.1 ∧ ∃ I', Hf I D w I' w' [OErlog_Log b_l rr.2]) := deep_call H fun _ H => c_rlog_Log_Find hF H

theorem d_rlog_Log_Len {rr : Int} (hF : F_rlog_Log_Len l = some rr) (H : St I D w [OErlog_Log b_l l]) :
  Calls Tryz.prog 76 #[.pointer (some ⟨b_l, 0, none⟩)] w (Ret fun vv w' => vv = .int .i64 rr ∧ ∃ I', Hf I D w I' w' [OErlog_Log b_l l]) := deep_call H fun _ H => c_rlog_Log_Len hF H

theorem d_rlog_Log_Stamped {rr : Int} (hF : F_rlog_Log_Stamped l = some rr) (H : St I D w [OErlog_Log b_l l]) :
  Calls Tryz.prog 49 #[.pointer (some ⟨b_l, 0, none⟩)] w (Ret fun vv w' => vv = .int .i64 rr ∧ ∃ I', Hf I D w I' w' [OErlog_Log b_l l]) := deep_call H fun _ H => c_rlog_Log_Stamped hF H

theorem d_rlog_Log_At {i : Int} {rr : EEntry × Bool} (hF : F_rlog_Log_At l i = some rr) (H : St I D w [OErlog_Log b_l l]) :
  Calls Tryz.prog 44 #[.pointer (some ⟨b_l, 0, none⟩), .int .i64 i] w (Ret fun vv w' => ∃ q1 : Value, vv = .tuple #[.agg #[.int .i64 rr.1.batch.client, .int .i64 rr.1.batch.req, q1, .int .u64 rr.1.ts], .bool rr.2] ∧ ∃ I', Hf I D w I' w' [OErlog_Log b_l l, OwC NEOp 58 q1 rr.1.batch.ops]) := by
 obtain ⟨J, T, D1, h1, h2, h3, h4⟩ := deep_in H
 refine (c_rlog_Log_At (A0 := I) hF (St.less (fun _ _ => trivial) h4)).mono fun e w' he => ?_
 cases e with
 | returned v =>
  obtain ⟨q1, g1, I', K⟩ := he
  exact ⟨q1, g1, I, deep_out h1 h2 h3 K (fun _ h => h) I (fun _ h => h) (fun k h => K.imm k (.inl h)) (fun T' hT' k hk => (hT' k hk).trans (Decidable.by_contra fun h => (h2 k (h1 k h)).1 hk)) fun _ h => Star.own1 NEOp.isFlat h⟩
 | panicked c => exact he.elim
 | outgrown => exact he.elim

theorem d_rlog_Log_All {rr : List EEntry} (hF : F_rlog_Log_All l = some rr) (H : St I D w [OErlog_Log b_l l]) :
  Calls Tryz.prog 75 #[.pointer (some ⟨b_l, 0, none⟩)] w (Ret fun vv w' => ∃ q1 : Value, vv = q1 ∧ ∃ I', Hf I D w I' w' [OErlog_Log b_l l, OwC NEEntry 44 q1 rr]) := by
 obtain ⟨J, T, D1, h1, h2, h3, h4⟩ := deep_in H
 refine (c_rlog_Log_All (A1 := fun k => I k ∨ J k) (fun _ h => h) hF h4).mono fun e w' he => ?_
 cases e with
 | returned v =>
  obtain ⟨q1, g1, I', K⟩ := he
  have hTI : ∀ k, I k → T k = none := fun k hk => Decidable.by_contra fun h => (h2 k (h1 k h)).1 hk
  exact ⟨q1, g1, fun k => I' k ∧ T k = none, deep_out h1 h2 h3 K (fun _ _ => trivial) _ (fun k hk => ⟨K.imm k (.inl hk), hTI k hk⟩) (fun k h => h.1) (fun T' hT' k hk => (hT' k trivial).trans hk.2) fun _ h => NEEntryN.re (fun k hk hn => ⟨hk, Decidable.by_contra fun h => hn (.inr (h1 k h))⟩) h⟩
 | panicked c => exact he.elim
 | outgrown => exact he.elim

end
end
end Go.Proofs.YtglfajjcgbfehaaGreat
