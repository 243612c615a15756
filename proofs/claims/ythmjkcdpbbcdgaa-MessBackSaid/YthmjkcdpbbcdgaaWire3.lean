/- The walks of wire's Writer. -/
import Derived.Test.YthmjkcdpbbcdgaaBld
import Derived.Test.YthmjkcdpbbcdgaaWire2
namespace Go.Proofs.Ythmjkcdpbbcdgaa
open Go.RowKit

def TBbL : TabL := ⟨[(74 * 1024, 0), (74 * 1024 + 1, 1), (76 * 1024, 0), (76 * 1024 + 1, 2), (76 * 1024 + 2, 3)], [9], [4], [(72, (5, 1))], [(71, (1, false)), (72, (1, false)), (4, (1, false)), (23, (1, false))]⟩

def TBb : Tab Try.prog := ⟨TBbL, by kernel_rfl⟩

/-- the builder marks its own place -/
theorem c_copyCheck {I D : Dm} (b : Nat) (p : Bool) (v : Value) (er : Int) (w : World) (H : St I D w [BxC b 76 [if p then .pointer (some ⟨b, 0, none⟩) else .pointer none, v, .int .i64 er, .bool true]]) :
  Calls Try.prog 81 #[.pointer (some ⟨b, 0, none⟩)] w (Ret fun r w' => r = .tuple #[] ∧ ∃ I', Hf I D w I' w' [BxC b 76 [.pointer (some ⟨b, 0, none⟩), v, .int .i64 er, .bool true]]) := by
 replace H := H.hf
 refine f_enter 20 Try.func81 rfl rfl (Nat.le_of_ble_eq_true rfl) fun a hok => ?_
 replace hok := hok.sub (ts := [0]) rfl
 refine wp_seq (f_region hok ?_); clear hok; intro hok
 refine s_runk TBb hok 3 rfl rfl ?_; clear hok a; intro a hok
 refine s_ob hok (v := if p then .pointer (some ⟨b, 0, none⟩) else .pointer none) rfl rfl (by decide) rfl (Ob_load TBb rfl rfl rfl ((H.bx 0 rfl).cell 0 rfl)) ?_; clear hok a; intro a hok
 cases p
 ·refine s_ob hok (v := .bool true) rfl rfl (by decide) rfl (Ob_pn (p := none) (q := none) (op := .eql) (c := true) rfl rfl rfl rfl Try.underlying71 (.inl ⟨rfl, rfl⟩)) ?_; clear hok a; intro a hok
  refine s_end hok [0, 6] rfl ?_; clear hok; intro hok
  refine p_then ?_
  refine f_cond hok rfl (fun _ => ?_) (fun h => by cases h)
  refine f_region hok ?_; clear hok; intro hok
  refine s_runk TBb hok 2 rfl rfl ?_; clear hok a; intro a hok
  refine s_ob hok (v := .pointer (some ⟨b, 0, none⟩)) rfl rfl (by decide) rfl (Ob_tou rfl rfl Try.underlying71 Try.underlying137 (by kernel_rfl) (H.bx 0 rfl) (Nat.zero_lt_succ _)) ?_; clear hok a; intro a hok
  refine s_ob hok (v := .pointer (some ⟨b, 0, none⟩)) rfl rfl (by decide) rfl (Ob_ext rfl rfl rfl rfl rfl Try.func86 (by kernel_rfl) (by kernel_rfl) (by kernel_rfl) (e := Extern.AbiNoEscape.same) (by kernel_rfl) rfl) ?_; clear hok a; intro a hok
  refine s_ob hok (v := .pointer (some ⟨b, 0, none⟩)) rfl rfl (by decide) rfl (Ob_fru rfl rfl Try.underlying137 Try.underlying71 (by kernel_rfl) (H.bx 0 rfl) (by kernel_rfl)) ?_; clear hok a; intro a hok
  refine s_runk TBb hok 2 rfl rfl ?_; clear hok a; intro a hok
  refine h_store TBb hok H 0 (us := [.pointer (some ⟨b, 0, none⟩)]) (cl' := [.pointer (some ⟨b, 0, none⟩), v, .int .i64 er, .bool true]) rfl rfl rfl rfl rfl rfl rfl rfl rfl (by simp only [List.mem_cons, List.not_mem_nil, or_false]; rintro u rfl <;> rfl) (Nat.le_of_ble_eq_true rfl) rfl ?_; clear H; intro w2 H
  dsimp only [List.eraseIdx] at H
  refine s_end hok [0] rfl ?_; clear hok; intro hok
  refine f_fall hok (run_results0 rfl) ?_
  exact ⟨rfl, I, H⟩
 ·refine s_ob hok (v := .bool false) rfl rfl (by decide) rfl (Ob_pn (p := some ⟨b, 0, none⟩) (q := none) (op := .eql) (c := false) rfl rfl rfl rfl Try.underlying71 (.inl ⟨rfl, rfl⟩)) ?_; clear hok a; intro a hok
  refine s_end hok [0, 6] rfl ?_; clear hok; intro hok
  refine p_then ?_
  refine f_cond hok rfl (fun h => by cases h) (fun _ => ?_)
  refine wp_seq (f_region hok ?_); clear hok; intro hok
  refine s_runk TBb hok 3 rfl rfl ?_; clear hok a; intro a hok
  refine s_ob hok (v := .pointer (some ⟨b, 0, none⟩)) rfl rfl (by decide) rfl (Ob_load TBb rfl rfl rfl ((H.bx 0 rfl).cell 0 rfl)) ?_; clear hok a; intro a hok
  refine s_runk TBb hok 1 rfl rfl ?_; clear hok a; intro a hok
  refine s_ob hok (v := .bool false) rfl rfl (by decide) rfl (Ob_neps rfl rfl rfl Try.underlying71 (by kernel_rfl)) ?_; clear hok a; intro a hok
  refine s_end hok [0, 19] rfl ?_; clear hok; intro hok
  refine p_then ?_
  refine f_cond hok rfl (fun h => by cases h) (fun _ => ?_)
  refine wp_skip ?_
  refine f_fall hok (run_results0 rfl) ?_
  exact ⟨rfl, I, H⟩

theorem fn_b1 : IsFn Try.prog 81 := ⟨_, Try.func81, by kernel_rfl, by kernel_rfl⟩

theorem fn_b2 : IsFn Try.prog 65 := ⟨_, Try.func65, by kernel_rfl, by kernel_rfl⟩

/-- the program's writer: its text so far, its first error -/
abbrev WrP (b : Nat) (t : ByteArray) (er : Int) : Ch := WrG 76 5 b t er

theorem c_WriteString {I D : Dm} (b : Nat) (t : ByteArray) (er : Int) (s : ByteArray) (w : World) (H : St I D w [WrP b t er]) (hsz : t.size + s.size ≤ 140737488355328) :
  Calls Try.prog 65 #[.pointer (some ⟨b, 0, none⟩), .string s] w (Ret fun r w' => ∃ I', Hf I D w I' w' [WrP b (t ++ s) er]) := by
 replace H := H.hf
 obtain ⟨⟨p, v⟩, H⟩ := H.exC 0 rfl
 dsimp only [List.eraseIdx, List.cons_append, List.nil_append] at H
 refine f_enter 19 Try.func65 rfl rfl (Nat.le_of_ble_eq_true rfl) fun a hok => ?_
 replace hok := hok.sub (ts := [0, 1]) rfl
 refine wp_seq (f_region hok ?_); clear hok; intro hok
 refine s_runk TBb hok 2 rfl rfl ?_; clear hok a; intro a hok
 refine s_end hok [0, 1] rfl ?_; clear hok; intro hok
 refine p_then (wp_seq (f_region hok ?_)); clear hok; intro hok
 refine s_runk TBb hok 1 rfl rfl ?_; clear hok a; intro a hok
 refine h_call hok H (js := [(0, false)]) rfl (caps := #[]) fn_b1 rfl rfl rfl rfl rfl (by decide) rfl rfl (fun D1 h1 => c_copyCheck b p v er _ h1) ?_; clear hok
 rintro r a1 w1 D1 ⟨rfl, I1, H1⟩ hback hok
 replace H := hback H1; clear hback H1
 dsimp only [List.eraseIdx, List.cons_append, List.nil_append] at H
 refine s_end hok [0, 1] rfl ?_; clear hok; intro hok
 refine p_then (wp_seq (f_region hok ?_)); clear hok; intro hok
 refine s_runk TBb hok 4 rfl rfl ?_; clear hok a; intro a hok
 refine s_ob hok (v := v) rfl rfl (by decide) rfl (Ob_load TBb rfl rfl rfl ((H.bx 0 rfl).cell 1 rfl)) ?_; clear hok a; intro a hok
 refine s_runk TBb hok 1 rfl rfl ?_; clear hok a; intro a hok
 refine h_apps hok H 1 Try.underlying72 Try.underlying9 rfl (by kernel_rfl) rfl rfl rfl (by decide) rfl rfl rfl hsz ?_; clear hok H
 intro ao cap a w2 H hok
 dsimp only [List.eraseIdx, List.cons_append, List.nil_append] at H
 refine s_runk TBb hok 2 rfl rfl ?_; clear hok a; intro a hok
 refine h_store TBb hok H 1 (us := [.slice ao (t ++ s).size cap]) (cl' := [.pointer (some ⟨b, 0, none⟩), .slice ao (t ++ s).size cap, .int .i64 er, .bool true]) rfl rfl rfl rfl rfl rfl rfl rfl rfl (by simp only [List.mem_cons, List.not_mem_nil, or_false]; rintro u rfl <;> rfl) (Nat.le_of_ble_eq_true rfl) rfl ?_; clear H; intro w3 H
 dsimp only [List.eraseIdx] at H
 refine s_end hok [0, 1] rfl ?_; clear hok; intro hok
 refine p_then (wp_seq (f_region hok ?_)); clear hok; intro hok
 refine s_runk TBb hok 4 rfl rfl ?_; clear hok a; intro a hok
 refine s_end hok [4, 5] rfl ?_; clear hok; intro hok
 refine p_then (wp_ret ?_)
 refine f_ret hok (run_results2 rfl hok rfl rfl) ?_
 exact ⟨I1, Hf.toEx (f := fun (p : Bool × Value) => [BxC b 76 [if p.1 then .pointer (some ⟨b, 0, none⟩) else .pointer none, p.2, .int .i64 er, .bool true], OrC 5 p.2 (t ++ s)]) (true, .slice ao (t ++ s).size cap) H⟩

/-- read out for good -/
theorem c_String {I D : Dm} (b : Nat) (t : ByteArray) (er : Int) (w : World) (H : St I D w [WrP b t er]) :
  Calls Try.prog 39 #[.pointer (some ⟨b, 0, none⟩)] w (Ret fun r w' => r = .string t ∧ ∃ I', Hf I D w I' w' []) := by
 replace H := H.hf
 obtain ⟨⟨p, v⟩, H⟩ := H.exC 0 rfl
 dsimp only [List.eraseIdx, List.cons_append, List.nil_append] at H
 obtain ⟨ao, cap, rfl⟩ := H.orV 1 rfl
 have hrc := H.orc 1 rfl
 refine f_enter 14 Try.func39 rfl rfl (Nat.le_of_ble_eq_true rfl) fun a hok => ?_
 replace hok := hok.sub (ts := [0]) rfl
 refine wp_seq (f_region hok ?_); clear hok; intro hok
 refine s_runk TBb hok 1 rfl rfl ?_; clear hok a; intro a hok
 refine s_end hok [0] rfl ?_; clear hok; intro hok
 refine p_then (wp_seq ?_)
 refine f_quietS 10 (by kernel_rfl) (by kernel_rfl) (by kernel_rfl) (by kernel_rfl) (by kernel_rfl) hok ?_; clear hok; intro hok
 refine q_runk TBb hok 3 rfl rfl ?_; clear hok a; intro a hok
 refine q_ob hok (v := .slice ao t.size cap) rfl rfl (by decide) rfl (fun _ hw => Ob_load TBb rfl rfl rfl (((H.bx 0 rfl).below hw).cell 1 rfl)) ?_; clear hok a; intro a hok
 refine q_ob hok (v := .pointer ao) rfl rfl (by decide) rfl (fun _ _ => Ob_usd rfl rfl hrc) ?_; clear hok a; intro a hok
 refine q_runk TBb hok 3 rfl rfl ?_; clear hok a; intro a hok
 refine q_ob hok (v := .slice ao t.size cap) rfl rfl (by decide) rfl (fun _ hw => Ob_load TBb rfl rfl rfl (((H.bx 0 rfl).below hw).cell 1 rfl)) ?_; clear hok a; intro a hok
 refine q_runk TBb hok 1 rfl rfl ?_; clear hok a; intro a hok
 refine q_endS hok [0, 3, 4, 5, 6, 7, 8, 9, 10, 11, 12] rfl ?_; clear hok; intro w1 hb hok
 replace H := H.blw hb
 clear hb
 refine h_ustr hok H 1 Try.underlying120 (by kernel_rfl) rfl rfl rfl rfl (by decide) rfl rfl rfl ?_; clear hok H
 intro a w2 H hok
 refine s_runk TBb hok 1 rfl rfl ?_; clear hok a; intro a hok
 refine s_end hok [2] rfl ?_; clear hok; intro hok
 refine p_then (wp_ret ?_)
 refine f_ret hok (run_results1 rfl hok rfl) ?_
 exact ⟨rfl, I, H.tail⟩

/-- the writer as its callers see it: none, one that nobody made, or one that writes -/
inductive WSt where | none | zero (b : Nat) | live (b : Nat) (t : ByteArray) (er : Int)

def WSt.p : WSt → Value | .none => .pointer .none | .zero b => .pointer (some ⟨b, 0, .none⟩) | .live b _ _ => .pointer (some ⟨b, 0, .none⟩)

def WSt.ch : WSt → Ch | .none => OrC 0 (.slice .none 0 0) ByteArray.empty | .zero b => BxC b 76 [.pointer .none, .slice .none 0 0, .int .i64 0, .bool false] | .live b t er => WrP b t er

def WSt.off : WSt → Bool | .none => true | .zero _ => true | .live _ _ er => er != 0

def WSt.put : WSt → ByteArray → WSt | .live b t er, s => if er = 0 then .live b (t ++ s) er else .live b t er | x, _ => x

def WSt.fits (x : WSt) (n : Nat) : Prop := match x with | .live _ t er => er = 0 → t.size + n ≤ 140737488355328 | _ => True

theorem WSt.put_p (x : WSt) (s : ByteArray) : (x.put s).p = x.p := by cases x <;> simp only [WSt.put] <;> (try split) <;> rfl

theorem c_woff {I D : Dm} (x : WSt) (w : World) (H : St I D w [x.ch]) : Calls Try.prog 32 #[x.p] w (Ret fun r w' => r = .bool x.off ∧ ∃ I', Hf I D w I' w' [x.ch]) := by
 replace H := H.hf
 cases x with
 | none =>
  refine f_enter 19 Try.func32 rfl rfl (Nat.le_of_ble_eq_true rfl) fun a hok => ?_
  replace hok := hok.sub (ts := [0]) rfl
  refine wp_seq (f_region hok ?_); clear hok; intro hok
  refine s_runk TBb hok 1 rfl rfl ?_; clear hok a; intro a hok
  refine s_end hok [0] rfl ?_; clear hok; intro hok
  refine p_then (wp_seq (f_region hok ?_)); clear hok; intro hok
  refine s_runk TBb hok 1 rfl rfl ?_; clear hok a; intro a hok
  refine s_ob hok (v := .bool true) rfl rfl (by decide) rfl (Ob_pn (p := none) (q := none) (op := .eql) (c := true) rfl rfl rfl rfl Try.underlying48 (.inl ⟨rfl, rfl⟩)) ?_; clear hok a; intro a hok
  refine s_runk TBb hok 1 rfl rfl ?_; clear hok a; intro a hok
  refine g_if hok rfl rfl rfl (p := false) rfl rfl (by decide) (fun h => by cases h) (fun _ => ?_); clear hok a; intro a hok
  refine g_if hok rfl rfl rfl (p := false) rfl rfl (by decide) (fun h => by cases h) (fun _ => ?_); clear hok a; intro a hok
  refine g_if hok rfl rfl rfl (p := false) rfl rfl (by decide) (fun h => by cases h) (fun _ => ?_); clear hok a; intro a hok
  refine g_if hok rfl rfl rfl (p := false) rfl rfl (by decide) (fun h => by cases h) (fun _ => ?_); clear hok a; intro a hok
  refine g_if hok rfl rfl rfl (p := false) rfl rfl (by decide) (fun h => by cases h) (fun _ => ?_); clear hok a; intro a hok
  refine s_ob hok (v := .bool true) rfl rfl (by decide) rfl (Ob_pick rfl rfl rfl rfl rfl) ?_; clear hok a; intro a hok
  refine s_runk TBb hok 1 rfl rfl ?_; clear hok a; intro a hok
  refine g_if hok rfl rfl rfl (p := false) rfl rfl (by decide) (fun h => by cases h) (fun _ => ?_); clear hok a; intro a hok
  refine g_if hok rfl rfl rfl (p := false) rfl rfl (by decide) (fun h => by cases h) (fun _ => ?_); clear hok a; intro a hok
  refine g_if hok rfl rfl rfl (p := false) rfl rfl (by decide) (fun h => by cases h) (fun _ => ?_); clear hok a; intro a hok
  refine g_if hok rfl rfl rfl (p := false) rfl rfl (by decide) (fun h => by cases h) (fun _ => ?_); clear hok a; intro a hok
  refine g_if hok rfl rfl rfl (p := false) rfl rfl (by decide) (fun h => by cases h) (fun _ => ?_); clear hok a; intro a hok
  refine s_ob hok (v := .bool true) rfl rfl (by decide) rfl (Ob_pick rfl rfl rfl rfl rfl) ?_; clear hok a; intro a hok
  refine s_runk TBb hok 1 rfl rfl ?_; clear hok a; intro a hok
  refine s_end hok [2] rfl ?_; clear hok; intro hok
  refine p_then (wp_ret ?_)
  refine f_ret hok (run_results1 rfl hok rfl) ?_
  exact ⟨rfl, I, H⟩
 | zero b =>
  have H := H; unfold WSt.ch at H
  refine f_enter 19 Try.func32 rfl rfl (Nat.le_of_ble_eq_true rfl) fun a hok => ?_
  replace hok := hok.sub (ts := [0]) rfl
  refine wp_seq (f_region hok ?_); clear hok; intro hok
  refine s_runk TBb hok 1 rfl rfl ?_; clear hok a; intro a hok
  refine s_end hok [0] rfl ?_; clear hok; intro hok
  refine p_then (wp_seq (f_region hok ?_)); clear hok; intro hok
  refine s_runk TBb hok 1 rfl rfl ?_; clear hok a; intro a hok
  refine s_ob hok (v := .bool false) rfl rfl (by decide) rfl (Ob_pn (p := some ⟨b, 0, none⟩) (q := none) (op := .eql) (c := false) rfl rfl rfl rfl Try.underlying48 (.inl ⟨rfl, rfl⟩)) ?_; clear hok a; intro a hok
  refine s_runk TBb hok 1 rfl rfl ?_; clear hok a; intro a hok
  refine g_if hok rfl rfl rfl (p := true) rfl rfl (by decide) (fun _ => ?_) (fun h => by cases h)
  refine s_runk TBb hok 1 rfl rfl ?_; clear hok a; intro a hok
  refine g_if hok rfl rfl rfl (p := true) rfl rfl (by decide) (fun _ => ?_) (fun h => by cases h)
  refine s_runk TBb hok 1 rfl rfl ?_; clear hok a; intro a hok
  refine g_if hok rfl rfl rfl (p := true) rfl rfl (by decide) (fun _ => ?_) (fun h => by cases h)
  refine s_runk TBb hok 1 rfl rfl ?_; clear hok a; intro a hok
  refine g_if hok rfl rfl rfl (p := true) rfl rfl (by decide) (fun _ => ?_) (fun h => by cases h)
  refine s_ob hok (v := .bool false) rfl rfl (by decide) rfl (Ob_load TBb rfl rfl rfl ((H.bx 0 rfl).cell 3 rfl)) ?_; clear hok a; intro a hok
  refine g_if hok rfl rfl rfl (p := true) rfl rfl (by decide) (fun _ => ?_) (fun h => by cases h)
  refine s_runk TBb hok 1 rfl rfl ?_; clear hok a; intro a hok
  refine s_ob hok (v := .bool true) rfl rfl (by decide) rfl (Ob_pick rfl rfl rfl rfl rfl) ?_; clear hok a; intro a hok
  refine s_runk TBb hok 1 rfl rfl ?_; clear hok a; intro a hok
  refine g_if hok rfl rfl rfl (p := false) rfl rfl (by decide) (fun h => by cases h) (fun _ => ?_); clear hok a; intro a hok
  refine g_if hok rfl rfl rfl (p := false) rfl rfl (by decide) (fun h => by cases h) (fun _ => ?_); clear hok a; intro a hok
  refine g_if hok rfl rfl rfl (p := false) rfl rfl (by decide) (fun h => by cases h) (fun _ => ?_); clear hok a; intro a hok
  refine g_if hok rfl rfl rfl (p := false) rfl rfl (by decide) (fun h => by cases h) (fun _ => ?_); clear hok a; intro a hok
  refine g_if hok rfl rfl rfl (p := false) rfl rfl (by decide) (fun h => by cases h) (fun _ => ?_); clear hok a; intro a hok
  refine s_ob hok (v := .bool true) rfl rfl (by decide) rfl (Ob_pick rfl rfl rfl rfl rfl) ?_; clear hok a; intro a hok
  refine s_runk TBb hok 1 rfl rfl ?_; clear hok a; intro a hok
  refine s_end hok [2] rfl ?_; clear hok; intro hok
  refine p_then (wp_ret ?_)
  refine f_ret hok (run_results1 rfl hok rfl) ?_
  exact ⟨rfl, I, H⟩
 | live b t er =>
  obtain ⟨⟨p, v⟩, H⟩ := Hf.exC H 0 rfl
  dsimp only [List.eraseIdx, List.cons_append, List.nil_append] at H
  refine f_enter 19 Try.func32 rfl rfl (Nat.le_of_ble_eq_true rfl) fun a hok => ?_
  replace hok := hok.sub (ts := [0]) rfl
  refine wp_seq (f_region hok ?_); clear hok; intro hok
  refine s_runk TBb hok 1 rfl rfl ?_; clear hok a; intro a hok
  refine s_end hok [0] rfl ?_; clear hok; intro hok
  refine p_then (wp_seq (f_region hok ?_)); clear hok; intro hok
  refine s_runk TBb hok 1 rfl rfl ?_; clear hok a; intro a hok
  refine s_ob hok (v := .bool false) rfl rfl (by decide) rfl (Ob_pn (p := some ⟨b, 0, none⟩) (q := none) (op := .eql) (c := false) rfl rfl rfl rfl Try.underlying48 (.inl ⟨rfl, rfl⟩)) ?_; clear hok a; intro a hok
  refine s_runk TBb hok 1 rfl rfl ?_; clear hok a; intro a hok
  refine g_if hok rfl rfl rfl (p := true) rfl rfl (by decide) (fun _ => ?_) (fun h => by cases h)
  refine s_runk TBb hok 1 rfl rfl ?_; clear hok a; intro a hok
  refine g_if hok rfl rfl rfl (p := true) rfl rfl (by decide) (fun _ => ?_) (fun h => by cases h)
  refine s_runk TBb hok 1 rfl rfl ?_; clear hok a; intro a hok
  refine g_if hok rfl rfl rfl (p := true) rfl rfl (by decide) (fun _ => ?_) (fun h => by cases h)
  refine s_runk TBb hok 1 rfl rfl ?_; clear hok a; intro a hok
  refine g_if hok rfl rfl rfl (p := true) rfl rfl (by decide) (fun _ => ?_) (fun h => by cases h)
  refine s_ob hok (v := .bool true) rfl rfl (by decide) rfl (Ob_load TBb rfl rfl rfl ((H.bx 0 rfl).cell 3 rfl)) ?_; clear hok a; intro a hok
  refine g_if hok rfl rfl rfl (p := true) rfl rfl (by decide) (fun _ => ?_) (fun h => by cases h)
  refine s_runk TBb hok 1 rfl rfl ?_; clear hok a; intro a hok
  refine s_ob hok (v := .bool false) rfl rfl (by decide) rfl (Ob_pick rfl rfl rfl rfl rfl) ?_; clear hok a; intro a hok
  refine s_runk TBb hok 1 rfl rfl ?_; clear hok a; intro a hok
  refine g_if hok rfl rfl rfl (p := true) rfl rfl (by decide) (fun _ => ?_) (fun h => by cases h)
  refine s_runk TBb hok 1 rfl rfl ?_; clear hok a; intro a hok
  refine g_if hok rfl rfl rfl (p := true) rfl rfl (by decide) (fun _ => ?_) (fun h => by cases h)
  refine s_runk TBb hok 1 rfl rfl ?_; clear hok a; intro a hok
  refine g_if hok rfl rfl rfl (p := true) rfl rfl (by decide) (fun _ => ?_) (fun h => by cases h)
  refine s_runk TBb hok 1 rfl rfl ?_; clear hok a; intro a hok
  refine g_if hok rfl rfl rfl (p := true) rfl rfl (by decide) (fun _ => ?_) (fun h => by cases h)
  refine s_ob hok (v := .int .i64 er) rfl rfl (by decide) rfl (Ob_load TBb rfl rfl rfl ((H.bx 0 rfl).cell 2 rfl)) ?_; clear hok a; intro a hok
  refine g_if hok rfl rfl rfl (p := true) rfl rfl (by decide) (fun _ => ?_) (fun h => by cases h)
  refine s_runk TBb hok 1 rfl rfl ?_; clear hok a; intro a hok
  refine s_ob hok (v := .bool (er != 0)) rfl rfl (by decide) rfl (Ob_pick rfl rfl rfl rfl rfl) ?_; clear hok a; intro a hok
  refine s_runk TBb hok 1 rfl rfl ?_; clear hok a; intro a hok
  refine s_end hok [2] rfl ?_; clear hok; intro hok
  refine p_then (wp_ret ?_)
  refine f_ret hok (run_results1 rfl hok rfl) ?_
  exact ⟨rfl, I, Hf.toEx (f := fun (p : Bool × Value) => [BxC b 76 [if p.1 then .pointer (some ⟨b, 0, none⟩) else .pointer none, p.2, .int .i64 er, .bool true], OrC 5 p.2 t]) (p, v) H⟩

theorem fn_w1 : IsFn Try.prog 32 := ⟨_, Try.func32, by kernel_rfl, by kernel_rfl⟩

theorem fn_w2 : IsFn Try.prog 33 := ⟨_, Try.func33, by kernel_rfl, by kernel_rfl⟩

theorem fn_w3 : IsFn Try.prog 34 := ⟨_, Try.func34, by kernel_rfl, by kernel_rfl⟩

theorem fn_b3 : IsFn Try.prog 39 := ⟨_, Try.func39, by kernel_rfl, by kernel_rfl⟩

theorem c_wput {I D : Dm} (x : WSt) (s : ByteArray) (w : World) (H : St I D w [x.ch]) (hsz : x.fits s.size) : Calls Try.prog 33 #[x.p, .string s] w (Ret fun r w' => r = x.p ∧ ∃ I', Hf I D w I' w' [(x.put s).ch]) := by
 replace H := H.hf
 refine f_enter 14 Try.func33 rfl rfl (Nat.le_of_ble_eq_true rfl) fun a hok => ?_
 replace hok := hok.sub (ts := [0, 1]) rfl
 refine wp_seq (f_region hok ?_); clear hok; intro hok
 refine s_runk TBb hok 1 rfl rfl ?_; clear hok a; intro a hok
 refine s_end hok [0, 1] rfl ?_; clear hok; intro hok
 refine p_then (wp_seq ?_)
 refine wp_seq (f_region hok ?_); clear hok; intro hok
 refine s_runk TBb hok 1 rfl rfl ?_; clear hok a; intro a hok
 refine h_call hok H (js := [(0, false)]) rfl (caps := #[]) fn_w1 rfl rfl rfl rfl rfl (by decide) rfl rfl (fun D1 h1 => c_woff x _ h1) ?_; clear hok a; intro r1 a w1 D1 hr hback hok
 obtain ⟨rfl, I1, H1⟩ := hr
 replace H := hback H1; clear hback H1 D1
 dsimp only [List.eraseIdx, List.cons_append, List.nil_append] at H
 refine s_runk TBb hok 1 rfl rfl ?_; clear hok a; intro a hok
 refine s_end hok [0, 1, 7] rfl ?_; clear hok; intro hok
 refine p_then ?_
 refine f_cond hok rfl (fun hc => ?_) (fun hc => ?_)
 ·cases x with
  | none => cases hc
  | zero b => cases hc
  | live b t er =>
   have he : er = 0 := by simpa [WSt.off] using hc
   dsimp only [WSt.p] at hok
   refine f_region hok ?_; clear hok; intro hok
   refine s_runk TBb hok 4 rfl rfl ?_; clear hok a; intro a hok
   refine h_call hok H (js := [(0, false)]) rfl (caps := #[]) fn_b2 rfl rfl rfl rfl rfl (by decide) rfl rfl (fun D1 h1 => c_WriteString b t er s _ h1 (hsz he)) ?_; clear hok a; intro r1 a w1 D1 hr hback hok
   obtain ⟨I2, H1⟩ := hr
   replace H := hback H1; clear hback H1 D1
   dsimp only [List.eraseIdx, List.cons_append, List.nil_append] at H
   refine s_end hok [0, 1] rfl ?_; clear hok; intro hok
   refine p_then (wp_seq (f_region hok ?_)); clear hok; intro hok
   refine s_runk TBb hok 2 rfl rfl ?_; clear hok a; intro a hok
   refine s_end hok [4] rfl ?_; clear hok; intro hok
   refine p_then (wp_ret ?_)
   refine f_ret hok (run_results1 rfl hok rfl) ?_
   refine ⟨rfl, I2, ?_⟩
   have e1 : (WSt.put (.live b t er) s).ch = WrP b (t ++ s) er := by rw [show WSt.put (.live b t er) s = .live b (t ++ s) er from if_pos he]; rfl
   rw [e1]; exact H
 ·have e1 : x.put s = x := by
   cases x with
   | none => rfl
   | zero b => rfl
   | live b t er => exact if_neg (by simpa [WSt.off] using hc)
  refine wp_skip ?_
  refine p_then (wp_seq (f_region hok ?_)); clear hok; intro hok
  refine s_runk TBb hok 2 rfl rfl ?_; clear hok a; intro a hok
  refine s_end hok [4] rfl ?_; clear hok; intro hok
  refine p_then (wp_ret ?_)
  refine f_ret hok (run_results1 rfl hok rfl) ?_
  rw [e1]
  exact ⟨rfl, I1, H⟩

theorem c_wBig {I D : Dm} (x : WSt) (n0 : Nat) (w : World) (H : St I D w [x.ch]) (hn : n0 < 18446744073709551616) (hsz : x.fits (vput n0).size) : Calls Try.prog 37 #[x.p, .int .u64 (n0 : Int)] w (Ret fun r w' => r = x.p ∧ ∃ I', Hf I D w I' w' [(x.put (vput n0)).ch]) := by
 replace H := H.hf
 refine f_enter 9 Try.func37 rfl rfl (Nat.le_of_ble_eq_true rfl) fun a hok => ?_
 replace hok := hok.sub (ts := [0, 1]) rfl
 refine wp_seq (f_region hok ?_); clear hok; intro hok
 refine s_runk TBb hok 1 rfl rfl ?_; clear hok a; intro a hok
 refine s_end hok [0, 1] rfl ?_; clear hok; intro hok
 refine p_then (wp_seq (f_region hok ?_)); clear hok; intro hok
 refine s_runk TBb hok 2 rfl rfl ?_; clear hok a; intro a hok
 refine s_call hok fn_w3 (caps := #[]) rfl rfl rfl rfl rfl (by decide) rfl rfl (c_vput (n0) _ (hn)) ?_; clear hok a; intro r1 a w1 hr hok
 obtain ⟨rfl, hb⟩ := hr
 replace H := H.blw hb; clear hb
 refine h_call hok H (js := [(0, false)]) rfl (caps := #[]) fn_w2 rfl rfl rfl rfl rfl (by decide) rfl rfl (fun D1 h1 => c_wput (x) (vput n0) _ h1 (hsz)) ?_; clear hok a; intro r1 a w1 D1 hr hback hok
 obtain ⟨rfl, I1, H1⟩ := hr
 replace H := hback H1; clear hback H1 D1
 dsimp only [List.eraseIdx, List.cons_append, List.nil_append] at H
 refine s_runk TBb hok 1 rfl rfl ?_; clear hok a; intro a hok
 refine s_end hok [4] rfl ?_; clear hok; intro hok
 refine p_then (wp_ret ?_)
 refine f_ret hok (run_results1 rfl hok rfl) ?_
 exact ⟨rfl, I1, H⟩

def WSt.text (x : WSt) (s : ByteArray) : WSt := (x.put (vput s.size)).put s

theorem WSt.fits_put {x : WSt} {a b : ByteArray} (h : x.fits (a.size + b.size)) : (x.put a).fits b.size := by
 cases x with
 | none => trivial
 | zero b => trivial
 | live b t er =>
  by_cases he : er = 0
  ·rw [show WSt.put (.live b t er) a = .live b (t ++ a) er from if_pos he]
   intro _
   have h := h he
   rw [ByteArray.size_append]; omega
  ·rw [show WSt.put (.live b t er) a = .live b t er from if_neg he]
   exact fun e => absurd e he

theorem WSt.fits_le {x : WSt} {m n : Nat} (h : x.fits n) (hm : m ≤ n) : x.fits m := by
 cases x with
 | none => trivial
 | zero b => trivial
 | live b t er => exact fun e => by have := h e; omega

theorem c_wText {I D : Dm} (x : WSt) (s : ByteArray) (w : World) (H : St I D w [x.ch]) (hs : s.size ≤ maxLen) (hsz : x.fits ((vput s.size).size + s.size)) : Calls Try.prog 36 #[x.p, .string s] w (Ret fun r w' => r = x.p ∧ ∃ I', Hf I D w I' w' [(x.text s).ch]) := by
 replace H := H.hf
 have hml : maxLen = 9223372036854775807 := (by decide)
 refine f_enter 13 Try.func36 rfl rfl (Nat.le_of_ble_eq_true rfl) fun a hok => ?_
 replace hok := hok.sub (ts := [0, 1]) rfl
 refine wp_seq (f_region hok ?_); clear hok; intro hok
 refine s_runk TBb hok 1 rfl rfl ?_; clear hok a; intro a hok
 refine s_end hok [0, 1] rfl ?_; clear hok; intro hok
 refine p_then (wp_seq (f_region hok ?_)); clear hok; intro hok
 refine s_runk TBb hok 3 rfl rfl ?_; clear hok a; intro a hok
 have hcv1 : ∀ w : World, (convert 3 22 (.int .i64 ((s.size : Nat) : Int))).run Try.prog w = .ok (.int .u64 ((s.size : Nat) : Int)) w := fun w => run_convi Try.underlying3 Try.underlying22 _ _ (IntWalk.u64_in _ (by omega)) w
 refine s_ob hok (v := .int .u64 ((s.size : Nat) : Int)) rfl rfl (by decide) rfl (Ob_conv rfl rfl (hcv1 _)) ?_; clear hok a; intro a hok
 refine s_call hok fn_w3 (caps := #[]) rfl rfl rfl rfl rfl (by decide) rfl rfl (c_vput (s.size) _ (by omega)) ?_; clear hok a; intro r1 a w1 hr hok
 obtain ⟨rfl, hb⟩ := hr
 replace H := H.blw hb; clear hb
 refine h_call hok H (js := [(0, false)]) rfl (caps := #[]) fn_w2 rfl rfl rfl rfl rfl (by decide) rfl rfl (fun D1 h1 => c_wput (x) (vput s.size) _ h1 (WSt.fits_le hsz (by omega))) ?_; clear hok a; intro r1 a w1 D1 hr hback hok
 obtain ⟨rfl, I1, H1⟩ := hr
 replace H := hback H1; clear hback H1 D1
 dsimp only [List.eraseIdx, List.cons_append, List.nil_append] at H
 refine s_runk TBb hok 1 rfl rfl ?_; clear hok a; intro a hok
 rw [← WSt.put_p x (vput s.size)] at hok
 refine h_call hok H (js := [(0, false)]) rfl (caps := #[]) fn_w2 rfl rfl rfl rfl rfl (by decide) rfl rfl (fun D1 h1 => c_wput (x.put (vput s.size)) (s) _ h1 (WSt.fits_put hsz)) ?_; clear hok a; intro r1 a w1 D1 hr hback hok
 obtain ⟨rfl, I2, H1⟩ := hr
 replace H := hback H1; clear hback H1 D1
 dsimp only [List.eraseIdx, List.cons_append, List.nil_append] at H
 refine s_runk TBb hok 1 rfl rfl ?_; clear hok a; intro a hok
 refine s_end hok [4] rfl ?_; clear hok; intro hok
 refine p_then (wp_ret ?_)
 refine f_ret hok (run_results1 rfl hok rfl) ?_
 exact ⟨by rw [WSt.put_p], I2, H⟩

def WSt.flag (x : WSt) (f : Bool) : WSt := x.put (vput (if f then 1 else 0))

theorem vput_0 : vput 0 = ⟨#[0]⟩ := by decide

theorem vput_1 : vput 1 = ⟨#[1]⟩ := by decide

theorem c_wFlag {I D : Dm} (x : WSt) (f : Bool) (w : World) (H : St I D w [x.ch]) (hsz : x.fits 1) : Calls Try.prog 68 #[x.p, .bool f] w (Ret fun r w' => r = x.p ∧ ∃ I', Hf I D w I' w' [(x.flag f).ch]) := by
 replace H := H.hf
 refine f_enter 10 Try.func68 rfl rfl (Nat.le_of_ble_eq_true rfl) fun a hok => ?_
 replace hok := hok.sub (ts := [0, 1]) rfl
 refine wp_seq (f_region hok ?_); clear hok; intro hok
 refine s_runk TBb hok 1 rfl rfl ?_; clear hok a; intro a hok
 refine s_end hok [0, 1] rfl ?_; clear hok; intro hok
 refine p_then (wp_seq ?_)
 refine wp_seq (f_region hok ?_); clear hok; intro hok
 refine s_runk TBb hok 1 rfl rfl ?_; clear hok a; intro a hok
 refine s_end hok [0, 5] rfl ?_; clear hok; intro hok
 refine p_then ?_
 refine f_cond hok rfl (fun hc => ?_) (fun hc => ?_)
 ·subst hc
  refine wp_seq (f_region hok ?_); clear hok; intro hok
  refine s_runk TBb hok 1 rfl rfl ?_; clear hok a; intro a hok
  refine h_call hok H (js := [(0, false)]) rfl (caps := #[]) fn_w2 rfl rfl rfl rfl rfl (by decide) rfl rfl (fun D1 h1 => c_wput (x) (⟨#[1]⟩) _ h1 (hsz)) ?_; clear hok a; intro r1 a w1 D1 hr hback hok
  obtain ⟨rfl, I1, H1⟩ := hr
  replace H := hback H1; clear hback H1 D1
  dsimp only [List.eraseIdx, List.cons_append, List.nil_append] at H
  refine s_runk TBb hok 1 rfl rfl ?_; clear hok a; intro a hok
  refine s_end hok [4] rfl ?_; clear hok; intro hok
  refine p_then (wp_ret ?_)
  refine p_then_r ?_
  refine f_ret hok (run_results1 rfl hok rfl) ?_
  refine ⟨rfl, I1, ?_⟩
  rw [show x.flag true = x.put ⟨#[1]⟩ from by unfold WSt.flag; rw [if_pos rfl, vput_1]]; exact H
 ·subst hc
  refine wp_skip ?_
  refine p_then (wp_seq (f_region hok ?_)); clear hok; intro hok
  refine s_runk TBb hok 1 rfl rfl ?_; clear hok a; intro a hok
  refine h_call hok H (js := [(0, false)]) rfl (caps := #[]) fn_w2 rfl rfl rfl rfl rfl (by decide) rfl rfl (fun D1 h1 => c_wput (x) (⟨#[0]⟩) _ h1 (hsz)) ?_; clear hok a; intro r1 a w1 D1 hr hback hok
  obtain ⟨rfl, I1, H1⟩ := hr
  replace H := hback H1; clear hback H1 D1
  dsimp only [List.eraseIdx, List.cons_append, List.nil_append] at H
  refine s_runk TBb hok 1 rfl rfl ?_; clear hok a; intro a hok
  refine s_end hok [4] rfl ?_; clear hok; intro hok
  refine p_then (wp_ret ?_)
  refine f_ret hok (run_results1 rfl hok rfl) ?_
  refine ⟨rfl, I1, ?_⟩
  rw [show x.flag false = x.put ⟨#[0]⟩ from by unfold WSt.flag; rw [if_neg (by decide), vput_0]]; exact H

def WSt.num (x : WSt) (n : Int) : WSt := match x with | .live b t er => if er = 0 ∧ n < 0 then .live b t 5 else (WSt.live b t er).put (vput n.toNat) | y => y

theorem WSt.num_pos (x : WSt) {n : Int} (h : ¬ n < 0) : x.num n = x.put (vput n.toNat) := by
 cases x with
 | none => rfl
 | zero b => rfl
 | live b t er => exact if_neg fun e => h e.2

theorem WSt.num_off (x : WSt) (n : Int) (h : x.off = true) : x.num n = x.put (vput n.toNat) := by
 cases x with
 | none => rfl
 | zero b => rfl
 | live b t er => exact if_neg fun e => by rw [show (WSt.live b t er).off = (er != 0) from rfl, e.1] at h; cases h

theorem c_wNum {I D : Dm} (x : WSt) (n : Int) (w : World) (H : St I D w [x.ch]) (hn : i64ok n) (hsz : x.fits (vput n.toNat).size) : Calls Try.prog 14 #[x.p, .int .i64 n] w (Ret fun r w' => r = x.p ∧ ∃ I', Hf I D w I' w' [(x.num n).ch]) := by
 replace H := H.hf
 unfold i64ok at hn
 have hmx : max n 0 = ((n.toNat : Nat) : Int) := by omega
 refine f_enter 21 Try.func14 rfl rfl (Nat.le_of_ble_eq_true rfl) fun a hok => ?_
 replace hok := hok.sub (ts := [0, 1]) rfl
 refine wp_seq (f_region hok ?_); clear hok; intro hok
 refine s_runk TBb hok 1 rfl rfl ?_; clear hok a; intro a hok
 refine s_end hok [0, 1] rfl ?_; clear hok; intro hok
 refine p_then (wp_seq ?_)
 refine wp_seq (f_region hok ?_); clear hok; intro hok
 refine s_runk TBb hok 1 rfl rfl ?_; clear hok a; intro a hok
 refine s_ob hok (v := .bool (decide (n < 0))) rfl rfl (by decide) rfl (Ob_c TBb rfl) ?_; clear hok a; intro a hok
 by_cases h0 : n < 0
 ·rw [decide_eq_true h0] at hok
  refine s_runk TBb hok 1 rfl rfl ?_; clear hok a; intro a hok
  refine g_if hok rfl rfl rfl (p := true) rfl rfl (by decide) (fun _ => ?_) (fun h => by cases h)
  refine s_runk TBb hok 1 rfl rfl ?_; clear hok a; intro a hok
  refine g_if hok rfl rfl rfl (p := true) rfl rfl (by decide) (fun _ => ?_) (fun h => by cases h)
  refine h_call hok H (js := [(0, false)]) rfl (caps := #[]) fn_w1 rfl rfl rfl rfl rfl (by decide) rfl rfl (fun D1 h1 => c_woff x _ h1) ?_; clear hok a; intro r1 a w1 D1 hr hback hok
  obtain ⟨rfl, I1, H1⟩ := hr
  replace H := hback H1; clear hback H1 D1
  dsimp only [List.eraseIdx, List.cons_append, List.nil_append] at H
  refine g_if hok rfl rfl rfl (p := true) rfl rfl (by decide) (fun _ => ?_) (fun h => by cases h)
  refine s_runk TBb hok 1 rfl rfl ?_; clear hok a; intro a hok
  refine s_ob hok (v := .bool (!x.off)) rfl rfl (by decide) rfl (Ob_pick rfl rfl rfl rfl rfl) ?_; clear hok a; intro a hok
  refine s_end hok [0, 1, 11] rfl ?_; clear hok; intro hok
  refine p_then ?_
  refine f_cond hok rfl (fun hc => ?_) (fun hc => ?_)
  ·cases x with
   | none => cases hc
   | zero b => cases hc
   | live b t er =>
    have he : er = 0 := by simpa [WSt.off] using hc
    dsimp only [WSt.p] at hok
    obtain ⟨⟨p, v⟩, H⟩ := Hf.exC H 0 rfl
    dsimp only [List.eraseIdx, List.cons_append, List.nil_append] at H
    refine f_region hok ?_; clear hok; intro hok
    refine s_runk TBb hok 3 rfl rfl ?_; clear hok a; intro a hok
    refine h_store TBb hok H 0 (us := [.int .i64 5]) (cl' := [if p then .pointer (some ⟨b, 0, none⟩) else .pointer none, v, .int .i64 5, .bool true]) rfl rfl rfl rfl rfl rfl rfl rfl rfl (by simp only [List.mem_cons, List.not_mem_nil, or_false]; rintro u rfl <;> rfl) (Nat.le_of_ble_eq_true rfl) rfl ?_; clear H; intro w3 H
    dsimp only [List.eraseIdx] at H
    replace H : Hf I D w I1 w3 [(WSt.live b t 5).ch] := Hf.toEx (f := fun (p : Bool × Value) => [BxC b 76 [if p.1 then .pointer (some ⟨b, 0, none⟩) else .pointer none, p.2, .int .i64 5, .bool true], OrC 5 p.2 t]) (p, v) H
    refine s_end hok [0, 1] rfl ?_; clear hok; intro hok
    refine p_then (wp_seq (f_region hok ?_)); clear hok; intro hok
    refine s_runk TBb hok 2 rfl rfl ?_; clear hok a; intro a hok
    refine s_ob hok (v := .int .i64 (max n 0)) rfl rfl (by decide) rfl (Ob_c TBb rfl) ?_; clear hok a; intro a hok
    rw [hmx] at hok
    have hcv1 : ∀ w : World, (convert 3 22 (.int .i64 ((n.toNat : Nat) : Int))).run Try.prog w = .ok (.int .u64 ((n.toNat : Nat) : Int)) w := fun w => run_convi Try.underlying3 Try.underlying22 _ _ (IntWalk.u64_in _ (by omega)) w
    refine s_ob hok (v := .int .u64 ((n.toNat : Nat) : Int)) rfl rfl (by decide) rfl (Ob_conv rfl rfl (hcv1 _)) ?_; clear hok a; intro a hok
    refine s_call hok fn_w3 (caps := #[]) rfl rfl rfl rfl rfl (by decide) rfl rfl (c_vput (n.toNat) _ (by omega)) ?_; clear hok a; intro r1 a w1 hr hok
    obtain ⟨rfl, hb⟩ := hr
    replace H := H.blw hb; clear hb
    refine h_call hok H (js := [(0, false)]) rfl (caps := #[]) fn_w2 rfl rfl rfl rfl rfl (by decide) rfl rfl (fun D1 h1 => c_wput (.live b t 5) (vput n.toNat) _ h1 (fun e => by cases e)) ?_; clear hok a; intro r1 a w1 D1 hr hback hok
    obtain ⟨rfl, I2, H1⟩ := hr
    replace H := hback H1; clear hback H1 D1
    dsimp only [List.eraseIdx, List.cons_append, List.nil_append] at H
    refine s_runk TBb hok 1 rfl rfl ?_; clear hok a; intro a hok
    refine s_end hok [4] rfl ?_; clear hok; intro hok
    refine p_then (wp_ret ?_)
    refine f_ret hok (run_results1 rfl hok rfl) ?_
    refine ⟨rfl, I2, ?_⟩
    rw [show (WSt.live b t er).num n = .live b t 5 from if_pos ⟨he, h0⟩]
    exact H
  ·refine wp_skip ?_
   refine p_then (wp_seq (f_region hok ?_)); clear hok; intro hok
   refine s_runk TBb hok 2 rfl rfl ?_; clear hok a; intro a hok
   refine s_ob hok (v := .int .i64 (max n 0)) rfl rfl (by decide) rfl (Ob_c TBb rfl) ?_; clear hok a; intro a hok
   rw [hmx] at hok
   have hcv1 : ∀ w : World, (convert 3 22 (.int .i64 ((n.toNat : Nat) : Int))).run Try.prog w = .ok (.int .u64 ((n.toNat : Nat) : Int)) w := fun w => run_convi Try.underlying3 Try.underlying22 _ _ (IntWalk.u64_in _ (by omega)) w
   refine s_ob hok (v := .int .u64 ((n.toNat : Nat) : Int)) rfl rfl (by decide) rfl (Ob_conv rfl rfl (hcv1 _)) ?_; clear hok a; intro a hok
   refine s_call hok fn_w3 (caps := #[]) rfl rfl rfl rfl rfl (by decide) rfl rfl (c_vput (n.toNat) _ (by omega)) ?_; clear hok a; intro r1 a w1 hr hok
   obtain ⟨rfl, hb⟩ := hr
   replace H := H.blw hb; clear hb
   refine h_call hok H (js := [(0, false)]) rfl (caps := #[]) fn_w2 rfl rfl rfl rfl rfl (by decide) rfl rfl (fun D1 h1 => c_wput (x) (vput n.toNat) _ h1 (hsz)) ?_; clear hok a; intro r1 a w1 D1 hr hback hok
   obtain ⟨rfl, I2, H1⟩ := hr
   replace H := hback H1; clear hback H1 D1
   dsimp only [List.eraseIdx, List.cons_append, List.nil_append] at H
   refine s_runk TBb hok 1 rfl rfl ?_; clear hok a; intro a hok
   refine s_end hok [4] rfl ?_; clear hok; intro hok
   refine p_then (wp_ret ?_)
   refine f_ret hok (run_results1 rfl hok rfl) ?_
   refine ⟨rfl, I2, ?_⟩
   rw [WSt.num_off x n (by simpa using hc)]
   exact H
 ·rw [decide_eq_false h0] at hok
  refine s_runk TBb hok 1 rfl rfl ?_; clear hok a; intro a hok
  refine g_if hok rfl rfl rfl (p := false) rfl rfl (by decide) (fun h => by cases h) (fun _ => ?_); clear hok a; intro a hok
  refine g_if hok rfl rfl rfl (p := false) rfl rfl (by decide) (fun h => by cases h) (fun _ => ?_); clear hok a; intro a hok
  refine g_if hok rfl rfl rfl (p := false) rfl rfl (by decide) (fun h => by cases h) (fun _ => ?_); clear hok a; intro a hok
  refine s_ob hok (v := .bool false) rfl rfl (by decide) rfl (Ob_pick rfl rfl rfl rfl rfl) ?_; clear hok a; intro a hok
  refine s_end hok [0, 1, 11] rfl ?_; clear hok; intro hok
  refine p_then ?_
  refine f_cond hok rfl (fun h => by cases h) (fun _ => ?_)
  refine wp_skip ?_
  refine p_then (wp_seq (f_region hok ?_)); clear hok; intro hok
  refine s_runk TBb hok 2 rfl rfl ?_; clear hok a; intro a hok
  refine s_ob hok (v := .int .i64 (max n 0)) rfl rfl (by decide) rfl (Ob_c TBb rfl) ?_; clear hok a; intro a hok
  rw [hmx] at hok
  have hcv1 : ∀ w : World, (convert 3 22 (.int .i64 ((n.toNat : Nat) : Int))).run Try.prog w = .ok (.int .u64 ((n.toNat : Nat) : Int)) w := fun w => run_convi Try.underlying3 Try.underlying22 _ _ (IntWalk.u64_in _ (by omega)) w
  refine s_ob hok (v := .int .u64 ((n.toNat : Nat) : Int)) rfl rfl (by decide) rfl (Ob_conv rfl rfl (hcv1 _)) ?_; clear hok a; intro a hok
  refine s_call hok fn_w3 (caps := #[]) rfl rfl rfl rfl rfl (by decide) rfl rfl (c_vput (n.toNat) _ (by omega)) ?_; clear hok a; intro r1 a w1 hr hok
  obtain ⟨rfl, hb⟩ := hr
  replace H := H.blw hb; clear hb
  refine h_call hok H (js := [(0, false)]) rfl (caps := #[]) fn_w2 rfl rfl rfl rfl rfl (by decide) rfl rfl (fun D1 h1 => c_wput (x) (vput n.toNat) _ h1 (hsz)) ?_; clear hok a; intro r1 a w1 D1 hr hback hok
  obtain ⟨rfl, I2, H1⟩ := hr
  replace H := hback H1; clear hback H1 D1
  dsimp only [List.eraseIdx, List.cons_append, List.nil_append] at H
  refine s_runk TBb hok 1 rfl rfl ?_; clear hok a; intro a hok
  refine s_end hok [4] rfl ?_; clear hok; intro hok
  refine p_then (wp_ret ?_)
  refine f_ret hok (run_results1 rfl hok rfl) ?_
  refine ⟨rfl, I2, ?_⟩
  rw [WSt.num_pos x h0]
  exact H

theorem c_wNew {I D : Dm} (w : World) (H : St I D w []) : Calls Try.prog 13 #[] w (Ret fun r w' => ∃ b, r = .pointer (some ⟨b, 0, none⟩) ∧ ∃ I', Hf I D w I' w' [(WSt.live b ByteArray.empty 0).ch]) := by
 replace H := H.hf
 refine f_enter 3 Try.func13 rfl rfl (Nat.le_of_ble_eq_true rfl) fun a hok => ?_
 replace hok := hok.sub (ts := []) rfl
 refine wp_seq (f_region hok ?_); clear hok; intro hok
 refine s_runk TBb hok 1 rfl rfl ?_; clear hok a; intro a hok
 refine s_end hok [] rfl ?_; clear hok; intro hok
 refine p_then (wp_seq (f_region hok ?_)); clear hok; intro hok
 refine s_ob hok (v := .agg #[.pointer none, .slice none 0 0, .int .i64 0, .bool true]) rfl rfl (by decide) rfl (Ob_build (vs := [(2, .bool true)]) rfl rfl (by go_simp <;> rfl)) ?_; clear hok a; intro a hok
 refine h_boxv hok H (cl := [.pointer none, .slice none 0 0, .int .i64 0, .bool true]) rfl rfl rfl (by decide) rfl rfl rfl ?_; clear hok a H; intro a w1 b1 H hok
 refine s_runk TBb hok 1 rfl rfl ?_; clear hok a; intro a hok
 refine s_end hok [0] rfl ?_; clear hok; intro hok
 refine p_then (wp_ret ?_)
 refine f_ret hok (run_results1 rfl hok rfl) ?_
 exact ⟨b1, rfl, I, H.newwr 0 rfl⟩

def WSt.text? : WSt → ByteArray | .live _ t er => if er = 0 then t else ByteArray.empty | _ => ByteArray.empty

def WSt.err : WSt → Int | .live _ _ er => er | _ => 8

theorem c_wDone {I D : Dm} (x : WSt) (w : World) (H : St I D w [x.ch]) : Calls Try.prog 16 #[x.p] w (Ret fun r w' => r = .tuple #[.string x.text?, .int .i64 x.err] ∧ ∃ I', Hf I D w I' w' []) := by
 replace H := H.hf
 refine f_enter 28 Try.func16 rfl rfl (Nat.le_of_ble_eq_true rfl) fun a hok => ?_
 replace hok := hok.sub (ts := [0]) rfl
 refine wp_seq (f_region hok ?_); clear hok; intro hok
 refine s_runk TBb hok 2 rfl rfl ?_; clear hok a; intro a hok
 refine s_end hok [0, 2, 3] rfl ?_; clear hok; intro hok
 refine p_then (wp_seq ?_)
 refine wp_block ?_
 refine wp_seq ?_
 cases x with
 | none =>
  dsimp only [WSt.p] at hok
  refine f_region hok ?_; clear hok; intro hok
  refine s_runk TBb hok 1 rfl rfl ?_; clear hok a; intro a hok
  refine s_ob hok (v := .bool true) rfl rfl (by decide) rfl (Ob_pn (p := none) (q := none) (op := .eql) (c := true) rfl rfl rfl rfl Try.underlying48 (.inl ⟨rfl, rfl⟩)) ?_; clear hok a; intro a hok
  refine s_runk TBb hok 1 rfl rfl ?_; clear hok a; intro a hok
  refine g_if hok rfl rfl rfl (p := false) rfl rfl (by decide) (fun h => by cases h) (fun _ => ?_); clear hok a; intro a hok
  refine g_if hok rfl rfl rfl (p := false) rfl rfl (by decide) (fun h => by cases h) (fun _ => ?_); clear hok a; intro a hok
  refine g_if hok rfl rfl rfl (p := false) rfl rfl (by decide) (fun h => by cases h) (fun _ => ?_); clear hok a; intro a hok
  refine g_if hok rfl rfl rfl (p := false) rfl rfl (by decide) (fun h => by cases h) (fun _ => ?_); clear hok a; intro a hok
  refine g_if hok rfl rfl rfl (p := false) rfl rfl (by decide) (fun h => by cases h) (fun _ => ?_); clear hok a; intro a hok
  refine s_ob hok (v := .bool true) rfl rfl (by decide) rfl (Ob_pick rfl rfl rfl rfl rfl) ?_; clear hok a; intro a hok
  refine s_runk TBb hok 1 rfl rfl ?_; clear hok a; intro a hok
  refine s_end hok [0, 2, 3, 4] rfl ?_; clear hok; intro hok
  refine p_then ?_
  refine f_cond hok rfl (fun _ => ?_) (fun h => by cases h)
  refine wp_seq (f_region hok ?_); clear hok; intro hok
  refine s_runk TBb hok 2 rfl rfl ?_; clear hok a; intro a hok
  refine s_end hok [2, 3] rfl ?_; clear hok; intro hok
  refine p_then (wp_ret ?_)
  refine p_blk_r ?_
  refine p_then_r ?_
  refine f_ret hok (run_results2 rfl hok rfl rfl) ?_
  exact ⟨rfl, I, H.tail⟩
 | zero b =>
  dsimp only [WSt.p] at hok
  have H := H; unfold WSt.ch at H
  refine f_region hok ?_; clear hok; intro hok
  refine s_runk TBb hok 1 rfl rfl ?_; clear hok a; intro a hok
  refine s_ob hok (v := .bool false) rfl rfl (by decide) rfl (Ob_pn (p := some ⟨b, 0, none⟩) (q := none) (op := .eql) (c := false) rfl rfl rfl rfl Try.underlying48 (.inl ⟨rfl, rfl⟩)) ?_; clear hok a; intro a hok
  refine s_runk TBb hok 1 rfl rfl ?_; clear hok a; intro a hok
  refine g_if hok rfl rfl rfl (p := true) rfl rfl (by decide) (fun _ => ?_) (fun h => by cases h)
  refine s_runk TBb hok 1 rfl rfl ?_; clear hok a; intro a hok
  refine g_if hok rfl rfl rfl (p := true) rfl rfl (by decide) (fun _ => ?_) (fun h => by cases h)
  refine s_runk TBb hok 1 rfl rfl ?_; clear hok a; intro a hok
  refine g_if hok rfl rfl rfl (p := true) rfl rfl (by decide) (fun _ => ?_) (fun h => by cases h)
  refine s_runk TBb hok 1 rfl rfl ?_; clear hok a; intro a hok
  refine g_if hok rfl rfl rfl (p := true) rfl rfl (by decide) (fun _ => ?_) (fun h => by cases h)
  refine s_ob hok (v := .bool false) rfl rfl (by decide) rfl (Ob_load TBb rfl rfl rfl ((H.bx 0 rfl).cell 3 rfl)) ?_; clear hok a; intro a hok
  refine g_if hok rfl rfl rfl (p := true) rfl rfl (by decide) (fun _ => ?_) (fun h => by cases h)
  refine s_runk TBb hok 1 rfl rfl ?_; clear hok a; intro a hok
  refine s_ob hok (v := .bool true) rfl rfl (by decide) rfl (Ob_pick rfl rfl rfl rfl rfl) ?_; clear hok a; intro a hok
  refine s_runk TBb hok 1 rfl rfl ?_; clear hok a; intro a hok
  refine s_end hok [0, 2, 3, 4] rfl ?_; clear hok; intro hok
  refine p_then ?_
  refine f_cond hok rfl (fun _ => ?_) (fun h => by cases h)
  refine wp_seq (f_region hok ?_); clear hok; intro hok
  refine s_runk TBb hok 2 rfl rfl ?_; clear hok a; intro a hok
  refine s_end hok [2, 3] rfl ?_; clear hok; intro hok
  refine p_then (wp_ret ?_)
  refine p_blk_r ?_
  refine p_then_r ?_
  refine f_ret hok (run_results2 rfl hok rfl rfl) ?_
  exact ⟨rfl, I, H.tail⟩
 | live b t er =>
  dsimp only [WSt.p] at hok
  obtain ⟨⟨p, v⟩, H⟩ := Hf.exC H 0 rfl
  dsimp only [List.eraseIdx, List.cons_append, List.nil_append] at H
  refine f_region hok ?_; clear hok; intro hok
  refine s_runk TBb hok 1 rfl rfl ?_; clear hok a; intro a hok
  refine s_ob hok (v := .bool false) rfl rfl (by decide) rfl (Ob_pn (p := some ⟨b, 0, none⟩) (q := none) (op := .eql) (c := false) rfl rfl rfl rfl Try.underlying48 (.inl ⟨rfl, rfl⟩)) ?_; clear hok a; intro a hok
  refine s_runk TBb hok 1 rfl rfl ?_; clear hok a; intro a hok
  refine g_if hok rfl rfl rfl (p := true) rfl rfl (by decide) (fun _ => ?_) (fun h => by cases h)
  refine s_runk TBb hok 1 rfl rfl ?_; clear hok a; intro a hok
  refine g_if hok rfl rfl rfl (p := true) rfl rfl (by decide) (fun _ => ?_) (fun h => by cases h)
  refine s_runk TBb hok 1 rfl rfl ?_; clear hok a; intro a hok
  refine g_if hok rfl rfl rfl (p := true) rfl rfl (by decide) (fun _ => ?_) (fun h => by cases h)
  refine s_runk TBb hok 1 rfl rfl ?_; clear hok a; intro a hok
  refine g_if hok rfl rfl rfl (p := true) rfl rfl (by decide) (fun _ => ?_) (fun h => by cases h)
  refine s_ob hok (v := .bool true) rfl rfl (by decide) rfl (Ob_load TBb rfl rfl rfl ((H.bx 0 rfl).cell 3 rfl)) ?_; clear hok a; intro a hok
  refine g_if hok rfl rfl rfl (p := true) rfl rfl (by decide) (fun _ => ?_) (fun h => by cases h)
  refine s_runk TBb hok 1 rfl rfl ?_; clear hok a; intro a hok
  refine s_ob hok (v := .bool false) rfl rfl (by decide) rfl (Ob_pick rfl rfl rfl rfl rfl) ?_; clear hok a; intro a hok
  refine s_runk TBb hok 1 rfl rfl ?_; clear hok a; intro a hok
  refine s_end hok [0, 2, 3, 4] rfl ?_; clear hok; intro hok
  refine p_then ?_
  refine f_cond hok rfl (fun h => by cases h) (fun _ => ?_)
  refine wp_seq (f_region hok ?_); clear hok; intro hok
  refine s_runk TBb hok 3 rfl rfl ?_; clear hok a; intro a hok
  refine s_ob hok (v := .int .i64 er) rfl rfl (by decide) rfl (Ob_load TBb rfl rfl rfl ((H.bx 0 rfl).cell 2 rfl)) ?_; clear hok a; intro a hok
  refine s_ob hok (v := .bool (er != 0)) rfl rfl (by decide) rfl (Ob_c TBb rfl) ?_; clear hok a; intro a hok
  refine s_runk TBb hok 1 rfl rfl ?_; clear hok a; intro a hok
  refine s_end hok [0, 2, 3, 14] rfl ?_; clear hok; intro hok
  refine p_then ?_
  refine f_cond hok rfl (fun hc => ?_) (fun hc => ?_)
  ·have he : er ≠ 0 := by simpa using hc
   refine wp_seq ?_
   refine f_quietd (by kernel_rfl) (by kernel_rfl) hok ?_; clear hok; intro hok
   refine q_runk TBb hok 3 rfl rfl ?_; clear hok a; intro a hok
   refine q_ob hok (v := .int .i64 er) rfl rfl (by decide) rfl (fun _ hw => Ob_load TBb rfl rfl rfl (((H.bx 0 rfl).below hw).cell 2 rfl)) ?_; clear hok a; intro a hok
   refine q_runk TBb hok 2 rfl rfl ?_; clear hok a; intro a hok
   refine q_end hok [2, 3] rfl ?_; clear hok; intro w1 hb hok
   replace H := H.blw hb; clear hb
   refine p_then (wp_ret ?_)
   refine p_blk_r ?_
   refine p_then_r ?_
   refine f_ret hok (run_results2 rfl hok rfl rfl) ?_
   exact ⟨by rw [show (WSt.live b t er).text? = ByteArray.empty from if_neg he]; rfl, I, H.tail.tail⟩
  ·have he : er = 0 := by simpa using hc
   subst he
   refine wp_skip ?_
   refine p_blk ?_
   refine p_then ?_
   replace H : Hf I D w I _ [WrP b t 0] := Hf.toEx (f := fun (p : Bool × Value) => [BxC b 76 [if p.1 then .pointer (some ⟨b, 0, none⟩) else .pointer none, p.2, .int .i64 0, .bool true], OrC 5 p.2 t]) (p, v) H
   refine wp_seq (f_region hok ?_); clear hok; intro hok
   refine s_runk TBb hok 3 rfl rfl ?_; clear hok a; intro a hok
   refine h_call hok H (js := [(0, false)]) rfl (caps := #[]) fn_b3 rfl rfl rfl rfl rfl (by decide) rfl rfl (fun D1 h1 => c_String b t 0 _ h1) ?_; clear hok a; intro r1 a w1 D1 hr hback hok
   obtain ⟨rfl, I1, H1⟩ := hr
   replace H := hback H1; clear hback H1 D1
   dsimp only [List.eraseIdx, List.cons_append, List.nil_append] at H
   refine s_runk TBb hok 2 rfl rfl ?_; clear hok a; intro a hok
   refine s_end hok [2, 3] rfl ?_; clear hok; intro hok
   refine p_then (wp_ret ?_)
   refine f_ret hok (run_results2 rfl hok rfl rfl) ?_
   exact ⟨rfl, I1, H⟩

end Go.Proofs.Ythmjkcdpbbcdgaa
