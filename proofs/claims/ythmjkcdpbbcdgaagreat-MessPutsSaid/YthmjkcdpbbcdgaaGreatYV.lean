/- Numbers, texts and flags there and back: what is written is read so, what is read is written so. No program is named here. -/
import Derived.Test.YthmjkcdpbbcdgaaGreatWire1
import Derived.Test.YthmjkcdpbbcdgaaGreatYP
namespace Go.Proofs.YthmjkcdpbbcdgaaGreat

/-- a text's bytes -/
def bL (s : ByteArray) : List Nat := s.data.toList.map UInt8.toNat

theorem bL_len (s : ByteArray) : (bL s).length = s.size := by rw [bL, List.length_map, Array.length_toList]; rfl

theorem bL_lt (s : ByteArray) : ∀ b ∈ bL s, b < 256 := fun b h => by
 obtain ⟨u, _, rfl⟩ := List.mem_map.1 h
 exact UInt8.toNat_lt _

theorem bL_inj {s t : ByteArray} (h : bL s = bL t) : s = t := by
 unfold bL at h
 have h2 : s.data.toList = t.data.toList := by
  refine List.map_inj_right (f := UInt8.toNat) (fun a b hab => ?_) |>.1 h
  exact UInt8.toNat_inj.1 hab
 cases s; cases t
 simp only at h2
 congr 1
 exact Array.toList_inj.1 h2

theorem bL_app (s t : ByteArray) : bL (s ++ t) = bL s ++ bL t := by simp [bL, ByteArray.data_append, Array.toList_append]

theorem bL_strB {l : List Nat} (h : ∀ b ∈ l, b < 256) : bL (strB l) = l := by
 unfold bL strB
 simp only [List.map_map]
 conv => rhs; rw [← List.map_id l]
 refine List.map_congr_left fun b hb => ?_
 show (UInt8.ofNat b).toNat = b
 rw [UInt8.toNat_ofNat']; exact Nat.mod_eq_of_lt (h b hb)

theorem beL_lt (n : Nat) : ∀ k, ∀ b ∈ beL n k, b < 256
 | 0, b, h => by cases h
 | k + 1, b, h => by
  rcases List.mem_cons.1 h with rfl | h
  ·unfold bytK; exact Nat.mod_lt _ (by decide)
  ·exact beL_lt n k b h

theorem vputL_lt (n : Nat) : ∀ b ∈ vputL n, b < 256 := by
 unfold vputL
 have := needsN_le n
 split
 ·intro b hb; simp at hb; omega
 ·intro b hb
  rcases List.mem_cons.1 hb with rfl | hb
  ·omega
  ·exact beL_lt _ _ b hb

theorem bL_vput (n : Nat) : bL (vput n) = vputL n := bL_strB (vputL_lt n)

-- an error stays
/-- a writer without an error, and what it wrote -/
def Wt (w : DWriterR) (l : List Nat) : Prop := w.e = 0 ∧ bL w.s = l

theorem Wt.put {w : DWriterR} {l : List Nat} (h : Wt w l) (t : ByteArray) : Wt (wPut w t) (l ++ bL t) := by
 rw [wPut_yes h.1]; exact ⟨h.1, by rw [bL_app, h.2]⟩

theorem Wt.num {w : DWriterR} {l : List Nat} (h : Wt w l) (n : Nat) : Wt (wNum w n) (l ++ vputL n) := by
 unfold wNum; rw [if_neg (by omega)]
 have := h.put (vput n); rw [bL_vput] at this; exact this

theorem Wt.num' {w : DWriterR} {l : List Nat} (h : Wt w l) {z : Int} (hz : 0 ≤ z) : Wt (wNum w z) (l ++ vputL z.toNat) := by
 obtain ⟨n, rfl⟩ := Int.eq_ofNat_of_zero_le hz
 exact h.num n

theorem Wt.text {w : DWriterR} {l : List Nat} (h : Wt w l) (t : ByteArray) : Wt (wText w t) (l ++ (vputL t.size ++ bL t)) := by
 have := h.put (vput t.size ++ t); rw [bL_app, bL_vput] at this; exact this

theorem Wt.flag {w : DWriterR} {l : List Nat} (h : Wt w l) (b : Bool) : Wt (wFlag w b) (l ++ [if b then 1 else 0]) := by
 have := h.put (vput (if b then 1 else 0)); rw [bL_vput] at this
 cases b <;> exact this

theorem Wt.done {w : DWriterR} {l : List Nat} (h : Wt w l) : bL (wDone w) = l := by unfold wDone; rw [if_pos h.1]; exact h.2

theorem Wt.size {w : DWriterR} {l : List Nat} (h : Wt w l) : w.s.size = l.length := by rw [← h.2, bL_len]

theorem vputL_len (n : Nat) : (vputL n).length ≤ 9 := by have := vput_le n; rw [← bL_len, bL_vput] at this; exact this

end Go.Proofs.YthmjkcdpbbcdgaaGreat
