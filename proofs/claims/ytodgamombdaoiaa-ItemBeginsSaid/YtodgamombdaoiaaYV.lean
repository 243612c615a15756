/- Numbers, texts and flags there and back: what is written is read so, what is read is written so. No program is named here. -/
import Derived.Test.YtodgamombdaoiaaWire1
import Derived.Test.YtodgamombdaoiaaYP
namespace Go.Proofs.Ytodgamombdaoiaa

/-- a text's bytes -/
def bL (s : ByteArray) : List Nat := s.data.toList.map UInt8.toNat

theorem bL_len (s : ByteArray) : (bL s).length = s.size := by rw [bL, List.length_map, Array.length_toList]; rfl

theorem bL_inj {s t : ByteArray} (h : bL s = bL t) : s = t := by
 unfold bL at h
 have h2 : s.data.toList = t.data.toList := by
  refine List.map_inj_right (f := UInt8.toNat) (fun a b hab => ?_) |>.1 h
  exact UInt8.toNat_inj.1 hab
 cases s; cases t
 simp only at h2
 congr 1
 exact Array.toList_inj.1 h2

theorem bL_strB {l : List Nat} (h : ∀ b ∈ l, b < 256) : bL (strB l) = l := by
 unfold bL strB
 simp only [List.map_map]
 conv => rhs; rw [← List.map_id l]
 refine List.map_congr_left fun b hb => ?_
 show (UInt8.ofNat b).toNat = b
 rw [UInt8.toNat_ofNat']; exact Nat.mod_eq_of_lt (h b hb)

-- an error stays
end Go.Proofs.Ytodgamombdaoiaa
