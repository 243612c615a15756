/- Stores into elements of owned slices. No program is named here. -/
import Derived.Test.YthomnhhjgcabkaaYR
import Derived.Test.YthomnhhjgcabkaaW1
namespace Go.Proofs.Ythomnhhjgcabkaa
open Go.RowKit
section
variable {ds : List Deferred} {P : Program} (T : Tab P) {ops : Array Oper} {Q : Exit → Act → World → Prop} {a : Act} {w : World} {rest : List Oper} {o : Oper} {n : Nat} {S : Slots} {G : List GV}
variable {I0 D : Dm} {w0 : World} {I : Dm} {cs : List Ch}
end
/-- the text that a literal of bytes comes to -/
def strI (l : List Int) : ByteArray := ⟨(l.map fun x => UInt8.ofNat x.toNat).toArray⟩

theorem strI_fold : ∀ (l : List Int) (s : ByteArray), (l.foldl (fun r n => r.push (UInt8.ofNat n.toNat)) s) = ⟨s.data ++ (l.map fun x => UInt8.ofNat x.toNat).toArray⟩
 | [], s => by simp
 | x :: l, s => by
  rw [List.foldl_cons, strI_fold l]
  simp [ByteArray.push]

theorem run_b2lit {P : Program} {w : World} {src dst e : Nat} {b t cap : Nat} (l : List Int) (hs : P.underlying src = some (.slice e)) (he : P.underlying e = some (.int .u8)) (hd : P.underlying dst = some .string) (hB : Box w b t (l.map (Value.int .u8))) : (convert src dst (.slice (some ⟨b, 0, none⟩) l.length cap)).run P w = .ok (.string (strI l)) w := by
 rw [run_convert_bytes_string w src dst e _ l.length cap hs he hd]
 have hl : (loadCells ⟨b, 0, none⟩ l.length).run P w = .ok (l.map (Value.int .u8)).toArray w := by
  have := run_loadCells_list (P := P) w ⟨b, 0, none⟩ (l.map (Value.int .u8)) (fun j v hj => by
   have := hB.cell j hj
   rw [addr_add]; simpa using this)
  rw [List.length_map] at this
  exact this
 rw [run_bytesToString w _ _ _ _ hl, strI_fold]
 simp [strI]

end Go.Proofs.Ythomnhhjgcabkaa
