import Derived.Test.YtlalbmgopbcplaaNum
import Derived.Lib.AppendStr
import Derived.Laws.BytesArg
namespace Go.Proofs.Ytlalbmgopbcplaa
open Go.RowKit Go.Lib
/-- A text's bytes. -/
def nb (s : ByteArray) : List Nat := s.data.toList.map UInt8.toNat
theorem nb_length (s : ByteArray) : (nb s).length = s.size := by
  show (s.data.toList.map UInt8.toNat).length = s.data.size
  rw [List.length_map, Array.length_toList]
theorem nb_append (s t : ByteArray) : nb (s ++ t) = nb s ++ nb t := by
  show (s ++ t).data.toList.map UInt8.toNat = _
  rw [ByteArray.data_append, Array.toList_append, List.map_append]; rfl
theorem u8s_nb (s : ByteArray) : u8s (nb s) = strCells s := by simp [u8s, nb, strCells]
theorem nb_inj {s t : ByteArray} (h : nb s = nb t) : s = t := by
  have h1 : s.data.toList = t.data.toList := List.map_inj_right (fun a b hab => UInt8.toNat_inj.1 hab) |>.1 h
  have h2 : s.data = t.data := Array.ext' h1
  cases s; cases t; simp_all
theorem num_length (n : Nat) : 0 < (num n).length := by simp [num]
variable {w w' : World} {base : Nat} {F : Nat → Prop} {g : Nat} {bs : List Nat}
theorem strOfNums_nb (s : ByteArray) : strOfNums ((nb s).map fun (x : Nat) => (x : Int)) = s := by
  apply nb_inj
  simp only [nb, strOfNums_data, List.map_map]
  apply List.map_congr_left
  intro a _
  show (UInt8.ofNat (Int.toNat (a.toNat : Int))).toNat = a.toNat
  simp
theorem text_conv {v : Value} {s : ByteArray} (h : WrAt w base F g v (nb s)) : (convert 47 9 v).run Try.prog w = .ok (.string s) w := by
  obtain ⟨A, c, rfl, hc⟩ := own_slice h.row
  rcases h.row.2 with ⟨hv, h0⟩ | ⟨g', cap, cur, hv, r⟩
  · injection hv with hA hn hcap
    subst hA
    rw [run_convert_bytes_nil w 47 5 Try.underlying47 Try.underlying5 _ _ 9 Try.underlying9]
    have : s.size = 0 := by rw [← nb_length]; exact h0
    have : s = ByteArray.empty := by
      apply nb_inj; rw [List.eq_nil_of_length_eq_zero (l := nb s) (by rw [nb_length]; exact this)]; rfl
    rw [this]
  · injection hv with hA hn hcap
    subst hA
    rw [run_convert_bytes_arg w 47 5 Try.underlying47 Try.underlying5 g' 0 _ c ((nb s).map fun (x : Nat) => (x : Int)) (by simp) (fun i hi => by
      rw [Nat.zero_add]
      have he := own_elem (cap := c) h.row i (u := .int .u8 (((nb s).map fun (x : Nat) => (x : Int)).getD i 0)) (by
        simp [u8s, List.getD, List.getElem?_eq_getElem hi])
      exact he) 9 Try.underlying9, strOfNums_nb]
theorem wtext_any (s : ByteArray) (w : World) (h : WrIs w base F g (nb s)) : Calls Try.prog 20 #[.pointer (some ⟨g, 0, none⟩)] w fun e w' => e = .returned (.string s) ∧ w' = w := by
  obtain ⟨v, hv⟩ := h
  have HV := Lib.hid hv
  have hc := text_conv hv
  have c0 := blk_cell HV.out.hd 0
  have c0f := blk_frozen HV.out.hd 0
  simp at c0
  clear hv
  go_enter Try.func20, Try.ntmps20
  go_wp2_with fail
  go_ret
  exact ⟨rfl, rfl⟩
end Go.Proofs.Ytlalbmgopbcplaa
