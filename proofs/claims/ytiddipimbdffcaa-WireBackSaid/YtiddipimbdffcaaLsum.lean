/- The law's own Sum: of a text its bytes, and zeros. -/
import Derived.Test.YtiddipimbdffcaaPut
import Derived.Deep.MidRow
import Derived.Deep.WholeRow
import Derived.Laws.CopyOwn
namespace Go.Proofs.Ytiddipimbdffcaa
open Go.RowKit Go.Lib
/-- 32 bytes as a value. -/
def arrV (cs : List Nat) : Value := .agg (u8s cs).toArray
/-- A text's first 32 bytes, and zeros. -/
def sum32 (s : ByteArray) : List Nat := (nb s).take 32 ++ List.replicate (32 - min s.size 32) 0
theorem u8s_length (cs : List Nat) : (u8s cs).length = cs.length := by simp [u8s]
theorem sum32_length (s : ByteArray) : (sum32 s).length = 32 := by simp [sum32, nb_length]; omega
def Z32 : Array Value := #[.int .u8 0, .int .u8 0, .int .u8 0, .int .u8 0, .int .u8 0, .int .u8 0, .int .u8 0, .int .u8 0, .int .u8 0, .int .u8 0, .int .u8 0, .int .u8 0, .int .u8 0, .int .u8 0, .int .u8 0, .int .u8 0, .int .u8 0, .int .u8 0, .int .u8 0, .int .u8 0, .int .u8 0, .int .u8 0, .int .u8 0, .int .u8 0, .int .u8 0, .int .u8 0, .int .u8 0, .int .u8 0, .int .u8 0, .int .u8 0, .int .u8 0, .int .u8 0]
theorem Z32_eq : Z32.toList = u8s (List.replicate 32 0) := by rfl
theorem Z32_size : Z32.size = 32 := rfl
theorem Try.info33 : (Try.prog.info? 33).map (·.size) = some 32 := by kernel_rfl
theorem run_copy_str (w : World) (g : Nat) (cur : Array Value) (hg : w.heap[g]? = some (.cells cur 33 (0, 0))) (hcs : cur.size = 32) (s : ByteArray) :
    (Builtin.copy_ #[35, 9] 3 #[.slice (some ⟨g, 0, none⟩) 32 32, .string s]).run Try.prog w = .ok (goInt (min (s.size : Int) 32)) (w.setRow g ((u8s (nb s)).take 32 ++ cur.toList.drop (min s.size 32)).toArray) := by
  have hlen : ((u8s (nb s)).take 32).length = min s.size 32 := by rw [List.length_take, u8s_length, nb_length, Nat.min_comm]
  have hst := run_storeCells_at Try.prog g 0 33 ((u8s (nb s)).take 32) 0 cur w hg (by rw [hlen]; omega) (by
    intro u hu
    have hu := List.mem_of_mem_take hu
    simp [u8s] at hu
    obtain ⟨x, _, rfl⟩ := hu
    rfl)
  have hmin : Nat.min s.size 32 = min s.size 32 := rfl
  have htk : List.take (min s.size 32) (List.map (fun b : UInt8 => Value.int IntKind.u8 (b.toNat : Int)) s.data.toList) = (u8s (nb s)).take 32 := by
    rw [u8s_nb]
    show List.take _ (strCells s) = List.take 32 (strCells s)
    rw [List.take_eq_take_iff, strCells_length]; omega
  rw [hlen] at hst
  simp only [Nat.add_zero, Nat.zero_add, List.take_zero, List.nil_append] at hst
  obtain ⟨i5, hi5, hz5, hs5, hb5⟩ := info_parts Try.info5
  simp [Builtin.copy_, run_underlying Try.underlying35, Builtin.lenOf, Builtin.firstCells, sizeOf, typeInfo, hi5, hs5, hmin]
  rw [htk, hst]
  simp [Result.andThen]
  congr 1
  omega
/-- A whole array goes into a block of its size. -/
theorem run_storeAt33 (w : World) (g : Nat) (cur V : Array Value) (hg : w.heap[g]? = some (.cells cur 33 (0, 0))) (hc : cur.size = 32) (hV : V.size = 32) (h1 : ∀ v ∈ V.toList, v.oneCell' = true) :
    (Instr.storeAt 33 (.pointer (some ⟨g, 0, none⟩)) (.agg V)).run Try.prog w = .ok () (w.setRow g V) := by
  have hst := run_storeCells_from (P := Try.prog) g 33 V.toList 0 cur w hg (by simp; omega) h1
  simp only [List.take_zero, List.nil_append, Array.toArray_toList] at hst
  have hi := Try.info33
  cases hq : Try.prog.info? 33 with
  | none => simp [hq] at hi
  | some i =>
    have hs : V.size = i.size := by simp [hq] at hi; omega
    simp [Instr.storeAt, Instr.sureAddr, storeVar, sizeOf, typeInfo, hq, Value.cells, hs, hst]
theorem results_c {P : Program} {fn : Func} {p : Tmp} {ty : TypeId} (h : fn.results = #[.cell p ty]) (tmps : Array Value) (w : World) (g : Nat) (t : TypeId) (cs : Array Value) (fr : Nat × Nat) (d : TypeDesc)
    (hp : tmps.getD p undef = .pointer (some ⟨g, 0, none⟩)) (hg : w.heap[g]? = some (.cells cs t fr))
    (hu : P.underlying ty = some d) (hd : (match d with | .struct _ | .array _ _ => true | _ => false) = true) (hi : (P.info? ty).map (·.size) = some cs.size) :
    (results fn tmps).run P w = .ok (.agg cs) w := by
  have hp' : tmps[p]?.getD undef = .pointer (some ⟨g, 0, none⟩) := by simpa using hp
  simp [results, h, hp', asAddr, run_loadVar_row w g t ty cs fr d hg hu hd hi]
theorem wpList_store33 {ops : Array Oper} {rest : List Oper} {op : Oper} {a : Act} {w : World} {Q : Exit → Act → World → Prop} (hgd : op.guard = none) (x y : Operand) (ho : op.op = .store 33 x y)
    (g : Nat) (cur V : Array Value) (hx : a.eval x = .pointer (some ⟨g, 0, none⟩)) (hy : a.eval y = .agg V)
    (hg : w.heap[g]? = some (.cells cur 33 (0, 0))) (hc : cur.size = 32) (hV : V.size = 32) (h1 : ∀ v ∈ V.toList, v.oneCell' = true)
    (h : wpList Try.prog ops Q rest (a.put op.dst undef) (w.setRow g V)) : wpList Try.prog ops Q (op :: rest) a w :=
  wpList_plain hgd fun _ hK => by
    have := hK _ _ h
    unfold Oper.wp execOp
    simp only [ho, hx, hy, run_storeAt33 w g cur V hg hc hV h1, Sem.run_bind, Sem.run_pure, Result.andThen_ok]
    exact this
theorem wpList_load33 {ops : Array Oper} {rest : List Oper} {op : Oper} {a : Act} {w : World} {Q : Exit → Act → World → Prop} (hgd : op.guard = none) (x : Operand) (ho : op.op = .load 33 x)
    (g : Nat) (V : Array Value) (hx : a.eval x = .pointer (some ⟨g, 0, none⟩)) (hg : w.heap[g]? = some (.cells V 33 (0, 0))) (hV : V.size = 32)
    (h : wpList Try.prog ops Q rest (a.put op.dst (.agg V)) w) : wpList Try.prog ops Q (op :: rest) a w :=
  wpList_load_mid hgd 33 x ho g 0 hx V.toList _ (fun j v hv => by rw [Nat.zero_add, blk_cell hg]; simpa using hv) Try.underlying33 rfl (by rw [Array.length_toList, hV]; exact Try.info33) (by simpa using h)
set_option maxHeartbeats 4000000 in
theorem lsum_any (n : ByteArray) (w : World)  : Calls Try.prog 14 #[.string n] w fun e w' => e = .returned (arrV (sum32 n)) ∧ Below w.heap.size w w' := by
  obtain ⟨V, hV⟩ : ∃ V, V = (u8s (sum32 n)).toArray := ⟨_, rfl⟩
  have HVV := Lib.hid hV
  have hvs : V.size = 32 := by rw [hV]; simp [u8s_length, sum32_length]
  have H1 := Lib.hid (show ∀ v ∈ V.toList, v.oneCell' = true by rw [hV]; intro u hu; simp [u8s] at hu; obtain ⟨x, _, rfl⟩ := hu; rfl)
  have hcp : (Builtin.copy_ #[35, 9] 3 #[.slice (some ⟨w.heap.size + 1, 0, none⟩) 32 32, .string n]).run Try.prog ((w.alloc (.cells #[.int .u8 0, .int .u8 0, .int .u8 0, .int .u8 0, .int .u8 0, .int .u8 0, .int .u8 0, .int .u8 0, .int .u8 0, .int .u8 0, .int .u8 0, .int .u8 0, .int .u8 0, .int .u8 0, .int .u8 0, .int .u8 0, .int .u8 0, .int .u8 0, .int .u8 0, .int .u8 0, .int .u8 0, .int .u8 0, .int .u8 0, .int .u8 0, .int .u8 0, .int .u8 0, .int .u8 0, .int .u8 0, .int .u8 0, .int .u8 0, .int .u8 0, .int .u8 0] 33)).alloc (.cells #[.int .u8 0, .int .u8 0, .int .u8 0, .int .u8 0, .int .u8 0, .int .u8 0, .int .u8 0, .int .u8 0, .int .u8 0, .int .u8 0, .int .u8 0, .int .u8 0, .int .u8 0, .int .u8 0, .int .u8 0, .int .u8 0, .int .u8 0, .int .u8 0, .int .u8 0, .int .u8 0, .int .u8 0, .int .u8 0, .int .u8 0, .int .u8 0, .int .u8 0, .int .u8 0, .int .u8 0, .int .u8 0, .int .u8 0, .int .u8 0, .int .u8 0, .int .u8 0] 33)) =   .ok (goInt (min (n.size : Int) 32)) ((w.alloc (.cells #[.int .u8 0, .int .u8 0, .int .u8 0, .int .u8 0, .int .u8 0, .int .u8 0, .int .u8 0, .int .u8 0, .int .u8 0, .int .u8 0, .int .u8 0, .int .u8 0, .int .u8 0, .int .u8 0, .int .u8 0, .int .u8 0, .int .u8 0, .int .u8 0, .int .u8 0, .int .u8 0, .int .u8 0, .int .u8 0, .int .u8 0, .int .u8 0, .int .u8 0, .int .u8 0, .int .u8 0, .int .u8 0, .int .u8 0, .int .u8 0, .int .u8 0, .int .u8 0] 33)).alloc (.cells V 33)) := by
    have h1 := blk_new (w.alloc (.cells Z32 33)) (.cells Z32 33)
    rw [show (w.alloc (.cells Z32 33)).heap.size = w.heap.size + 1 by simp] at h1
    have h2 := run_copy_str _ _ _ h1 Z32_size n
    have h3 := World.setRow_alloc_new (w.alloc (.cells Z32 33)) Z32 V 33
    rw [show (w.alloc (.cells Z32 33)).heap.size = w.heap.size + 1 by simp] at h3
    have h4 : ((u8s (nb n)).take 32 ++ Z32.toList.drop (min n.size 32)).toArray = V := by
      rw [HVV.out, show Z32.toList = List.replicate 32 (Value.int .u8 0) from rfl, List.drop_replicate, sum32, u8s_append]
      congr 1
      simp [u8s]
    rw [h4, h3] at h2
    exact h2
  have HE : Hid (arrV (sum32 n) = .agg V) := by show _ = _; rw [HVV.out]; rfl
  clear hV
  go_enter Try.func14, Try.ntmps14
  go_wp2_with (first | (refine wpList_load33 rfl _ rfl (w.heap.size + 1) V rfl (by have := blk_new (w.alloc (.cells Z32 33)) (.cells V 33); rw [show (w.alloc (.cells Z32 33)).heap.size = w.heap.size + 1 by simp] at this; exact this) hvs ?_) | (refine wpList_store33 rfl _ _ rfl w.heap.size Z32 V rfl rfl (blk_alloc (blk_new w _) _) Z32_size hvs H1.out ?_))
  have hb0 := setRow_heap ((w.alloc (.cells Z32 33)).alloc (.cells V 33)) w.heap.size Z32 V 33 (0, 0) (blk_alloc (blk_new w _) _)
  refine bodyPost_ret_by (results_c rfl _ _ w.heap.size 33 V (0, 0) _ rfl hb0 Try.underlying33 rfl (by rw [hvs]; exact Try.info33)) rfl ⟨?_, ?_⟩
  · rw [HE.out]
  · exact below_setRow ((Turn.alloc (Turn.alloc (Turn.refl Nope w) (.cells Z32 33)) (.cells V 33)).nopeBelow) (Nat.le_refl _) V
end Go.Proofs.Ytiddipimbdffcaa
