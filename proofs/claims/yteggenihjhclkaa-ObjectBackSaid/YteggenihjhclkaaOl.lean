/- awake, walked. -/
import Derived.Test.YteggenihjhclkaaOk
set_option maxRecDepth 16000
set_option linter.unusedVariables false
set_option linter.unusedSimpArgs false
namespace Go.Proofs.Yteggenihjhclkaa
open Go.RowKit Go.Maps
open Lg (Nm nmOf arr_nm nm_len)
variable {w0 w w' W W' : World} {b m c : Nat} {P Q R : PS}
theorem ents (P : PS) (args : Array Value) (W : World) :
    (callFunc (fDo P.kind) args).run Try.prog W = .ok (.enter (fDo P.kind) args) W ∧ (callFunc (fSave P.kind) args).run Try.prog W = .ok (.enter (fSave P.kind) args) W ∧
    (callFunc (fClone P.kind) args).run Try.prog W = .ok (.enter (fClone P.kind) args) W ∧ (callFunc (fKind P.kind) args).run Try.prog W = .ok (.enter (fKind P.kind) args) W := by
  cases P
  · exact ⟨by kernel_rfl, by kernel_rfl, by kernel_rfl, by kernel_rfl⟩
  · exact ⟨by kernel_rfl, by kernel_rfl, by kernel_rfl, by kernel_rfl⟩
  · exact ⟨by kernel_rfl, by kernel_rfl, by kernel_rfl, by kernel_rfl⟩
/-- The methods' numbers of a kind: which function each is, and that it is entered. -/
structure Mt (P : PS) (T FD FS FC FK : Nat) : Prop where
  t : tyO P.kind = T
  fd : fDo P.kind = FD
  fs : fSave P.kind = FS
  fc : fClone P.kind = FC
  fk : fKind P.kind = FK
theorem Mt.mk' (P : PS) : ∃ T FD FS FC FK, Mt P T FD FS FC FK := ⟨_, _, _, _, _, rfl, rfl, rfl, rfl, rfl⟩
variable {T FD FS FC FK : Nat}
theorem Mt.of (h : Mt P T FD FS FC FK) (hk : Q.kind = P.kind) : Mt Q T FD FS FC FK := ⟨by rw [hk]; exact h.t, by rw [hk]; exact h.fd, by rw [hk]; exact h.fs, by rw [hk]; exact h.fc, by rw [hk]; exact h.fk⟩
theorem Mt.md (h : Mt P T FD FS FC FK) (b : Nat) (W : World) : (method 266 T (rv b) "Do").run Try.prog W = .ok (FD, rv b) W := by rw [← h.t, ← h.fd]; exact (meths P b W).1
theorem Mt.ms (h : Mt P T FD FS FC FK) (b : Nat) (W : World) : (method 266 T (rv b) "Save").run Try.prog W = .ok (FS, pv b) W := by rw [← h.t, ← h.fs]; exact (meths P b W).2.1
theorem Mt.mc (h : Mt P T FD FS FC FK) (b : Nat) (W : World) : (method 266 T (rv b) "Clone").run Try.prog W = .ok (FC, rv b) W := by rw [← h.t, ← h.fc]; exact (meths P b W).2.2.1
theorem Mt.mk1 (h : Mt P T FD FS FC FK) (b : Nat) (W : World) : (method 266 T (rv b) "Kind").run Try.prog W = .ok (FK, rv b) W := by rw [← h.t, ← h.fk]; exact (meths P b W).2.2.2
theorem Mt.ed (h : Mt P T FD FS FC FK) (args : Array Value) (W : World) : (callFunc FD args).run Try.prog W = .ok (.enter FD args) W := by rw [← h.fd]; exact (ents P args W).1
theorem Mt.es (h : Mt P T FD FS FC FK) (args : Array Value) (W : World) : (callFunc FS args).run Try.prog W = .ok (.enter FS args) W := by rw [← h.fs]; exact (ents P args W).2.1
theorem Mt.ec (h : Mt P T FD FS FC FK) (args : Array Value) (W : World) : (callFunc FC args).run Try.prog W = .ok (.enter FC args) W := by rw [← h.fc]; exact (ents P args W).2.2.1
theorem Mt.ek (h : Mt P T FD FS FC FK) (args : Array Value) (W : World) : (callFunc FK args).run Try.prog W = .ok (.enter FK args) W := by rw [← h.fk]; exact (ents P args W).2.2.2
theorem mdo (hm : Mt P T FD FS FC FK) (h : Ob w0 w b m c P) (o : OOp) (hsz : o.ln.size ≤ maxLen ∧ o.lt.size ≤ maxLen ∧ o.sn.size ≤ maxLen) (hc : c ≤ 900) :
    Calls Try.prog FD #[rv b, .agg (opC o)] w fun e w' => e = .returned (resV P o) ∧ Ob w0 w' b m (c + 2) (P.nxt o) ∧ Turn (At m) w w' := by rw [← hm.fd]; exact odo_any h o hsz hc
theorem msave (hm : Mt P T FD FS FC FK) (h : Ob w0 w b m c P) : Calls Try.prog FS #[pv b] w fun e w' => e = .returned (.string P.saved) ∧ Turn Nope w w' := by rw [← hm.fs]; exact osave_any h
theorem mkind (hm : Mt P T FD FS FC FK) (b : Nat) (w : World) : Calls Try.prog FK #[rv b] w fun e w' => e = .returned (.int .i64 (P.kind : Int)) ∧ Turn Nope w w' := by rw [← hm.fk]; exact kind_any P b w
theorem mclone (hm : Mt P T FD FS FC FK) (h : Ob w0 w b m c P) : Calls Try.prog FC #[rv b] w fun e w' => ∃ b' m' Q, e = .returned (.iface T (rv b')) ∧ Ob w w' b' m' 40 Q ∧ P.eqv Q ∧ Turn Nope w w' := by
  have := oclone_any h
  rw [hm.fc, hm.t] at this
  exact this
theorem onewk (k : Nat) (hk : 1 ≤ k ∧ k ≤ 3) (hm : Mt (PS.new k) T FD FS FC FK) (w : World) : Calls Try.prog 12 #[.int .i64 (k : Int)] w fun e w' => ∃ b m, e = .returned (.iface T (rv b)) ∧ Ob w w' b m 1 (PS.new k) ∧ Turn Nope w w' := by
  have := onew_any k hk w
  have ht := hm.t
  rw [PS.kind_new k hk.1 hk.2] at ht
  rw [ht] at this
  exact this
set_option maxHeartbeats 8000000 in
theorem awake_any (w : World) : Calls Try.prog 6 #[] w fun e w' => e = .returned (.bool true) ∧ Turn Nope w w' := by
  obtain ⟨T, FD, FS, FC, FK, hm⟩ := Mt.mk' (PS.new 3)
  have HM := Lib.hid hm
  clear hm
  go_enter Try.func6, Try.ntmps6
  go_wp2_with fail
  refine (onewk 3 (by omega) HM.out w).mono ?_
  rintro e w1 ⟨b, m, rfl, hob, ht⟩
  have HO1 := Lib.hid hob
  have HT1 := Lib.hid ht
  clear hob ht
  have h1 := HM.out.mk1 b
  have h2 := HM.out.ek
  go_wp2_with fail
  refine (mkind HM.out b w1).mono ?_
  rintro e w2 ⟨rfl, ht⟩
  have HO2 := Lib.hid (HO1.out.nope ht)
  have HT2 := Lib.hid (HT1.out.trans ht)
  clear ht HO1 HT1 h1 h2
  rw [show (PS.new 3).kind = 3 from rfl]
  go_wp2_with fail
  refine (onew_none w2).mono ?_
  rintro e w3 ⟨rfl, rfl⟩
  have h1 := HM.out.md b
  have h2 := HM.out.ed
  go_wp2_with fail
  have HX : Hid (m < w3.heap.size ∧ w.heap.size ≤ m) := ⟨HO2.out.lt.2, HO2.out.lo.2⟩
  have HOB := Lib.hid (blk_new w3 (.cells #[.int .i64 3, .int .i64 0, .int .i64 0, .string ⟨#[]⟩, .int .i64 0, .int .i64 0, .string ⟨#[]⟩, .string ⟨#[]⟩, .int .i64 0, .int .i64 1, .string ⟨#[110, 117, 116]⟩, .int .i64 2] 30))
  have HO3 := Lib.hid (HO2.out.nope ((Turn.refl _ _).alloc (.cells #[.int .i64 3, .int .i64 0, .int .i64 0, .string ⟨#[]⟩, .int .i64 0, .int .i64 0, .string ⟨#[]⟩, .string ⟨#[]⟩, .int .i64 0, .int .i64 1, .string ⟨#[110, 117, 116]⟩, .int .i64 2] 30)))
  have HT3 := Lib.hid (HT2.out.alloc (.cells #[.int .i64 3, .int .i64 0, .int .i64 0, .string ⟨#[]⟩, .int .i64 0, .int .i64 0, .string ⟨#[]⟩, .string ⟨#[]⟩, .int .i64 0, .int .i64 1, .string ⟨#[110, 117, 116]⟩, .int .i64 2] 30))
  have HG1 : Hid (w3.heap.size ≠ m) := by have := HX.out; exact (by omega : w3.heap.size ≠ m)
  have HS3 : Hid (w3.heap.size < (w3.alloc (.cells #[.int .i64 3, .int .i64 0, .int .i64 0, .string ⟨#[]⟩, .int .i64 0, .int .i64 0, .string ⟨#[]⟩, .string ⟨#[]⟩, .int .i64 0, .int .i64 1, .string ⟨#[110, 117, 116]⟩, .int .i64 2] 30)).heap.size) := blk_lt HOB.out
  generalize w3.alloc (.cells #[.int .i64 3, .int .i64 0, .int .i64 0, .string ⟨#[]⟩, .int .i64 0, .int .i64 0, .string ⟨#[]⟩, .string ⟨#[]⟩, .int .i64 0, .int .i64 1, .string ⟨#[110, 117, 116]⟩, .int .i64 2] 30) = w4 at HOB HO3 HT3 HS3 ⊢
  generalize w3.heap.size = g2 at HOB HG1 HS3 HX ⊢
  refine (mdo HM.out HO3.out oNut (by decide) (by omega)).mono ?_
  rintro e w5 ⟨rfl, hob, ht⟩
  rw [nut1]
  have HO5 : Hid (Ob w w5 b m 3 P1) := hob
  have HT5 := Lib.hid (HT3.out.then ht fun k hk => .inr (by rw [show k = m from hk]; exact HX.out.2))
  have HOB5 := Lib.hid (ht.blk HOB.out fun e => HG1.out e)
  have HS5 : Hid (g2 < w5.heap.size) := Nat.lt_of_lt_of_le HS3.out ht.size
  clear hob ht HO3 HT3 HOB HO2 HT2 HS3
  go_upto_region 6 with fail
  have HRB := Lib.hid (blk_new w5 (.cells #[.int .i64 0, .string ⟨#[]⟩] 47))
  have HO6 := Lib.hid (HO5.out.nope ((Turn.refl _ _).alloc (.cells #[.int .i64 0, .string ⟨#[]⟩] 47)))
  have HT6 := Lib.hid (HT5.out.alloc (.cells #[.int .i64 0, .string ⟨#[]⟩] 47))
  have HOB6 := Lib.hid (blk_alloc HOB5.out (.cells #[.int .i64 0, .string ⟨#[]⟩] 47))
  have HG3 : Hid (w5.heap.size ≠ m) := by have := HX.out; have := HS5.out; exact (by omega : w5.heap.size ≠ m)
  have HS6 : Hid (w5.heap.size < (w5.alloc (.cells #[.int .i64 0, .string ⟨#[]⟩] 47)).heap.size) := blk_lt HRB.out
  generalize w5.alloc (.cells #[.int .i64 0, .string ⟨#[]⟩] 47) = w6 at HRB HO6 HT6 HOB6 HS6 ⊢
  have HS5' : Hid (g2 < w5.heap.size) := HS5.out
  generalize w5.heap.size = g3 at HRB HG3 HS6 HS5' ⊢
  clear HO5 HT5 HOB5 HS5
  go_wp2_with fail
  refine (mdo (HM.out.of (Q := P1) rfl) HO6.out oTxt (by decide) (by omega)).mono ?_
  rintro e w7 ⟨rfl, hob, ht⟩
  rw [nut2]
  have HO7 : Hid (Ob w w7 b m 5 (P1.nxt oTxt)) := hob
  have HT7 := Lib.hid (HT6.out.then ht fun k hk => .inr (by rw [show k = m from hk]; exact HX.out.2))
  have HOB7 := Lib.hid (ht.blk HOB6.out fun e => HG1.out e)
  have HRB7 := Lib.hid (ht.blk HRB.out fun e => HG3.out e)
  have HS7 : Hid (g3 < w7.heap.size) := Nat.lt_of_lt_of_le HS6.out ht.size
  clear hob ht HO6 HT6 HOB6 HRB HS6 h1 h2
  have h1 := HM.out.mc b
  have h2 := HM.out.ec
  go_upto_region 7 with fail
  have HRC := Lib.hid (blk_new w7 (.cells #[.int .i64 5, .string ⟨#[]⟩] 47))
  have HO8 := Lib.hid (HO7.out.nope ((Turn.refl _ _).alloc (.cells #[.int .i64 5, .string ⟨#[]⟩] 47)))
  have HT8 := Lib.hid (HT7.out.alloc (.cells #[.int .i64 5, .string ⟨#[]⟩] 47))
  have HOB8 := Lib.hid (blk_alloc HOB7.out (.cells #[.int .i64 5, .string ⟨#[]⟩] 47))
  have HRB8 := Lib.hid (blk_alloc HRB7.out (.cells #[.int .i64 5, .string ⟨#[]⟩] 47))
  generalize w7.alloc (.cells #[.int .i64 5, .string ⟨#[]⟩] 47) = w8 at HRC HO8 HT8 HOB8 HRB8 ⊢
  generalize w7.heap.size = g4 at HRC HS7 ⊢
  clear HO7 HT7 HOB7 HRB7
  go_wp2_with fail
  refine (mclone (HM.out.of (Q := P1.nxt oTxt) rfl) HO8.out).mono ?_
  rintro e w9 ⟨b', m', Q, rfl, hob, heq, ht⟩
  have HO9 := Lib.hid hob
  have HEQ := Lib.hid heq
  have HT9 := Lib.hid (HT8.out.trans ht)
  have HOB9 := Lib.hid (ht.blk HOB8.out fun h => h)
  have HRB9 := Lib.hid (ht.blk HRB8.out fun h => h)
  have HRC9 := Lib.hid (ht.blk HRC.out fun h => h)
  have HM2 := Lib.hid (HM.out.of (Q := Q) (by rw [heq.kind]; rfl))
  clear hob heq ht HO8 HT8 HOB8 HRB8 HRC h1 h2
  have h1 := HM2.out.ms b'
  have h2 := HM2.out.es
  have r3 := blk_cell HRB9.out 0
  have r4 := blk_cell HRC9.out 0
  simp only [List.getElem?_toArray, List.getElem?_cons_zero] at r3 r4
  go_wp2_with fail
  refine (msave HM2.out HO9.out).mono ?_
  rintro e w10 ⟨rfl, ht⟩
  rw [HEQ.out.saved, nut3]
  have HT10 := Lib.hid (HT9.out.trans ht)
  have HOB10 := Lib.hid (ht.blk HOB9.out fun h => h)
  clear ht HT9 HOB9 HRB9 HRC9 r3 r4 h1 h2
  have c0 := blk_cell HOB10.out 0
  have c1 := blk_cell HOB10.out 1
  have c2 := blk_cell HOB10.out 2
  have c3 := blk_cell HOB10.out 3
  have c4 := blk_cell HOB10.out 4
  have c5 := blk_cell HOB10.out 5
  have c6 := blk_cell HOB10.out 6
  have c7 := blk_cell HOB10.out 7
  have c8 := blk_cell HOB10.out 8
  have c9 := blk_cell HOB10.out 9
  have c10 := blk_cell HOB10.out 10
  have c11 := blk_cell HOB10.out 11
  simp only [List.getElem?_toArray, List.getElem?_cons_zero, List.getElem?_cons_succ] at c0 c1 c2 c3 c4 c5 c6 c7 c8 c9 c10 c11
  go_wp2_with fail
  clear c0 c1 c2 c3 c4 c5 c6 c7 c8 c9 c10 c11
  refine (oapart_any oNut oNut w10).mono ?_
  rintro e w11 ⟨rfl, ht⟩
  have HT11 := Lib.hid (HT10.out.trans ht)
  rw [show oApart oNut oNut = false by decide]
  clear ht
  go_wp2_with fail
  go_ret
  exact ⟨rfl, HT11.out⟩
end Go.Proofs.Yteggenihjhclkaa
