/- The sum of bytes, plain: words, rounds, blocks. -/
import Derived.Test.YtojfknogdknhkaaRot
set_option maxRecDepth 16000
set_option linter.unusedVariables false
namespace Go.Proofs.Ytojfknogdknhkaa
open Go.RowKit
theorem bits_w (op : BinOp) (a b : Int) : W32 (bits op .u32 a b) := by
  have : ∀ n : Int, W32 (IntKind.u32.wrap n) := fun n => by rw [IntKind.wrap_u32]; unfold W32; omega
  unfold bits
  cases op <;> first | exact this _ | (unfold W32; decide)
def ad2 (a b : Int) : Int := (a + b) % 4294967296
theorem ad2_w (a b : Int) : W32 (ad2 a b) := by unfold ad2 W32; omega
def sig0 (p : Int) : Int := bits .xor .u32 (bits .xor .u32 (rt 128 33554432 p) (rt 262144 16384 p)) (p / 8)
def sig1 (q : Int) : Int := bits .xor .u32 (bits .xor .u32 (rt 131072 32768 q) (rt 524288 8192 q)) (q / 1024)
/-- The next word of a schedule. -/
def nextW (l : List Int) : Int := (l.getD (l.length - 16) 0 + sig0 (l.getD (l.length - 15) 0) + l.getD (l.length - 7) 0 + sig1 (l.getD (l.length - 2) 0)) % 4294967296
def growW : Nat → List Int → List Int
  | 0, l => l
  | n + 1, l => growW n (l ++ [nextW l])
def byteAt (s : List UInt8) (i : Nat) : Int := ((s.getD i 0).toNat : Int)
def word0 (s : List UInt8) (i : Nat) : Int := byteAt s (4 * i) * 16777216 + byteAt s (4 * i + 1) * 65536 + byteAt s (4 * i + 2) * 256 + byteAt s (4 * i + 3)
def first16 (s : List UInt8) : List Int := (List.range 16).map (word0 s)
def wordsP (s : List UInt8) : List Int := growW 48 (first16 s)
structure St where
  a : Int
  b : Int
  c : Int
  d : Int
  e : Int
  f : Int
  g : Int
  h : Int
def keysP : List Int := [0x428a2f98, 0x71374491, 0xb5c0fbcf, 0xe9b5dba5, 0x3956c25b, 0x59f111f1, 0x923f82a4, 0xab1c5ed5, 0xd807aa98, 0x12835b01, 0x243185be, 0x550c7dc3, 0x72be5d74, 0x80deb1fe, 0x9bdc06a7, 0xc19bf174, 0xe49b69c1, 0xefbe4786, 0x0fc19dc6, 0x240ca1cc, 0x2de92c6f, 0x4a7484aa, 0x5cb0a9dc, 0x76f988da, 0x983e5152, 0xa831c66d, 0xb00327c8, 0xbf597fc7, 0xc6e00bf3, 0xd5a79147, 0x06ca6351, 0x14292967, 0x27b70a85, 0x2e1b2138, 0x4d2c6dfc, 0x53380d13, 0x650a7354, 0x766a0abb, 0x81c2c92e, 0x92722c85, 0xa2bfe8a1, 0xa81a664b, 0xc24b8b70, 0xc76c51a3, 0xd192e819, 0xd6990624, 0xf40e3585, 0x106aa070, 0x19a4c116, 0x1e376c08, 0x2748774c, 0x34b0bcb5, 0x391c0cb3, 0x4ed8aa4a, 0x5b9cca4f, 0x682e6ff3, 0x748f82ee, 0x78a5636f, 0x84c87814, 0x8cc70208, 0x90befffa, 0xa4506ceb, 0xbef9a3f7, 0xc67178f2]
def chI (e f g : Int) : Int := bits .xor .u32 (bits .and .u32 e f) (bits .and .u32 (bits .xor .u32 IntKind.u32.max e) g)
def majI (a b c : Int) : Int := bits .xor .u32 (bits .xor .u32 (bits .and .u32 a b) (bits .and .u32 a c)) (bits .and .u32 b c)
def bigE (e : Int) : Int := bits .xor .u32 (bits .xor .u32 (rt 64 67108864 e) (rt 2048 2097152 e)) (rt 33554432 128 e)
def bigA (a : Int) : Int := bits .xor .u32 (bits .xor .u32 (rt 4 1073741824 a) (rt 8192 524288 a)) (rt 4194304 1024 a)
def roundP (s : St) (k w : Int) : St :=
  let x := (s.h + chI s.e s.f s.g + k + w + bigE s.e) % 4294967296
  let y := (majI s.a s.b s.c + bigA s.a) % 4294967296
  ⟨ad2 x y, s.a, s.b, s.c, ad2 s.d x, s.e, s.f, s.g⟩
def roundsP (s : St) (l : List (Int × Int)) : St := l.foldl (fun s kw => roundP s kw.1 kw.2) s
def sumSt (s t : St) : St := ⟨ad2 s.a t.a, ad2 s.b t.b, ad2 s.c t.c, ad2 s.d t.d, ad2 s.e t.e, ad2 s.f t.f, ad2 s.g t.g, ad2 s.h t.h⟩
def mixP (s : St) (blk : List UInt8) : St := sumSt s (roundsP s (keysP.zip (wordsP blk)))
structure WSt (s : St) : Prop where
  a : W32 s.a
  b : W32 s.b
  c : W32 s.c
  d : W32 s.d
  e : W32 s.e
  f : W32 s.f
  g : W32 s.g
  h : W32 s.h
theorem roundP_w {s : St} (h : WSt s) (k w : Int) : WSt (roundP s k w) := ⟨ad2_w _ _, h.a, h.b, h.c, ad2_w _ _, h.e, h.f, h.g⟩
theorem sumSt_w (s t : St) : WSt (sumSt s t) := ⟨ad2_w _ _, ad2_w _ _, ad2_w _ _, ad2_w _ _, ad2_w _ _, ad2_w _ _, ad2_w _ _, ad2_w _ _⟩
theorem mixP_w (s : St) (l : List UInt8) : WSt (mixP s l) := sumSt_w _ _
theorem growW_len : ∀ (n : Nat) (l : List Int), (growW n l).length = l.length + n
  | 0, l => rfl
  | n + 1, l => by
    show (growW n (l ++ [nextW l])).length = _
    rw [growW_len n, List.length_append]
    show l.length + 1 + n = l.length + (n + 1)
    omega
theorem growW_add : ∀ (n : Nat) (l : List Int), growW (n + 1) l = growW n l ++ [nextW (growW n l)]
  | 0, l => rfl
  | n + 1, l => growW_add n (l ++ [nextW l])
theorem byteAt_b (s : List UInt8) (i : Nat) : 0 ≤ byteAt s i ∧ byteAt s i < 256 := by
  unfold byteAt
  have := (s.getD i 0).toNat_lt
  omega
theorem word0_w (s : List UInt8) (i : Nat) : W32 (word0 s i) := by
  have h0 := byteAt_b s (4 * i)
  have h1 := byteAt_b s (4 * i + 1)
  have h2 := byteAt_b s (4 * i + 2)
  have h3 := byteAt_b s (4 * i + 3)
  unfold word0 W32; omega
theorem nextW_w (l : List Int) : W32 (nextW l) := by unfold nextW W32; omega
theorem growW_w : ∀ (n : Nat) (l : List Int), (∀ x ∈ l, W32 x) → ∀ x ∈ growW n l, W32 x
  | 0, l, h => h
  | n + 1, l, h => growW_w n (l ++ [nextW l]) fun x hx => by
    rcases List.mem_append.1 hx with hx | hx
    · exact h x hx
    · rw [List.mem_singleton.1 hx]; exact nextW_w l
theorem first16_w (s : List UInt8) : ∀ x ∈ first16 s, W32 x := fun x hx => by
  obtain ⟨i, _, rfl⟩ := List.mem_map.1 hx
  exact word0_w s i
end Go.Proofs.Ytojfknogdknhkaa
