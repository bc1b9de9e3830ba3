/-
  SHA-256 as lists of words: what a block does to a state, how bytes are padded. No program is in sight.
-/
import Derived.Test.YtajkclooknanjaaDoorBm
import Derived.Test.YtajkclooknanjaaDoorV38
import Derived.Test.YtajkclooknanjaaDoorV44
import Derived.KernelRfl
import Derived.Test.YtajkclooknanjaaDoorRows
section
open Go Go.V
namespace Go.V
set_option linter.unusedSimpArgs false
set_option linter.unusedVariables false
set_option maxRecDepth 100000

def rndI : List Int := [1116352408, 1899447441, 3049323471, 3921009573, 961987163, 1508970993, 2453635748, 2870763221, 3624381080, 310598401, 607225278, 1426881987, 1925078388, 2162078206, 2614888103, 3248222580, 3835390401, 4022224774, 264347078, 604807628, 770255983, 1249150122, 1555081692, 1996064986, 2554220882, 2821834349, 2952996808, 3210313671, 3336571891, 3584528711, 113926993, 338241895, 666307205, 773529912, 1294757372, 1396182291, 1695183700, 1986661051, 2177026350, 2456956037, 2730485921, 2820302411, 3259730800, 3345764771, 3516065817, 3600352804, 4094571909, 275423344, 430227734, 506948616, 659060556, 883997877, 958139571, 1322822218, 1537002063, 1747873779, 1955562222, 2024104815, 2227730452, 2361852424, 2428436474, 2756734187, 3204031479, 3329325298]
def rnds : List (BitVec 32) := rndI.map (BitVec.ofInt 32)

/-- four bytes as a word, the lowest one first -/
def le4 (a b c d : BitVec 8) : BitVec 32 := ((a.setWidth 32 ||| b.setWidth 32 <<< 8) ||| c.setWidth 32 <<< 16) ||| d.setWidth 32 <<< 24
theorem or_sh32' (x y : BitVec 32) (i : Nat) (hx : x.toNat < 2 ^ i) (hy : y.toNat * 2 ^ i < 2 ^ 32) : (x ||| y <<< i).toNat = x.toNat + y.toNat * 2 ^ i := by
  rw [BitVec.toNat_or, BitVec.toNat_shiftLeft, Nat.shiftLeft_eq, Nat.mod_eq_of_lt hy, Nat.or_comm, ← Nat.shiftLeft_eq, ← Nat.shiftLeft_add_eq_or_of_lt hx, Nat.add_comm]
theorem le4_eq (a b c d : BitVec 8) : a.setWidth 32 + 256#32 * b.setWidth 32 + 65536#32 * c.setWidth 32 + 16777216#32 * d.setWidth 32 = le4 a b c d := by
  have ha := a.isLt
  have hb := b.isLt
  have hc := c.isLt
  have hd := d.isLt
  have sa : (a.setWidth 32).toNat = a.toNat := by rw [BitVec.toNat_setWidth]; omega
  have sb : (b.setWidth 32).toNat = b.toNat := by rw [BitVec.toNat_setWidth]; omega
  have sc : (c.setWidth 32).toNat = c.toNat := by rw [BitVec.toNat_setWidth]; omega
  have sd : (d.setWidth 32).toNat = d.toNat := by rw [BitVec.toNat_setWidth]; omega
  have e1 := or_sh32' (a.setWidth 32) (b.setWidth 32) 8 (by omega) (by omega)
  have e2 := or_sh32' (a.setWidth 32 ||| b.setWidth 32 <<< 8) (c.setWidth 32) 16 (by omega) (by omega)
  have e3 := or_sh32' ((a.setWidth 32 ||| b.setWidth 32 <<< 8) ||| c.setWidth 32 <<< 16) (d.setWidth 32) 24 (by omega) (by omega)
  apply BitVec.eq_of_toNat_eq
  unfold le4
  rw [e3, e2, e1]
  simp only [BitVec.toNat_add, BitVec.toNat_mul, BitVec.toNat_ofNat, sa, sb, sc, sd]
  omega
/-- .. the other way about, by numbers -/
theorem be4_eq (a b c d : BitVec 8) : d.setWidth 32 * 16777216#32 + c.setWidth 32 * 65536#32 + b.setWidth 32 * 256#32 + a.setWidth 32 = le4 a b c d := by
  rw [← le4_eq, BitVec.mul_comm (d.setWidth 32), BitVec.mul_comm (c.setWidth 32), BitVec.mul_comm (b.setWidth 32)]
  generalize 16777216#32 * d.setWidth 32 = w
  generalize 65536#32 * c.setWidth 32 = x
  generalize 256#32 * b.setWidth 32 = y
  generalize a.setWidth 32 = z
  rw [BitVec.add_comm z y, BitVec.add_comm (y + z) x, BitVec.add_comm _ w, ← BitVec.add_assoc, ← BitVec.add_assoc]
/-- word i of bytes, the highest byte first -/
def bw (s : List (BitVec 8)) (i : Nat) : BitVec 32 := le4 (s.getD (4 * i + 3) 0) (s.getD (4 * i + 2) 0) (s.getD (4 * i + 1) 0) (s.getD (4 * i) 0)
/-- turned to the right -/
def ror (x : BitVec 32) (n : Nat) : BitVec 32 := x >>> n ||| x <<< (32 - n)
def sg0 (x : BitVec 32) : BitVec 32 := ror x 7 ^^^ ror x 18 ^^^ x >>> 3
def sg1 (x : BitVec 32) : BitVec 32 := ror x 17 ^^^ ror x 19 ^^^ x >>> 10
/-- the words of a block: the first 16, and i more -/
def swl (s : List (BitVec 8)) : Nat → List (BitVec 32)
  | 0 => (List.range 16).map (bw s)
  | i + 1 => let l := swl s i; l ++ [l.getD i 0 + sg0 (l.getD (i + 1) 0) + l.getD (i + 9) 0 + sg1 (l.getD (i + 14) 0)]
theorem swl_succ (s : List (BitVec 8)) (i : Nat) : swl s (i + 1) = swl s i ++ [(swl s i).getD i 0 + sg0 ((swl s i).getD (i + 1) 0) + (swl s i).getD (i + 9) 0 + sg1 ((swl s i).getD (i + 14) 0)] := rfl
theorem swl_len {s : List (BitVec 8)} : ∀ {i : Nat}, (swl s i).length = 16 + i
  | 0 => by simp [swl]
  | i + 1 => by rw [swl_succ, List.length_append, swl_len]; simp; omega
theorem getD_app {α : Type} {l m : List α} {d : α} {j : Nat} (h : j < l.length) : (l ++ m).getD j d = l.getD j d := by
  rw [List.getD_eq_getElem?_getD, List.getElem?_append_left h, List.getD_eq_getElem?_getD]
theorem swl_stay {s : List (BitVec 8)} {j : Nat} : ∀ {k i : Nat}, j < 16 + i → (swl s (i + k)).getD j 0 = (swl s i).getD j 0
  | 0, i, _ => rfl
  | k + 1, i, h => by
    rw [← Nat.add_assoc, swl_succ, getD_app (by rw [swl_len]; omega), swl_stay h]
/-- word i of a block -/
def sW (s : List (BitVec 8)) (i : Nat) : BitVec 32 := (swl s 48).getD i 0
theorem sW_lo {s : List (BitVec 8)} {i : Nat} (h : i < 16) : sW s i = bw s i := by
  unfold sW
  rw [show 48 = 0 + 48 from rfl, swl_stay (by omega), swl, List.getD_eq_getElem?_getD, List.getElem?_map, List.getElem?_range h]
  rfl
theorem sW_at {s : List (BitVec 8)} {i j : Nat} (h : j < 16 + i) (hi : i ≤ 48) : (swl s i).getD j 0 = sW s j := by
  unfold sW
  obtain ⟨k, hk⟩ : ∃ k, 48 = i + k := ⟨48 - i, by omega⟩
  rw [hk, swl_stay h]
theorem sW_hi {s : List (BitVec 8)} {i : Nat} (h : i < 48) : sW s (16 + i) = sW s i + sg0 (sW s (i + 1)) + sW s (i + 9) + sg1 (sW s (i + 14)) := by
  rw [← sW_at (s := s) (i := i + 1) (j := 16 + i) (by omega) (by omega), swl_succ]
  rw [sW_at (by omega) (by omega), sW_at (by omega) (by omega), sW_at (by omega) (by omega), sW_at (by omega) (by omega)]
  rw [List.getD_eq_getElem?_getD, List.getElem?_append_right (by rw [swl_len]; omega), swl_len]
  simp

/-- eight words -/
structure S8 where
  a : BitVec 32
  b : BitVec 32
  c : BitVec 32
  d : BitVec 32
  e : BitVec 32
  f : BitVec 32
  g : BitVec 32
  h : BitVec 32
def S8.l (v : S8) : List (BitVec 32) := [v.a, v.b, v.c, v.d, v.e, v.f, v.g, v.h]
def ini : S8 := ⟨1779033703, 3144134277, 1013904242, 2773480762, 1359893119, 2600822924, 528734635, 1541459225⟩
def big1 (e : BitVec 32) : BitVec 32 := ror e 6 ^^^ ror e 11 ^^^ ror e 25
def big0 (a : BitVec 32) : BitVec 32 := ror a 2 ^^^ ror a 13 ^^^ ror a 22
def chs (e f g : BitVec 32) : BitVec 32 := (e &&& f) ^^^ (~~~e &&& g)
def maj (a b c : BitVec 32) : BitVec 32 := (a &&& b) ^^^ (a &&& c) ^^^ (b &&& c)
def rt (k w : BitVec 32) (v : S8) : BitVec 32 := v.h + big1 v.e + chs v.e v.f v.g + k + w
def ru (v : S8) : BitVec 32 := big0 v.a + maj v.a v.b v.c
/-- one round -/
def rnd (k w : BitVec 32) (v : S8) : S8 := ⟨rt k w v + ru v, v.a, v.b, v.c, v.d + rt k w v, v.e, v.f, v.g⟩
/-- i rounds -/
def rds (s : List (BitVec 8)) (v : S8) : Nat → S8
  | 0 => v
  | i + 1 => rnd (rnds.getD i 0) (sW s i) (rds s v i)
def S8.plus (v u : S8) : S8 := ⟨v.a + u.a, v.b + u.b, v.c + u.c, v.d + u.d, v.e + u.e, v.f + u.f, v.g + u.g, v.h + u.h⟩
/-- a block taken into a state -/
def comp (h : S8) (s : List (BitVec 8)) : S8 := (rds s h 64).plus h
theorem maj_or (a b c : BitVec 32) : (a &&& b) ||| (a &&& c) ||| (b &&& c) = maj a b c := by
  unfold maj
  apply BitVec.eq_of_getLsbD_eq
  intro i hi
  simp only [BitVec.getLsbD_or, BitVec.getLsbD_and, BitVec.getLsbD_xor]
  cases a.getLsbD i <;> cases b.getLsbD i <;> cases c.getLsbD i <;> rfl
theorem not_sub (e : BitVec 32) : 4294967295 - e = ~~~e := by
  apply BitVec.eq_of_toNat_eq
  rw [BitVec.toNat_sub, BitVec.toNat_not]
  have := e.isLt
  rw [show (4294967295 : BitVec 32).toNat = 4294967295 from rfl]
  omega
/-- a word as four bytes, the highest one first -/
def w4 (w : BitVec 32) : List (BitVec 8) := [(w >>> 24).setWidth 8, (w >>> 16).setWidth 8, (w >>> 8).setWidth 8, w.setWidth 8]
/-- a state as bytes -/
def dg (v : S8) : List (BitVec 8) := w4 v.a ++ (w4 v.b ++ (w4 v.c ++ (w4 v.d ++ (w4 v.e ++ (w4 v.f ++ (w4 v.g ++ w4 v.h))))))

/-- block m of bytes -/
def ck (l : List (BitVec 8)) (m : Nat) : List (BitVec 8) := (l.drop (64 * m)).take 64
/-- m blocks taken into the state at the beginning -/
def hb (l : List (BitVec 8)) : Nat → S8
  | 0 => ini
  | m + 1 => comp (hb l m) (ck l m)
theorem ck_app {l r : List (BitVec 8)} {m : Nat} (h : 64 * m + 64 ≤ l.length) : ck (l ++ r) m = ck l m := by
  unfold ck
  rw [List.drop_append_of_le_length (by omega), List.take_append_of_le_length (by rw [List.length_drop]; omega)]
theorem hb_app {l r : List (BitVec 8)} : ∀ {m : Nat}, 64 * m ≤ l.length → hb (l ++ r) m = hb l m
  | 0, _ => rfl
  | m + 1, h => by rw [hb, hb, hb_app (by omega), ck_app (by omega)]
/-- how many bytes there are, as eight bytes -/
def len8 (n : Nat) : List (BitVec 8) := (List.range 8).map fun i => ((BitVec.ofNat 64 n * 8) >>> (8 * (7 - i))).setWidth 8
def zc (n : Nat) : Nat := (119 - n % 64) % 64
/-- what follows the bytes -/
def pad (l : List (BitVec 8)) : List (BitVec 8) := l ++ (128 :: (List.replicate (zc l.length) 0 ++ len8 l.length))
theorem len8_len {n : Nat} : (len8 n).length = 8 := by simp [len8]
theorem pad_len {l : List (BitVec 8)} : (pad l).length = l.length + 9 + zc l.length := by simp [pad, len8_len]; omega
/-- the sum of bytes -/
def sha (l : List (BitVec 8)) : List (BitVec 8) := dg (hb (pad l) ((pad l).length / 64))
theorem dg_len {v : S8} : (dg v).length = 32 := rfl
theorem sha_len {l : List (BitVec 8)} : (sha l).length = 32 := rfl
end Go.V

end

section
/-
  Layer 4 (sha), as this seat's program has it: blocks, and states as bytes.
-/
open Go Go.V
namespace Go.Proofs.YtajkclooknanjaaDoor
noncomputable abbrev P := Go.Proofs.Tryd.prog
def G : Globs := [(0, .arr 64 .leaf, .agg (rnds.map .u32))]
/-- (*trefoil/sha.Sums).Write (0:x, 1:s, 5:, 10:, 36:) -/
def s37 : FnS := ⟨53, [0, 1, 5, 10, 36],
    (.seq (.seq (.reg [⟨.new, (.q .mv), [.t 0], none⟩,
      ⟨.var 2, (.q (.eqP false)), [.t 5, .c .nilp], none⟩])
    (.cond (.t 2) .ret
    .skip))
    (.seq (.seq (.reg [⟨.new, (.q .mv), [.t 0], none⟩,
      ⟨.new, (.q .nilc), [.t 5], none⟩,
      ⟨.new, (.q (.fa [(.arr 8 .leaf), .leaf, .leaf, .leaf] 3)), [.t 6], none⟩,
      ⟨.new, (.q (.ld .leaf)), [.t 7], none⟩,
      ⟨.var 3, (.q (.un .not)), [.t 8], none⟩])
    (.cond (.t 3) (.reg [⟨.new, (.q .mv), [.t 0], none⟩,
      ⟨.new, (.q .mv), [.t 0], none⟩,
      ⟨.new, (.call 42), [], none⟩,
      ⟨.new, (.q .nilc), [.t 5], none⟩,
      ⟨.new, (.q (.fa [(.arr 8 .leaf), .leaf, .leaf, .leaf] 0)), [.t 8], none⟩,
      ⟨.none, (.e (.store (.arr 8 .leaf))), [.t 9, .t 7], none⟩,
      ⟨.new, (.q .nilc), [.t 6], none⟩,
      ⟨.new, (.q (.fa [(.arr 8 .leaf), .leaf, .leaf, .leaf] 3)), [.t 10], none⟩,
      ⟨.none, (.e (.store .leaf)), [.t 11, .c (.bool true)], none⟩])
    .skip))
    (.seq (.reg [⟨.new, (.q .mv), [.t 0], none⟩,
      ⟨.new, (.q .nilc), [.t 5], none⟩,
      ⟨.new, (.q (.fa [(.arr 8 .leaf), .leaf, .leaf, .leaf] 2)), [.t 6], none⟩,
      ⟨.new, (.q (.ld .leaf)), [.t 7], none⟩,
      ⟨.new, (.q .mv), [.t 1], none⟩,
      ⟨.new, (.q .lenS), [.t 9], none⟩,
      ⟨.new, (.q (.cv .u64)), [.t 10], none⟩,
      ⟨.new, (.q (.bin .add)), [.t 8, .t 11], none⟩,
      ⟨.new, (.q .nilc), [.t 5], none⟩,
      ⟨.new, (.q (.fa [(.arr 8 .leaf), .leaf, .leaf, .leaf] 2)), [.t 13], none⟩,
      ⟨.none, (.e (.store .leaf)), [.t 14, .t 12], none⟩])
    (.seq (.reg [⟨.new, (.q .mv), [.t 0], none⟩,
      ⟨.new, (.q .nilc), [.t 5], none⟩,
      ⟨.new, (.q (.fa [(.arr 8 .leaf), .leaf, .leaf, .leaf] 1)), [.t 6], none⟩,
      ⟨.new, (.q (.ld .leaf)), [.t 7], none⟩,
      ⟨.new, (.q .mv), [.t 1], none⟩,
      ⟨.new, (.q (.bin .add)), [.t 8, .t 9], none⟩,
      ⟨.var 1, (.q .mv), [.t 10], none⟩])
    (.seq (.block 0 (.loop (.seq (.seq (.reg [⟨.new, (.q .mv), [.t 1], none⟩,
      ⟨.new, (.q .lenS), [.t 5], none⟩,
      ⟨.var 4, (.q (.bin .geq)), [.t 6, .c (.int 64)], none⟩])
    (.cond (.t 4) .skip
    (.exit 0)))
    (.block 1 (.seq (.draw [⟨.new, (.q .mv), [.t 0], none⟩,
      ⟨.new, (.q .mv), [.t 0], none⟩,
      ⟨.new, (.q .nilc), [.t 6], none⟩,
      ⟨.new, (.q (.fa [(.arr 8 .leaf), .leaf, .leaf, .leaf] 0)), [.t 7], none⟩,
      ⟨.new, (.q (.ld (.arr 8 .leaf))), [.t 8], none⟩,
      ⟨.new, (.q .mv), [.t 1], none⟩,
      ⟨.new, (.q (.slS false true)), [.t 10, .c (.int 64)], none⟩,
      ⟨.new, (.call 43), [.t 9, .t 11], none⟩,
      ⟨.new, (.q .nilc), [.t 5], none⟩,
      ⟨.new, (.q (.fa [(.arr 8 .leaf), .leaf, .leaf, .leaf] 0)), [.t 13], none⟩,
      ⟨.none, (.e (.store (.arr 8 .leaf))), [.t 14, .t 12], none⟩])
    (.reg [⟨.new, (.q .mv), [.t 1], none⟩,
      ⟨.new, (.q (.slS true false)), [.t 5, .c (.int 64)], none⟩,
      ⟨.var 1, (.q .mv), [.t 6], none⟩]))))))
    (.reg [⟨.new, (.q .mv), [.t 0], none⟩,
      ⟨.new, (.q .mv), [.t 1], none⟩,
      ⟨.new, (.q .nilc), [.t 5], none⟩,
      ⟨.new, (.q (.fa [(.arr 8 .leaf), .leaf, .leaf, .leaf] 1)), [.t 7], none⟩,
      ⟨.none, (.e (.store .leaf)), [.t 8, .t 6], none⟩])))))),
    []⟩

/-- (*trefoil/sha.Sums).Sum (0:x, 2:, 3:h, 4:b, 5:end, 6:n, 7:i, 8:i, 10:, 20:, 41:, 47:, 48:, 65:) -/
def s38 : FnS := ⟨78, [0, 2, 3, 4, 5, 6, 7, 8, 10, 20, 41, 47, 48, 65],
    (.seq (.reg [⟨.var 1, (.e (.alloc 26 (.arr 32 .leaf) (.agg [(.u8 0), (.u8 0), (.u8 0), (.u8 0), (.u8 0), (.u8 0), (.u8 0), (.u8 0), (.u8 0), (.u8 0), (.u8 0), (.u8 0), (.u8 0), (.u8 0), (.u8 0), (.u8 0), (.u8 0), (.u8 0), (.u8 0), (.u8 0), (.u8 0), (.u8 0), (.u8 0), (.u8 0), (.u8 0), (.u8 0), (.u8 0), (.u8 0), (.u8 0), (.u8 0), (.u8 0), (.u8 0)]))), [], none⟩])
    (.seq (.seq (.reg [⟨.new, (.q .mv), [.t 0], none⟩,
      ⟨.var 8, (.q (.eqP false)), [.t 14, .c .nilp], none⟩])
    (.cond (.t 8) (.seq (.reg [⟨.new, (.e (.bld (.arr 32 .leaf) (.agg [(.u8 0), (.u8 0), (.u8 0), (.u8 0), (.u8 0), (.u8 0), (.u8 0), (.u8 0), (.u8 0), (.u8 0), (.u8 0), (.u8 0), (.u8 0), (.u8 0), (.u8 0), (.u8 0), (.u8 0), (.u8 0), (.u8 0), (.u8 0), (.u8 0), (.u8 0), (.u8 0), (.u8 0), (.u8 0), (.u8 0), (.u8 0), (.u8 0), (.u8 0), (.u8 0), (.u8 0), (.u8 0)]) [])), [], none⟩,
      ⟨.none, (.e (.store (.arr 32 .leaf))), [.t 1, .t 14], none⟩])
    .ret)
    .skip))
    (.seq (.reg [⟨.new, (.q .mv), [.t 0], none⟩,
      ⟨.new, (.q .nilc), [.t 14], none⟩,
      ⟨.new, (.q (.fa [(.arr 8 .leaf), .leaf, .leaf, .leaf] 0)), [.t 15], none⟩,
      ⟨.new, (.q (.ld (.arr 8 .leaf))), [.t 16], none⟩,
      ⟨.var 2, (.e (.alloc 77 (.arr 8 .leaf) (.agg [(.u32 0), (.u32 0), (.u32 0), (.u32 0), (.u32 0), (.u32 0), (.u32 0), (.u32 0)]))), [], none⟩,
      ⟨.none, (.e (.store (.arr 8 .leaf))), [.t 2, .t 17], none⟩])
    (.seq (.seq (.reg [⟨.new, (.q .mv), [.t 0], none⟩,
      ⟨.new, (.q .nilc), [.t 14], none⟩,
      ⟨.new, (.q (.fa [(.arr 8 .leaf), .leaf, .leaf, .leaf] 3)), [.t 15], none⟩,
      ⟨.new, (.q (.ld .leaf)), [.t 16], none⟩,
      ⟨.var 9, (.q (.un .not)), [.t 17], none⟩])
    (.cond (.t 9) (.reg [⟨.new, (.call 42), [], none⟩,
      ⟨.none, (.e (.store (.arr 8 .leaf))), [.t 2, .t 14], none⟩])
    .skip))
    (.seq (.reg [⟨.new, (.e (.mksl 5 .leaf 1 (.u8 0))), [.c (.int 128), .c (.int 128)], none⟩,
      ⟨.var 3, (.q .mv), [.t 14], none⟩])
    (.seq (.reg [⟨.new, (.q .mv), [.t 3], none⟩,
      ⟨.new, (.q .mv), [.t 0], none⟩,
      ⟨.new, (.q .nilc), [.t 15], none⟩,
      ⟨.new, (.q (.fa [(.arr 8 .leaf), .leaf, .leaf, .leaf] 1)), [.t 16], none⟩,
      ⟨.new, (.q (.ld .leaf)), [.t 17], none⟩,
      ⟨.new, (.e .cpyS), [.t 14, .t 18], none⟩])
    (.seq (.reg [⟨.new, (.q .mv), [.t 3], none⟩,
      ⟨.new, (.q .mv), [.t 0], none⟩,
      ⟨.new, (.q .nilc), [.t 15], none⟩,
      ⟨.new, (.q (.fa [(.arr 8 .leaf), .leaf, .leaf, .leaf] 1)), [.t 16], none⟩,
      ⟨.new, (.q (.ld .leaf)), [.t 17], none⟩,
      ⟨.new, (.q .lenS), [.t 18], none⟩,
      ⟨.new, (.q (.iaS .leaf)), [.t 14, .t 19], none⟩,
      ⟨.none, (.e (.store .leaf)), [.t 20, .c (.u8 128)], none⟩])
    (.seq (.reg [⟨.var 4, (.q .mv), [.c (.int 64)], none⟩])
    (.seq (.seq (.reg [⟨.new, (.q .mv), [.t 0], none⟩,
      ⟨.new, (.q .nilc), [.t 14], none⟩,
      ⟨.new, (.q (.fa [(.arr 8 .leaf), .leaf, .leaf, .leaf] 1)), [.t 15], none⟩,
      ⟨.new, (.q (.ld .leaf)), [.t 16], none⟩,
      ⟨.new, (.q .lenS), [.t 17], none⟩,
      ⟨.var 10, (.q (.bin .geq)), [.t 18, .c (.int 56)], none⟩])
    (.cond (.t 10) (.reg [⟨.var 4, (.q .mv), [.c (.int 128)], none⟩])
    .skip))
    (.seq (.reg [⟨.new, (.q .mv), [.t 0], none⟩,
      ⟨.new, (.q .nilc), [.t 14], none⟩,
      ⟨.new, (.q (.fa [(.arr 8 .leaf), .leaf, .leaf, .leaf] 2)), [.t 15], none⟩,
      ⟨.new, (.q (.ld .leaf)), [.t 16], none⟩,
      ⟨.new, (.q (.bin .mul)), [.t 17, .c (.u64 8)], none⟩,
      ⟨.var 5, (.q .mv), [.t 18], none⟩])
    (.seq (.seq (.reg [⟨.var 11, (.q .mv), [.c (.int 0)], none⟩])
    (.block 0 (.loop (.seq (.reg [⟨.var 12, (.q (.bin .lss)), [.t 11, .c (.int 8)], none⟩])
    (.seq (.cond (.t 12) .skip
    (.exit 0))
    (.seq (.block 1 (.seq (.reg [⟨.new, (.q .mv), [.t 11], none⟩,
      ⟨.var 6, (.q .mv), [.t 14], none⟩])
    (.reg [⟨.new, (.q .mv), [.t 3], none⟩,
      ⟨.new, (.q .mv), [.t 4], none⟩,
      ⟨.new, (.q (.bin .sub)), [.t 15, .c (.int 1)], none⟩,
      ⟨.new, (.q .mv), [.t 6], none⟩,
      ⟨.new, (.q (.bin .sub)), [.t 16, .t 17], none⟩,
      ⟨.new, (.q .mv), [.t 5], none⟩,
      ⟨.new, (.q .mv), [.t 6], none⟩,
      ⟨.new, (.q (.bin .mul)), [.c (.int 8), .t 20], none⟩,
      ⟨.new, (.q (.cv .u64)), [.t 21], none⟩,
      ⟨.new, (.q (.bin .shr)), [.t 19, .t 22], none⟩,
      ⟨.new, (.q (.cv .u8)), [.t 23], none⟩,
      ⟨.new, (.q (.iaS .leaf)), [.t 14, .t 18], none⟩,
      ⟨.none, (.e (.store .leaf)), [.t 25, .t 24], none⟩])))
    (.reg [⟨.new, (.q (.bin .add)), [.t 11, .c (.int 1)], none⟩,
      ⟨.var 11, (.q .mv), [.t 14], none⟩])))))))
    (.seq (.seq (.reg [⟨.var 7, (.q .mv), [.c (.int 0)], none⟩])
    (.block 2 (.loop (.seq (.seq (.reg [⟨.new, (.q .mv), [.t 7], none⟩,
      ⟨.new, (.q .mv), [.t 4], none⟩,
      ⟨.var 13, (.q (.bin .lss)), [.t 14, .t 15], none⟩])
    (.cond (.t 13) .skip
    (.exit 2)))
    (.seq (.block 3 (.draw [⟨.new, (.q (.ld (.arr 8 .leaf))), [.t 2], none⟩,
      ⟨.new, (.q .mv), [.t 3], none⟩,
      ⟨.new, (.q .mv), [.t 7], none⟩,
      ⟨.new, (.q .mv), [.t 7], none⟩,
      ⟨.new, (.q (.bin .add)), [.t 17, .c (.int 64)], none⟩,
      ⟨.new, (.q (.slV .leaf true true)), [.t 15, .t 16, .t 18], none⟩,
      ⟨.new, (.q .b2s), [.t 19], none⟩,
      ⟨.new, (.call 43), [.t 14, .t 20], none⟩,
      ⟨.none, (.e (.store (.arr 8 .leaf))), [.t 2, .t 21], none⟩]))
    (.reg [⟨.new, (.q .mv), [.t 7], none⟩,
      ⟨.new, (.q (.bin .add)), [.t 14, .c (.int 64)], none⟩,
      ⟨.var 7, (.q .mv), [.t 15], none⟩]))))))
    (.seq (.reg [⟨.new, (.q (.ld (.arr 8 .leaf))), [.t 2], none⟩,
      ⟨.new, (.call 44), [.t 14], none⟩,
      ⟨.none, (.e (.store (.arr 32 .leaf))), [.t 1, .t 15], none⟩])
    .ret))))))))))))),
    [.cell 1 (.arr 32 .leaf)]⟩

/-- trefoil/sha.begin (0:) -/
def s42 : FnS := ⟨2, [0],
    (.seq (.reg [⟨.var 0, (.e (.alloc 77 (.arr 8 .leaf) (.agg [(.u32 0), (.u32 0), (.u32 0), (.u32 0), (.u32 0), (.u32 0), (.u32 0), (.u32 0)]))), [], none⟩])
    (.seq (.reg [⟨.new, (.e (.bld (.arr 8 .leaf) (.agg [(.u32 0), (.u32 0), (.u32 0), (.u32 0), (.u32 0), (.u32 0), (.u32 0), (.u32 0)]) [0, 1, 2, 3, 4, 5, 6, 7])), [.c (.u32 1779033703), .c (.u32 3144134277), .c (.u32 1013904242), .c (.u32 2773480762), .c (.u32 1359893119), .c (.u32 2600822924), .c (.u32 528734635), .c (.u32 1541459225)], none⟩,
      ⟨.none, (.e (.store (.arr 8 .leaf))), [.t 0, .t 1], none⟩])
    .ret)),
    [.cell 0 (.arr 8 .leaf)]⟩

/-- (trefoil/sha.state).block (0:h, 1:s, 2:h, 4:, 5:w, 6:i, 7:i, 8:a, 9:b, 10:x, 11:y, 12:v, 13:i, 14:a, 15:e, 16:x, 17:t, 18:y, 19:u, 20:i, 21:, 22:, 36:, 79:, 80:, 161:, 162:) -/
def s43 : FnS := ⟨174, [0, 1, 2, 4, 5, 6, 7, 8, 9, 10, 11, 12, 13, 14, 15, 16, 17, 18, 19, 20, 21, 22, 36, 79, 80, 161, 162],
    (.seq (.reg [⟨.var 2, (.e (.box 77 (.arr 8 .leaf))), [.t 0], none⟩,
      ⟨.var 3, (.e (.alloc 77 (.arr 8 .leaf) (.agg [(.u32 0), (.u32 0), (.u32 0), (.u32 0), (.u32 0), (.u32 0), (.u32 0), (.u32 0)]))), [], none⟩])
    (.seq (.reg [⟨.var 4, (.e (.alloc 91 (.arr 64 .leaf) (.agg [(.u32 0), (.u32 0), (.u32 0), (.u32 0), (.u32 0), (.u32 0), (.u32 0), (.u32 0), (.u32 0), (.u32 0), (.u32 0), (.u32 0), (.u32 0), (.u32 0), (.u32 0), (.u32 0), (.u32 0), (.u32 0), (.u32 0), (.u32 0), (.u32 0), (.u32 0), (.u32 0), (.u32 0), (.u32 0), (.u32 0), (.u32 0), (.u32 0), (.u32 0), (.u32 0), (.u32 0), (.u32 0), (.u32 0), (.u32 0), (.u32 0), (.u32 0), (.u32 0), (.u32 0), (.u32 0), (.u32 0), (.u32 0), (.u32 0), (.u32 0), (.u32 0), (.u32 0), (.u32 0), (.u32 0), (.u32 0), (.u32 0), (.u32 0), (.u32 0), (.u32 0), (.u32 0), (.u32 0), (.u32 0), (.u32 0), (.u32 0), (.u32 0), (.u32 0), (.u32 0), (.u32 0), (.u32 0), (.u32 0), (.u32 0)]))), [], none⟩])
    (.seq (.seq (.reg [⟨.var 20, (.q .mv), [.c (.int 0)], none⟩])
    (.block 0 (.loop (.seq (.reg [⟨.var 21, (.q (.bin .lss)), [.t 20, .c (.int 16)], none⟩])
    (.seq (.cond (.t 21) .skip
    (.exit 0))
    (.seq (.block 1 (.seq (.reg [⟨.new, (.q .mv), [.t 20], none⟩,
      ⟨.var 5, (.q .mv), [.t 27], none⟩])
    (.reg [⟨.new, (.q .mv), [.t 5], none⟩,
      ⟨.new, (.q .mv), [.t 1], none⟩,
      ⟨.new, (.q .mv), [.t 5], none⟩,
      ⟨.new, (.q (.bin .mul)), [.c (.int 4), .t 29], none⟩,
      ⟨.new, (.q .mv), [.t 5], none⟩,
      ⟨.new, (.q (.bin .mul)), [.c (.int 4), .t 31], none⟩,
      ⟨.new, (.q (.bin .add)), [.t 32, .c (.int 4)], none⟩,
      ⟨.new, (.q (.slS true true)), [.t 28, .t 30, .t 33], none⟩,
      ⟨.new, (.call 48), [.t 34], none⟩,
      ⟨.new, (.q (.iaA 64 .leaf)), [.t 4, .t 27], none⟩,
      ⟨.none, (.e (.store .leaf)), [.t 36, .t 35], none⟩])))
    (.reg [⟨.new, (.q (.bin .add)), [.t 20, .c (.int 1)], none⟩,
      ⟨.var 20, (.q .mv), [.t 27], none⟩])))))))
    (.seq (.seq (.reg [⟨.var 6, (.q .mv), [.c (.int 16)], none⟩])
    (.block 2 (.loop (.seq (.seq (.reg [⟨.new, (.q .mv), [.t 6], none⟩,
      ⟨.var 22, (.q (.bin .lss)), [.t 27, .c (.int 64)], none⟩])
    (.cond (.t 22) .skip
    (.exit 2)))
    (.seq (.block 3 (.seq (.draw [⟨.new, (.q .mv), [.t 6], none⟩,
      ⟨.new, (.q (.bin .sub)), [.t 27, .c (.int 15)], none⟩,
      ⟨.new, (.q (.iaA 64 .leaf)), [.t 4, .t 28], none⟩,
      ⟨.new, (.q (.ld .leaf)), [.t 29], none⟩,
      ⟨.new, (.q .mv), [.t 6], none⟩,
      ⟨.new, (.q (.bin .sub)), [.t 31, .c (.int 2)], none⟩,
      ⟨.new, (.q (.iaA 64 .leaf)), [.t 4, .t 32], none⟩,
      ⟨.new, (.q (.ld .leaf)), [.t 33], none⟩,
      ⟨.var 7, (.q .mv), [.t 30], none⟩,
      ⟨.var 8, (.q .mv), [.t 34], none⟩])
    (.seq (.reg [⟨.new, (.q .mv), [.t 7], none⟩,
      ⟨.new, (.call 49), [.t 27, .c (.int (-7))], none⟩,
      ⟨.new, (.q .mv), [.t 7], none⟩,
      ⟨.new, (.call 49), [.t 29, .c (.int (-18))], none⟩,
      ⟨.new, (.q (.bin .xor)), [.t 28, .t 30], none⟩,
      ⟨.new, (.q .mv), [.t 7], none⟩,
      ⟨.new, (.q (.bin .shr)), [.t 32, .c (.u64 3)], none⟩,
      ⟨.new, (.q (.bin .xor)), [.t 31, .t 33], none⟩,
      ⟨.var 9, (.q .mv), [.t 34], none⟩])
    (.seq (.reg [⟨.new, (.q .mv), [.t 8], none⟩,
      ⟨.new, (.call 49), [.t 27, .c (.int (-17))], none⟩,
      ⟨.new, (.q .mv), [.t 8], none⟩,
      ⟨.new, (.call 49), [.t 29, .c (.int (-19))], none⟩,
      ⟨.new, (.q (.bin .xor)), [.t 28, .t 30], none⟩,
      ⟨.new, (.q .mv), [.t 8], none⟩,
      ⟨.new, (.q (.bin .shr)), [.t 32, .c (.u64 10)], none⟩,
      ⟨.new, (.q (.bin .xor)), [.t 31, .t 33], none⟩,
      ⟨.var 10, (.q .mv), [.t 34], none⟩])
    (.draw [⟨.new, (.q .mv), [.t 6], none⟩,
      ⟨.new, (.q .mv), [.t 6], none⟩,
      ⟨.new, (.q (.bin .sub)), [.t 28, .c (.int 16)], none⟩,
      ⟨.new, (.q (.iaA 64 .leaf)), [.t 4, .t 29], none⟩,
      ⟨.new, (.q (.ld .leaf)), [.t 30], none⟩,
      ⟨.new, (.q .mv), [.t 9], none⟩,
      ⟨.new, (.q (.bin .add)), [.t 31, .t 32], none⟩,
      ⟨.new, (.q .mv), [.t 6], none⟩,
      ⟨.new, (.q (.bin .sub)), [.t 34, .c (.int 7)], none⟩,
      ⟨.new, (.q (.iaA 64 .leaf)), [.t 4, .t 35], none⟩,
      ⟨.new, (.q (.ld .leaf)), [.t 36], none⟩,
      ⟨.new, (.q (.bin .add)), [.t 33, .t 37], none⟩,
      ⟨.new, (.q .mv), [.t 10], none⟩,
      ⟨.new, (.q (.bin .add)), [.t 38, .t 39], none⟩,
      ⟨.new, (.q (.iaA 64 .leaf)), [.t 4, .t 27], none⟩,
      ⟨.none, (.e (.store .leaf)), [.t 41, .t 40], none⟩])))))
    (.reg [⟨.new, (.q .mv), [.t 6], none⟩,
      ⟨.new, (.q (.bin .add)), [.t 27, .c (.int 1)], none⟩,
      ⟨.var 6, (.q .mv), [.t 28], none⟩]))))))
    (.seq (.reg [⟨.new, (.q (.ld (.arr 8 .leaf))), [.t 2], none⟩,
      ⟨.var 11, (.e (.alloc 77 (.arr 8 .leaf) (.agg [(.u32 0), (.u32 0), (.u32 0), (.u32 0), (.u32 0), (.u32 0), (.u32 0), (.u32 0)]))), [], none⟩,
      ⟨.none, (.e (.store (.arr 8 .leaf))), [.t 11, .t 27], none⟩])
    (.seq (.seq (.reg [⟨.var 23, (.q .mv), [.c (.int 0)], none⟩])
    (.block 4 (.loop (.seq (.reg [⟨.var 24, (.q (.bin .lss)), [.t 23, .c (.int 64)], none⟩])
    (.seq (.cond (.t 24) .skip
    (.exit 4))
    (.seq (.block 5 (.seq (.reg [⟨.new, (.q .mv), [.t 23], none⟩,
      ⟨.var 12, (.q .mv), [.t 27], none⟩])
    (.seq (.draw [⟨.new, (.q (.iaA 8 .leaf)), [.t 11, .c (.int 0)], none⟩,
      ⟨.new, (.q (.ld .leaf)), [.t 27], none⟩,
      ⟨.new, (.q (.iaA 8 .leaf)), [.t 11, .c (.int 4)], none⟩,
      ⟨.new, (.q (.ld .leaf)), [.t 29], none⟩,
      ⟨.var 13, (.q .mv), [.t 28], none⟩,
      ⟨.var 14, (.q .mv), [.t 30], none⟩])
    (.seq (.reg [⟨.new, (.q .mv), [.t 14], none⟩,
      ⟨.new, (.call 49), [.t 27, .c (.int (-6))], none⟩,
      ⟨.new, (.q .mv), [.t 14], none⟩,
      ⟨.new, (.call 49), [.t 29, .c (.int (-11))], none⟩,
      ⟨.new, (.q (.bin .xor)), [.t 28, .t 30], none⟩,
      ⟨.new, (.q .mv), [.t 14], none⟩,
      ⟨.new, (.call 49), [.t 32, .c (.int (-25))], none⟩,
      ⟨.new, (.q (.bin .xor)), [.t 31, .t 33], none⟩,
      ⟨.var 15, (.q .mv), [.t 34], none⟩])
    (.seq (.draw [⟨.new, (.q (.iaA 8 .leaf)), [.t 11, .c (.int 7)], none⟩,
      ⟨.new, (.q (.ld .leaf)), [.t 27], none⟩,
      ⟨.new, (.q .mv), [.t 15], none⟩,
      ⟨.new, (.q (.bin .add)), [.t 28, .t 29], none⟩,
      ⟨.new, (.q .mv), [.t 14], none⟩,
      ⟨.new, (.q (.iaA 8 .leaf)), [.t 11, .c (.int 5)], none⟩,
      ⟨.new, (.q (.ld .leaf)), [.t 32], none⟩,
      ⟨.new, (.q (.bin .and)), [.t 31, .t 33], none⟩,
      ⟨.new, (.q .mv), [.t 14], none⟩,
      ⟨.new, (.q (.un .xor)), [.t 35], none⟩,
      ⟨.new, (.q (.iaA 8 .leaf)), [.t 11, .c (.int 6)], none⟩,
      ⟨.new, (.q (.ld .leaf)), [.t 37], none⟩,
      ⟨.new, (.q (.bin .and)), [.t 36, .t 38], none⟩,
      ⟨.new, (.q (.bin .xor)), [.t 34, .t 39], none⟩,
      ⟨.new, (.q (.bin .add)), [.t 30, .t 40], none⟩,
      ⟨.new, (.q .mv), [.t 12], none⟩,
      ⟨.new, (.q (.iaA 64 .leaf)), [.c (.rp (.arr 64 .leaf) (.agg (rnds.map .u32))), .t 42], none⟩,
      ⟨.new, (.q (.ld .leaf)), [.t 43], none⟩,
      ⟨.new, (.q (.bin .add)), [.t 41, .t 44], none⟩,
      ⟨.new, (.q .mv), [.t 12], none⟩,
      ⟨.new, (.q (.iaA 64 .leaf)), [.t 4, .t 46], none⟩,
      ⟨.new, (.q (.ld .leaf)), [.t 47], none⟩,
      ⟨.new, (.q (.bin .add)), [.t 45, .t 48], none⟩,
      ⟨.var 16, (.q .mv), [.t 49], none⟩])
    (.seq (.reg [⟨.new, (.q .mv), [.t 13], none⟩,
      ⟨.new, (.call 49), [.t 27, .c (.int (-2))], none⟩,
      ⟨.new, (.q .mv), [.t 13], none⟩,
      ⟨.new, (.call 49), [.t 29, .c (.int (-13))], none⟩,
      ⟨.new, (.q (.bin .xor)), [.t 28, .t 30], none⟩,
      ⟨.new, (.q .mv), [.t 13], none⟩,
      ⟨.new, (.call 49), [.t 32, .c (.int (-22))], none⟩,
      ⟨.new, (.q (.bin .xor)), [.t 31, .t 33], none⟩,
      ⟨.var 17, (.q .mv), [.t 34], none⟩])
    (.seq (.reg [⟨.new, (.q .mv), [.t 17], none⟩,
      ⟨.new, (.q .mv), [.t 13], none⟩,
      ⟨.new, (.q (.iaA 8 .leaf)), [.t 11, .c (.int 1)], none⟩,
      ⟨.new, (.q (.ld .leaf)), [.t 29], none⟩,
      ⟨.new, (.q (.bin .and)), [.t 28, .t 30], none⟩,
      ⟨.new, (.q .mv), [.t 13], none⟩,
      ⟨.new, (.q (.iaA 8 .leaf)), [.t 11, .c (.int 2)], none⟩,
      ⟨.new, (.q (.ld .leaf)), [.t 33], none⟩,
      ⟨.new, (.q (.bin .and)), [.t 32, .t 34], none⟩,
      ⟨.new, (.q (.bin .xor)), [.t 31, .t 35], none⟩,
      ⟨.new, (.q (.iaA 8 .leaf)), [.t 11, .c (.int 1)], none⟩,
      ⟨.new, (.q (.ld .leaf)), [.t 37], none⟩,
      ⟨.new, (.q (.iaA 8 .leaf)), [.t 11, .c (.int 2)], none⟩,
      ⟨.new, (.q (.ld .leaf)), [.t 39], none⟩,
      ⟨.new, (.q (.bin .and)), [.t 38, .t 40], none⟩,
      ⟨.new, (.q (.bin .xor)), [.t 36, .t 41], none⟩,
      ⟨.new, (.q (.bin .add)), [.t 27, .t 42], none⟩,
      ⟨.var 18, (.q .mv), [.t 43], none⟩])
    (.reg [⟨.new, (.q .mv), [.t 16], none⟩,
      ⟨.new, (.q .mv), [.t 18], none⟩,
      ⟨.new, (.q (.bin .add)), [.t 27, .t 28], none⟩,
      ⟨.new, (.q .mv), [.t 13], none⟩,
      ⟨.new, (.q (.iaA 8 .leaf)), [.t 11, .c (.int 1)], none⟩,
      ⟨.new, (.q (.ld .leaf)), [.t 31], none⟩,
      ⟨.new, (.q (.iaA 8 .leaf)), [.t 11, .c (.int 2)], none⟩,
      ⟨.new, (.q (.ld .leaf)), [.t 33], none⟩,
      ⟨.new, (.q (.iaA 8 .leaf)), [.t 11, .c (.int 3)], none⟩,
      ⟨.new, (.q (.ld .leaf)), [.t 35], none⟩,
      ⟨.new, (.q .mv), [.t 16], none⟩,
      ⟨.new, (.q (.bin .add)), [.t 36, .t 37], none⟩,
      ⟨.new, (.q .mv), [.t 14], none⟩,
      ⟨.new, (.q (.iaA 8 .leaf)), [.t 11, .c (.int 5)], none⟩,
      ⟨.new, (.q (.ld .leaf)), [.t 40], none⟩,
      ⟨.new, (.q (.iaA 8 .leaf)), [.t 11, .c (.int 6)], none⟩,
      ⟨.new, (.q (.ld .leaf)), [.t 42], none⟩,
      ⟨.new, (.e (.bld (.arr 8 .leaf) (.agg [(.u32 0), (.u32 0), (.u32 0), (.u32 0), (.u32 0), (.u32 0), (.u32 0), (.u32 0)]) [0, 1, 2, 3, 4, 5, 6, 7])), [.t 29, .t 30, .t 32, .t 34, .t 38, .t 39, .t 41, .t 43], none⟩,
      ⟨.none, (.e (.store (.arr 8 .leaf))), [.t 11, .t 44], none⟩]))))))))
    (.reg [⟨.new, (.q (.bin .add)), [.t 23, .c (.int 1)], none⟩,
      ⟨.var 23, (.q .mv), [.t 27], none⟩])))))))
    (.seq (.seq (.reg [⟨.var 25, (.q .mv), [.c (.int 0)], none⟩])
    (.block 6 (.loop (.seq (.reg [⟨.var 26, (.q (.bin .lss)), [.t 25, .c (.int 8)], none⟩])
    (.seq (.cond (.t 26) .skip
    (.exit 6))
    (.seq (.block 7 (.seq (.reg [⟨.new, (.q .mv), [.t 25], none⟩,
      ⟨.var 19, (.q .mv), [.t 27], none⟩])
    (.draw [⟨.new, (.q .mv), [.t 19], none⟩,
      ⟨.new, (.q (.iaA 8 .leaf)), [.t 11, .t 27], none⟩,
      ⟨.new, (.q (.ld .leaf)), [.t 28], none⟩,
      ⟨.new, (.q .mv), [.t 19], none⟩,
      ⟨.new, (.q (.iaA 8 .leaf)), [.t 2, .t 30], none⟩,
      ⟨.new, (.q (.ld .leaf)), [.t 31], none⟩,
      ⟨.new, (.q (.bin .add)), [.t 29, .t 32], none⟩,
      ⟨.new, (.q (.iaA 8 .leaf)), [.t 11, .t 27], none⟩,
      ⟨.none, (.e (.store .leaf)), [.t 34, .t 33], none⟩])))
    (.reg [⟨.new, (.q (.bin .add)), [.t 25, .c (.int 1)], none⟩,
      ⟨.var 25, (.q .mv), [.t 27], none⟩])))))))
    (.seq (.reg [⟨.new, (.q (.ld (.arr 8 .leaf))), [.t 11], none⟩,
      ⟨.none, (.e (.store (.arr 8 .leaf))), [.t 3, .t 27], none⟩])
    .ret)))))))),
    [.cell 3 (.arr 8 .leaf)]⟩

/-- (trefoil/sha.state).bytes (0:h, 1:h, 2:, 3:d, 4:i, 5:w, 6:, 7:, 8:) -/
def s44 : FnS := ⟨39, [0, 1, 2, 3, 4, 5, 6, 7, 8],
    (.seq (.reg [⟨.var 1, (.e (.box 77 (.arr 8 .leaf))), [.t 0], none⟩,
      ⟨.var 2, (.e (.alloc 26 (.arr 32 .leaf) (.agg [(.u8 0), (.u8 0), (.u8 0), (.u8 0), (.u8 0), (.u8 0), (.u8 0), (.u8 0), (.u8 0), (.u8 0), (.u8 0), (.u8 0), (.u8 0), (.u8 0), (.u8 0), (.u8 0), (.u8 0), (.u8 0), (.u8 0), (.u8 0), (.u8 0), (.u8 0), (.u8 0), (.u8 0), (.u8 0), (.u8 0), (.u8 0), (.u8 0), (.u8 0), (.u8 0), (.u8 0), (.u8 0)]))), [], none⟩])
    (.seq (.reg [⟨.var 3, (.e (.alloc 26 (.arr 32 .leaf) (.agg [(.u8 0), (.u8 0), (.u8 0), (.u8 0), (.u8 0), (.u8 0), (.u8 0), (.u8 0), (.u8 0), (.u8 0), (.u8 0), (.u8 0), (.u8 0), (.u8 0), (.u8 0), (.u8 0), (.u8 0), (.u8 0), (.u8 0), (.u8 0), (.u8 0), (.u8 0), (.u8 0), (.u8 0), (.u8 0), (.u8 0), (.u8 0), (.u8 0), (.u8 0), (.u8 0), (.u8 0), (.u8 0)]))), [], none⟩])
    (.seq (.seq (.reg [⟨.var 6, (.q (.ld (.arr 8 .leaf))), [.t 1], none⟩,
      ⟨.var 7, (.q .mv), [.c (.int 0)], none⟩])
    (.block 0 (.loop (.seq (.reg [⟨.var 8, (.q (.bin .lss)), [.t 7, .c (.int 8)], none⟩])
    (.seq (.cond (.t 8) .skip
    (.exit 0))
    (.seq (.block 1 (.seq (.reg [⟨.new, (.q .mv), [.t 7], none⟩,
      ⟨.new, (.q (.idx 8 .leaf)), [.t 6, .t 7], none⟩,
      ⟨.var 4, (.q .mv), [.t 9], none⟩,
      ⟨.var 5, (.q .mv), [.t 10], none⟩])
    (.reg [⟨.new, (.q .mv), [.t 4], none⟩,
      ⟨.new, (.q (.bin .mul)), [.c (.int 4), .t 9], none⟩,
      ⟨.new, (.q .mv), [.t 4], none⟩,
      ⟨.new, (.q (.bin .mul)), [.c (.int 4), .t 11], none⟩,
      ⟨.new, (.q (.bin .add)), [.t 12, .c (.int 1)], none⟩,
      ⟨.new, (.q .mv), [.t 4], none⟩,
      ⟨.new, (.q (.bin .mul)), [.c (.int 4), .t 14], none⟩,
      ⟨.new, (.q (.bin .add)), [.t 15, .c (.int 2)], none⟩,
      ⟨.new, (.q .mv), [.t 4], none⟩,
      ⟨.new, (.q (.bin .mul)), [.c (.int 4), .t 17], none⟩,
      ⟨.new, (.q (.bin .add)), [.t 18, .c (.int 3)], none⟩,
      ⟨.new, (.q .mv), [.t 5], none⟩,
      ⟨.new, (.q (.bin .shr)), [.t 20, .c (.u64 24)], none⟩,
      ⟨.new, (.q (.cv .u8)), [.t 21], none⟩,
      ⟨.new, (.q .mv), [.t 5], none⟩,
      ⟨.new, (.q (.bin .shr)), [.t 23, .c (.u64 16)], none⟩,
      ⟨.new, (.q (.cv .u8)), [.t 24], none⟩,
      ⟨.new, (.q .mv), [.t 5], none⟩,
      ⟨.new, (.q (.bin .shr)), [.t 26, .c (.u64 8)], none⟩,
      ⟨.new, (.q (.cv .u8)), [.t 27], none⟩,
      ⟨.new, (.q .mv), [.t 5], none⟩,
      ⟨.new, (.q (.cv .u8)), [.t 29], none⟩,
      ⟨.new, (.q (.iaA 32 .leaf)), [.t 3, .t 10], none⟩,
      ⟨.none, (.e (.store .leaf)), [.t 31, .t 22], none⟩,
      ⟨.new, (.q (.iaA 32 .leaf)), [.t 3, .t 13], none⟩,
      ⟨.none, (.e (.store .leaf)), [.t 32, .t 25], none⟩,
      ⟨.new, (.q (.iaA 32 .leaf)), [.t 3, .t 16], none⟩,
      ⟨.none, (.e (.store .leaf)), [.t 33, .t 28], none⟩,
      ⟨.new, (.q (.iaA 32 .leaf)), [.t 3, .t 19], none⟩,
      ⟨.none, (.e (.store .leaf)), [.t 34, .t 30], none⟩])))
    (.reg [⟨.new, (.q (.bin .add)), [.t 7, .c (.int 1)], none⟩,
      ⟨.var 7, (.q .mv), [.t 9], none⟩])))))))
    (.seq (.reg [⟨.new, (.q (.ld (.arr 32 .leaf))), [.t 3], none⟩,
      ⟨.none, (.e (.store (.arr 32 .leaf))), [.t 2, .t 9], none⟩])
    .ret)))),
    [.cell 2 (.arr 32 .leaf)]⟩

/-- trefoil/sha.word (0:s, 2:, 3:w, 5:, 6:, 8:, 10:, 12:) -/
def s48 : FnS := ⟨38, [0, 2, 3, 5, 6, 8, 10, 12],
    (.seq (.reg [⟨.var 1, (.q .mv), [.c (.u32 0)], none⟩])
    (.seq (.reg [⟨.var 2, (.q .mv), [.c (.u32 0)], none⟩])
    (.seq (.seq (.reg [⟨.new, (.q .mv), [.t 0], none⟩,
      ⟨.var 3, (.q .lenS), [.t 8], none⟩])
    (.block 0 (.seq (.block 5 (.seq (.block 4 (.seq (.block 3 (.seq (.block 2 (.seq (.block 1 (.seq (.seq (.seq (.reg [⟨.new, (.q (.bin .eql)), [.t 3, .c (.int 3)], none⟩,
      ⟨.var 4, (.q .mv), [.t 8], none⟩])
    (.cond (.t 4) (.exit 2)
    .skip))
    (.seq (.seq (.reg [⟨.new, (.q (.bin .eql)), [.t 3, .c (.int 2)], none⟩,
      ⟨.var 5, (.q .mv), [.t 8], none⟩])
    (.cond (.t 5) (.exit 3)
    .skip))
    (.seq (.seq (.reg [⟨.new, (.q (.bin .eql)), [.t 3, .c (.int 1)], none⟩,
      ⟨.var 6, (.q .mv), [.t 8], none⟩])
    (.cond (.t 6) (.exit 4)
    .skip))
    (.seq (.reg [⟨.new, (.q (.bin .eql)), [.t 3, .c (.int 0)], none⟩,
      ⟨.var 7, (.q .mv), [.t 8], none⟩])
    (.cond (.t 7) (.exit 5)
    .skip)))))
    (.exit 1)))
    (.reg [⟨.new, (.q .mv), [.t 2], none⟩,
      ⟨.new, (.q .mv), [.t 0], none⟩,
      ⟨.new, (.q .idxS), [.t 9, .c (.int 3)], none⟩,
      ⟨.new, (.q (.cv .u32)), [.t 10], none⟩,
      ⟨.new, (.q (.bin .or)), [.t 8, .t 11], none⟩,
      ⟨.var 2, (.q .mv), [.t 12], none⟩])))
    (.reg [⟨.new, (.q .mv), [.t 2], none⟩,
      ⟨.new, (.q .mv), [.t 0], none⟩,
      ⟨.new, (.q .idxS), [.t 9, .c (.int 2)], none⟩,
      ⟨.new, (.q (.cv .u32)), [.t 10], none⟩,
      ⟨.new, (.q (.bin .shl)), [.t 11, .c (.u64 8)], none⟩,
      ⟨.new, (.q (.bin .or)), [.t 8, .t 12], none⟩,
      ⟨.var 2, (.q .mv), [.t 13], none⟩])))
    (.reg [⟨.new, (.q .mv), [.t 2], none⟩,
      ⟨.new, (.q .mv), [.t 0], none⟩,
      ⟨.new, (.q .idxS), [.t 9, .c (.int 1)], none⟩,
      ⟨.new, (.q (.cv .u32)), [.t 10], none⟩,
      ⟨.new, (.q (.bin .shl)), [.t 11, .c (.u64 16)], none⟩,
      ⟨.new, (.q (.bin .or)), [.t 8, .t 12], none⟩,
      ⟨.var 2, (.q .mv), [.t 13], none⟩])))
    (.seq (.reg [⟨.new, (.q .mv), [.t 2], none⟩,
      ⟨.new, (.q .mv), [.t 0], none⟩,
      ⟨.new, (.q .idxS), [.t 9, .c (.int 0)], none⟩,
      ⟨.new, (.q (.cv .u32)), [.t 10], none⟩,
      ⟨.new, (.q (.bin .shl)), [.t 11, .c (.u64 24)], none⟩,
      ⟨.new, (.q (.bin .or)), [.t 8, .t 12], none⟩,
      ⟨.var 2, (.q .mv), [.t 13], none⟩])
    (.exit 0))))
    (.exit 0))))
    (.seq (.reg [⟨.new, (.q .mv), [.t 2], none⟩,
      ⟨.var 1, (.q .mv), [.t 8], none⟩])
    .ret)))),
    [.t 1]⟩

/-- math/bits.RotateLeft32 (0:x, 1:k, 4:, 5:s) -/
def s49 : FnS := ⟨17, [0, 1, 4, 5],
    (.seq (.reg [⟨.var 2, (.q .mv), [.c (.u32 0)], none⟩])
    (.seq (.reg [⟨.new, (.q .mv), [.t 1], none⟩,
      ⟨.new, (.q (.cv .u64)), [.t 4], none⟩,
      ⟨.new, (.q (.bin .and)), [.t 5, .c (.u64 31)], none⟩,
      ⟨.var 3, (.q .mv), [.t 6], none⟩])
    (.seq (.reg [⟨.new, (.q .mv), [.t 0], none⟩,
      ⟨.new, (.q .mv), [.t 3], none⟩,
      ⟨.new, (.q (.bin .shl)), [.t 4, .t 5], none⟩,
      ⟨.new, (.q .mv), [.t 0], none⟩,
      ⟨.new, (.q .mv), [.t 3], none⟩,
      ⟨.new, (.q (.bin .sub)), [.c (.u64 32), .t 8], none⟩,
      ⟨.new, (.q (.bin .shr)), [.t 7, .t 9], none⟩,
      ⟨.new, (.q (.bin .or)), [.t 6, .t 10], none⟩,
      ⟨.var 2, (.q .mv), [.t 11], none⟩])
    .ret))),
    [.t 2]⟩

set_option maxRecDepth 100000
set_option linter.unusedSimpArgs false
set_option linter.unusedVariables false
theorem c37 : cF P G (drP P G) 37 2 s37.vm = some s37 := by kernel_rfl
theorem c38 : cF P G (drP P G) 38 1 s38.vm = some s38 := by kernel_rfl
theorem c42 : cF P G (drP P G) 42 0 s42.vm = some s42 := by kernel_rfl
theorem c43 : cF P G (drP P G) 43 2 s43.vm = some s43 := by kernel_rfl
theorem c44 : cF P G (drP P G) 44 1 s44.vm = some s44 := by kernel_rfl
theorem c48 : cF P G (drP P G) 48 1 s48.vm = some s48 := by kernel_rfl
theorem c49 : cF P G (drP P G) 49 2 s49.vm = some s49 := by kernel_rfl
/-- a state as Go has it -/
def stA (v : S8) : AV := .agg [.u32 v.a, .u32 v.b, .u32 v.c, .u32 v.d, .u32 v.e, .u32 v.f, .u32 v.g, .u32 v.h]
theorem f42 {K : AV → Heap → Prop} {H : Heap} (h : K (stA ini) H) : wpF P G 42 [] H K := by
  refine wpF_go c42 rfl 3 ?_
  intro ha hb
  simp only [s42]
  (refine gw0 ?_; try exact True.intro)
  exact h
theorem f49 {K : AV → Heap → Prop} {H : Heap} {x : BitVec 32} {n : Nat} {z : Int} (h1 : (BitVec.ofInt 64 z &&& 31).toNat = 32 - n) (h2 : ((32 : BitVec 64) - (BitVec.ofInt 64 z &&& 31)).toNat = n) (h : K (.u32 (ror x n)) H) : wpF P G 49 [.u32 x, .int z] H K := by
  refine wpF_go c49 rfl 3 ?_
  intro ha hb
  simp only [s49]
  (refine gw2 @h1 @h2 ?_; try exact True.intro)
  rw [BitVec.or_comm]
  exact h
theorem or4 (a b c d : BitVec 8) : (((0 : BitVec 32) ||| d.setWidth 32 ||| c.setWidth 32 <<< 8) ||| b.setWidth 32 <<< 16) ||| a.setWidth 32 <<< 24 = le4 d c b a := by
  unfold le4
  rw [show (0 : BitVec 32) ||| d.setWidth 32 = d.setWidth 32 from BitVec.zero_or]
theorem f48' {K : AV → Heap → Prop} {H : Heap} {a b c d : BitVec 8} (h : K (.u32 (le4 d c b a)) H) : wpF P G 48 [.str [a, b, c, d]] H K := by
  refine wpF_go c48 rfl 2 ?_
  intro ha hb
  simp only [s48]
  clear ha hb
  rw [← or4] at h
  simp (maxSteps := 2000000) (implicitDefEqProofs := false) only [↓vS_skip, ↓vS_reg, ↓vS_draw, ↓vS_seq, ↓wS_cond, ↓vS_block, ↓vS_exit, ↓vS_ret, ↓vI_nil, ↓vI_go, ↓wI_gd, ↓stepI_q, ↓stepI_e, ↓stepI_c, ↓stepI_v, ↓vD_nil, ↓vD_go, ↓wD_gd, ↓stepW_q, ↓stepW_e, ↓stepW_c, ↓stepW_v, ↓Kw_app, ↓KwD_app, ↓Kc_app, ↓Kp_app, ↓Kr_app, ↓Ks_n, ↓Ks_r, ↓Ks_x, ↓Kb_n, ↓Kb_r, ↓Kb_x, ↓Ku_n, ↓Ku_r, ↓Ku_x, ↓Kl_n, ↓Kl_r, ↓Kl_x, ↓Kend_n, ↓Kend_r, ↓Two_t, ↓Two_f, ↓unr_succ, ↓GdM_b, ↓GdM_t, ↓CdM_b, ↓TwU_t, ↓TwU_f, ↓ThI_app, ↓ThW_app, ↓ThK_app, ↓ThS_app, ↓stepI_p, ↓stepW_p, ↓stepI_w, ↓stepW_w, ↓xD_w, ↓stepI_n, ↓xD_n, ↓xD_q, ↓xD_e, ↓xD_c, ↓xD_v, ↓xD_p, ↓xD_m, ↓xD_s, ↓vX_nil, ↓vX_go, ↓wX_gd, ↓KwX_app, ↓stepI_m, ↓stepW_m, ↓hasSh_mbool, ↓hasSh_mu8, ↓hasSh_mu16, ↓hasSh_mu32, ↓hasSh_mu64, ↓hasSh_mint, putE_none, putE_var, putE_new, get_t, get_c, qev, eev, rsGet, rvGet, oneOf, binAV, isSh, bvBin, bvOp, bvCmp, bvSh, intBin, intSh, cvAV, unAV, AV.cnt, AV.num, Ken2_s, Ken3_s, htake_1, htake_2, beq_self_eq_true, beq_true, beq_false, Int.toNat_natCast, Int.natCast_nonneg, BitVec.reduceOfInt, BitVec.reduceToNat, bytesOf, List.map_cons, List.replicate_succ, Bool.not_eq_true, maxLen, Nat.reducePow, Nat.reduceMul, List.map_cons, List.map_nil, List.getD_cons_zero, List.getD_cons_succ, List.set_cons_zero, List.set_cons_succ, List.cons_append, List.nil_append, List.append_nil, List.take_succ_cons, List.take_zero, List.take_nil, List.length_cons, List.length_nil, List.replicate_succ, List.replicate_zero, Option.map_some, Option.map_none, List.getElem?_cons_zero, List.getElem?_cons_succ, true_and, and_true, if_true, if_false, ite_true, ite_false, reduceIte, reduceCtorEq, false_or, or_true, true_or, or_false, Option.some.injEq, Prod.mk.injEq, exists_eq_left', exists_eq_left, exists_eq_right, exists_and_left, exists_and_right, exists_const, and_assoc, decide_true, decide_false, Bool.false_eq_true, forall_const, Bool.not_true, Bool.not_false, false_implies, true_implies, Nat.reduceAdd, Nat.reduceSub, Nat.reduceMul, Nat.reduceLT, Nat.reduceLeDiff, Nat.reduceEqDiff, Int.reduceAdd, Int.reduceSub, Int.reduceMul, Int.reduceLT, Int.reduceLE, Int.reduceTMod, Int.reduceTDiv, Int.reduceToNat, Int.reduceEq, Int.reduceNe, Int.reduceNeg, ne_eq, not_false_eq_true, not_true_eq_false, InR, Bool.true_eq_false, Bool.false_eq_true, reduceDIte, Nat.zero_add, Nat.add_zero, Int.cast_ofNat_Int, eq_self, hget_0, hget_k, hget_z, hget_s, hset_0, hset_k, htake_0, lt_own0, lt_ownk, hasAt_nil, hasAt_arr, hasAt_st, hasSh_l, hasSh_aa, hasSh_sa, hasShs_n, hasShs_c, setAll, AV.isCell, Shape.size_leaf, Shape.size_arr, Shape.size_st, Shape.sizes_cons, Shape.sizes_nil, List.length_append, List.append_assoc, List.length_set, stP, ldP, getP, setP, psh, partsOf, slen, rd, dem, demK_own, demK_ptr, demK_agg, demK_tup, demK_fn, demK_ro, demK_rp, demK_bool, demK_u8, demK_u16, demK_u32, demK_u64, demK_int, demK_str, demK_nilp, demK_nils, demK_nilf, demK_un, mapO, AV.bnds, AV.bnd, bne_self_eq_false, AV.plain2, AV.plain, List.all_cons, List.all_nil, List.take_length, List.drop_zero, List.drop_succ_cons, Nat.mul_one, List.getElem?_nil, List.forall_mem_cons, List.not_mem_nil, implies_true, Bool.and_true, Bool.true_and, Bool.and_false, Bool.false_and, and_self, and_false, false_and, Nat.sub_zero, bnds, bnds_bool, bnds_bool', mapO_bool, mapO_bool', bnds_u8, bnds_u8', mapO_u8, mapO_u8', bnds_u16, bnds_u16', mapO_u16, mapO_u16', bnds_u32, bnds_u32', mapO_u32, mapO_u32', bnds_u64, bnds_u64', mapO_u64, mapO_u64', bnds_int, bnds_int', mapO_int, mapO_int', bt, bf, Bool.not_not, nilK_nils, nilK_own, nilK_ro, ninL_n, ninL_c, disL_n, disL_r, disL_c, chkL_n, chkL_c, apartL_e, fp_ld, fp_b2s, fp_st, fp_app, fp_appS, fp_cpy, fp_cpyS, tb_own, tb_ptr, tb_ro, tb_rp, tb_nils, tb_str, ne_ah, ne_ha, List.length_map]
  exact h
theorem f48 {K : AV → Heap → Prop} {H : Heap} {s : List (BitVec 8)} (hs : s.length = 4) (h : K (.u32 (le4 (s.getD 3 0) (s.getD 2 0) (s.getD 1 0) (s.getD 0 0))) H) : wpF P G 48 [.str s] H K := by
  match s, hs, h with
  | [a, b, c, d], _, h => exact f48' h

/-- the first bytes of a state -/
def dgL (v : S8) (i : Nat) : List AV := (List.range 32).map fun k => .u8 (if k < 4 * i then (dg v).getD k 0 else 0)
theorem dgL_at {v : S8} {i k : Nat} (h : k < 32) : ∃ x, (dgL v i)[k]? = some x := by
  unfold dgL
  rw [List.getElem?_map, List.getElem?_range h]
  exact ⟨_, rfl⟩
theorem dg_word {v : S8} {i : Nat} (h : i < 8) : (dg v).getD (4 * i) 0 = (v.l.getD i 0 >>> 24).setWidth 8 ∧ (dg v).getD (4 * i + 1) 0 = (v.l.getD i 0 >>> 16).setWidth 8 ∧ (dg v).getD (4 * i + 2) 0 = (v.l.getD i 0 >>> 8).setWidth 8 ∧ (dg v).getD (4 * i + 3) 0 = (v.l.getD i 0).setWidth 8 := by
  rcases (show i = 0 ∨ i = 1 ∨ i = 2 ∨ i = 3 ∨ i = 4 ∨ i = 5 ∨ i = 6 ∨ i = 7 by omega) with rfl | rfl | rfl | rfl | rfl | rfl | rfl | rfl <;> exact ⟨rfl, rfl, rfl, rfl⟩
theorem dgL_set {v : S8} {i : Nat} (h : i < 8) : ((((dgL v i).set (4 * i) (.u8 ((v.l.getD i 0 >>> 24).setWidth 8))).set (4 * i + 1) (.u8 ((v.l.getD i 0 >>> 16).setWidth 8))).set (4 * i + 2) (.u8 ((v.l.getD i 0 >>> 8).setWidth 8))).set (4 * i + 3) (.u8 ((v.l.getD i 0).setWidth 8)) = dgL v (i + 1) := by
  obtain ⟨h0, h1, h2, h3⟩ := dg_word (v := v) h
  unfold dgL
  rw [rng_set, rng_set, rng_set, rng_set]
  refine rng_congr fun k hk => ?_
  by_cases e3 : k = 4 * i + 3
  · rw [if_pos e3, if_pos (by omega), e3, h3]
  · rw [if_neg e3]
    by_cases e2 : k = 4 * i + 2
    · rw [if_pos e2, if_pos (by omega), e2, h2]
    · rw [if_neg e2]
      by_cases e1 : k = 4 * i + 1
      · rw [if_pos e1, if_pos (by omega), e1, h1]
      · rw [if_neg e1]
        by_cases e0 : k = 4 * i
        · rw [if_pos e0, if_pos (by omega), e0, h0]
        · rw [if_neg e0]
          by_cases h : k < 4 * i
          · rw [if_pos h, if_pos (by omega)]
          · rw [if_neg h, if_neg (by omega)]
theorem dgL_all {v : S8} : dgL v 8 = (dg v).map .u8 := by
  unfold dgL
  apply List.ext_getElem?
  intro k
  by_cases hk : k < 32
  · have hk' : k < (dg v).length := hk
    rw [List.getElem?_map, List.getElem?_range hk, List.getElem?_map, List.getElem?_eq_getElem hk']
    simp only [Option.map_some]
    rw [if_pos (by omega), List.getD_eq_getElem?_getD, List.getElem?_eq_getElem hk']
    rfl
  · rw [List.getElem?_eq_none (by simp; omega), List.getElem?_eq_none (by rw [List.length_map]; show 32 ≤ k; omega)]
def dB (l : List AV) : Option Blk := some ⟨26, 0, false, .arr 1 (.arr 32 .leaf), .agg [.agg l]⟩
def Ix20 (v : S8) (H L : Heap) (u1 u2 u3 : AV) (k : Nat) (st : St) : Prop :=
  ∃ (i : Nat) (u4 u5 u8 : AV), st = ⟨[stA v, .ptr H.length 0 [0] (.arr 8 .leaf), .ptr (H.length + 1) 0 [0] (.arr 32 .leaf), .ptr (H.length + 2) 0 [0] (.arr 32 .leaf), u4, u5, stA v, .int (i : Int), u8], H ++ [some ⟨77, 0, false, .arr 1 (.arr 8 .leaf), .agg [stA v]⟩, dB (List.replicate 32 (.u8 0)), dB (dgL v i)]⟩ ∧ k = 8 - i ∧ i ≤ 8
theorem f44 {K : AV → Heap → Prop} {H : Heap} {v : S8} (h : K (.agg ((dg v).map .u8)) H) : wpF P G 44 [stA v] H K := by
  refine wpF_go c44 rfl 3 ?_
  intro ha hb
  simp only [s44]
  have hsh : HasSh (.arr 8 .leaf) (stA v) := by unfold stA; simp [HasSh, AV.isCell]
  (refine gw1 @hsh ?_; try exact True.intro)
  refine wp_inv (Ix20 v H [] .un .un .un) 8 ⟨0, _, _, _, rfl, rfl, by omega⟩ ?_
  rintro k st ⟨i, u4, u5, u8, rfl, rfl, hi⟩
  unfold dB
  by_cases hil : i < 8
  · have h1 : ((i : Int) < 8) = True := by simp only [eq_iff_iff, iff_true]; omega
    have hv : [AV.u32 v.a, .u32 v.b, .u32 v.c, .u32 v.d, .u32 v.e, .u32 v.f, .u32 v.g, .u32 v.h].getD i .un = .u32 (v.l.getD i 0) := by
      rcases (show i = 0 ∨ i = 1 ∨ i = 2 ∨ i = 3 ∨ i = 4 ∨ i = 5 ∨ i = 6 ∨ i = 7 by omega) with rfl | rfl | rfl | rfl | rfl | rfl | rfl | rfl <;> rfl
    have e4 : 4 * (i : Int) = ((4 * i : Nat) : Int) := by omega
    have e5 : ((4 * i : Nat) : Int) + 1 = ((4 * i + 1 : Nat) : Int) := by omega
    have e6 : ((4 * i : Nat) : Int) + 2 = ((4 * i + 2 : Nat) : Int) := by omega
    have e7 : ((4 * i : Nat) : Int) + 3 = ((4 * i + 3 : Nat) : Int) := by omega
    obtain ⟨x0, g0⟩ := dgL_at (v := v) (i := i) (k := 4 * i) (by omega)
    obtain ⟨x1, g1⟩ := dgL_at (v := v) (i := i) (k := 4 * i + 1) (by omega)
    obtain ⟨x2, g2⟩ := dgL_at (v := v) (i := i) (k := 4 * i + 2) (by omega)
    obtain ⟨x3, g3⟩ := dgL_at (v := v) (i := i) (k := 4 * i + 3) (by omega)
    have k1 : ∀ y, ((dgL v i).set (4 * i) y)[4 * i + 1]? = some x1 := fun y => by rw [List.getElem?_set_ne (by omega), g1]
    have k2 : ∀ y z, (((dgL v i).set (4 * i) y).set (4 * i + 1) z)[4 * i + 2]? = some x2 := fun y z => by rw [List.getElem?_set_ne (by omega), List.getElem?_set_ne (by omega), g2]
    have k3 : ∀ y z w, ((((dgL v i).set (4 * i) y).set (4 * i + 1) z).set (4 * i + 2) w)[4 * i + 3]? = some x3 := fun y z w => by rw [List.getElem?_set_ne (by omega), List.getElem?_set_ne (by omega), List.getElem?_set_ne (by omega), g3]
    have hset := dgL_set (v := v) hil
    unfold stA
    (refine gw11 @h1 @hv @e4 @e5 @e6 @e7 @g0 @k1 @k2 @k3 @hset ?_; try exact True.intro)
    (repeat (refine And.intro (by omega) ?_))
    exact ⟨8 - (i + 1), by omega, i + 1, _, _, _, rfl, rfl, by omega⟩
  · have h1 : ((i : Int) < 8) = False := by simp only [eq_iff_iff, iff_false]; omega
    have hie : i = 8 := by omega
    subst hie
    rw [dgL_all]
    (refine gw1 @h1 ?_; try exact True.intro)
    exact ⟨rfl, h⟩
def swA (s : List (BitVec 8)) (i : Nat) : List AV := (List.range 64).map fun k => .u32 (if k < i then sW s k else 0)
theorem swA_at {s : List (BitVec 8)} {i k : Nat} (h : k < i) (h2 : k < 64) : (swA s i)[k]? = some (.u32 (sW s k)) := by
  unfold swA
  rw [List.getElem?_map, List.getElem?_range h2]
  simp [h]
theorem swA_end {s : List (BitVec 8)} {i : Nat} (h2 : i < 64) : (swA s i)[i]? = some (.u32 0) := by
  unfold swA
  rw [List.getElem?_map, List.getElem?_range h2]
  simp
theorem swA_set {s : List (BitVec 8)} {i : Nat} : (swA s i).set i (.u32 (sW s i)) = swA s (i + 1) := by
  unfold swA
  rw [rng_set]
  refine rng_congr fun k hk => ?_
  by_cases e : k = i
  · subst e; rw [if_pos rfl, if_pos (by omega)]
  · rw [if_neg e]
    by_cases h2 : k < i
    · rw [if_pos h2, if_pos (by omega)]
    · rw [if_neg h2, if_neg (by omega)]
def hB (v : S8) : Option Blk := some ⟨77, 0, false, .arr 1 (.arr 8 .leaf), .agg [stA v]⟩
def wB (l : List AV) : Option Blk := some ⟨91, 0, false, .arr 1 (.arr 64 .leaf), .agg [.agg l]⟩
def z8 : S8 := ⟨0, 0, 0, 0, 0, 0, 0, 0⟩
def I19a (h : S8) (s : List (BitVec 8)) (H : Heap) (k : Nat) (st : St) : Prop :=
  ∃ (i : Nat) (u5 u21 : AV), st = ⟨[stA h, .str s, .ptr H.length 0 [0] (.arr 8 .leaf), .ptr (H.length + 1) 0 [0] (.arr 8 .leaf), .ptr (H.length + 2) 0 [0] (.arr 64 .leaf), u5, .un, .un, .un, .un, .un, .un, .un, .un, .un, .un, .un, .un, .un, .un, .int (i : Int), u21, .un, .un, .un, .un, .un], H ++ [hB h, hB z8, wB (swA s i)]⟩ ∧ k = 16 - i ∧ i ≤ 16
def I19b (h : S8) (s : List (BitVec 8)) (H : Heap) (u5 : AV) (k : Nat) (st : St) : Prop :=
  ∃ (i : Nat) (u7 u8 u9 u10 u22 : AV), st = ⟨[stA h, .str s, .ptr H.length 0 [0] (.arr 8 .leaf), .ptr (H.length + 1) 0 [0] (.arr 8 .leaf), .ptr (H.length + 2) 0 [0] (.arr 64 .leaf), u5, .int ((16 + i : Nat) : Int), u7, u8, u9, u10, .un, .un, .un, .un, .un, .un, .un, .un, .un, .int 16, .bool false, u22, .un, .un, .un, .un], H ++ [hB h, hB z8, wB (swA s (16 + i))]⟩ ∧ k = 48 - i ∧ i ≤ 48
def I19c (h : S8) (s : List (BitVec 8)) (H : Heap) (u5 u7 u8 u9 u10 : AV) (k : Nat) (st : St) : Prop :=
  ∃ (i : Nat) (u12 u13 u14 u15 u16 u17 u18 u24 : AV), st = ⟨[stA h, .str s, .ptr H.length 0 [0] (.arr 8 .leaf), .ptr (H.length + 1) 0 [0] (.arr 8 .leaf), .ptr (H.length + 2) 0 [0] (.arr 64 .leaf), u5, .int 64, u7, u8, u9, u10, .ptr (H.length + 3) 0 [0] (.arr 8 .leaf), u12, u13, u14, u15, u16, u17, u18, .un, .int 16, .bool false, .bool false, .int (i : Int), u24, .un, .un], H ++ [hB h, hB z8, wB (swA s (16 + 48)), hB (rds s h i)]⟩ ∧ k = 64 - i ∧ i ≤ 64
theorem f43 {K : AV → Heap → Prop} {H : Heap} {h0 : S8} {s : List (BitVec 8)} (hs : s.length = 64) (h : K (stA (comp h0 s)) H) : wpF P G 43 [stA h0, .str s] H K := by
  refine wpF_go c43 rfl 3 ?_
  intro ha hb
  simp only [s43]
  have hsh : HasSh (.arr 8 .leaf) (stA h0) := by unfold stA; simp [HasSh, AV.isCell]
  (refine gw1 @hsh ?_; try exact True.intro)
  refine wp_inv (I19a h0 s H) 16 ⟨0, _, _, rfl, rfl, by omega⟩ ?_
  rintro k st ⟨i, u5, u21, rfl, rfl, hi⟩
  unfold wB
  by_cases hil : i < 16
  · have h1 : ((i : Int) < 16) = True := by simp only [eq_iff_iff, iff_true]; omega
    have e4 : 4 * (i : Int) = ((4 * i : Nat) : Int) := by omega
    have e5 : ((4 * i : Nat) : Int) + 4 = ((4 * i + 4 : Nat) : Int) := by omega
    have e6 : 4 * i + 4 - 4 * i = 4 := by omega
    have g1 := swA_end (s := s) (i := i) (by omega)
    have g2 := swA_set (s := s) (i := i)
    have hw : le4 ((List.take 4 (List.drop (4 * i) s)).getD 3 0) ((List.take 4 (List.drop (4 * i) s)).getD 2 0) ((List.take 4 (List.drop (4 * i) s)).getD 1 0) ((List.take 4 (List.drop (4 * i) s)).getD 0 0) = sW s i := by
      rw [sW_lo hil]
      unfold bw
      simp [List.getD_eq_getElem?_getD, List.getElem?_take, List.getElem?_drop]
    (refine gw5 @h1 @e4 @e5 @e6 @hs ?_; try exact True.intro)
    (repeat (refine And.intro (by omega) ?_))
    refine f48 (by rw [List.length_take, List.length_drop]; omega) ?_
    rw [hw]
    (refine gw2 @g1 @g2 ?_; try exact True.intro)
    (repeat (refine And.intro (by omega) ?_))
    exact ⟨16 - (i + 1), by omega, i + 1, _, _, rfl, rfl, by omega⟩
  · have h1 : ((i : Int) < 16) = False := by simp only [eq_iff_iff, iff_false]; omega
    have hie : i = 16 := by omega
    subst hie
    (refine gw1 @h1 ?_; try exact True.intro)
    (refine gw0 ?_; try exact True.intro)
    refine wp_inv (I19b h0 s H u5) 48 ⟨0, _, _, _, _, _, rfl, rfl, by omega⟩ ?_
    rintro k st ⟨i, u7, u8, u9, u10, u22, rfl, rfl, hi⟩
    unfold wB
    by_cases hil : i < 48
    · have h1 : (((16 + i : Nat) : Int) < 64) = True := by simp only [eq_iff_iff, iff_true]; omega
      have e1 : ((16 + i : Nat) : Int) - 15 = ((i + 1 : Nat) : Int) := by omega
      have e2 : ((16 + i : Nat) : Int) - 2 = ((i + 14 : Nat) : Int) := by omega
      have e3 : ((16 + i : Nat) : Int) - 16 = ((i : Nat) : Int) := by omega
      have e4 : ((16 + i : Nat) : Int) - 7 = ((i + 9 : Nat) : Int) := by omega
      have g1 := swA_at (s := s) (i := 16 + i) (k := i + 1) (by omega) (by omega)
      have g2 := swA_at (s := s) (i := 16 + i) (k := i + 14) (by omega) (by omega)
      have g3 := swA_at (s := s) (i := 16 + i) (k := i) (by omega) (by omega)
      have g4 := swA_at (s := s) (i := 16 + i) (k := i + 9) (by omega) (by omega)
      have g5 := swA_end (s := s) (i := 16 + i) (by omega)
      have g6 := swA_set (s := s) (i := 16 + i)
      have hw := sW_hi (s := s) hil
      unfold sg0 sg1 at hw
      (refine gw5 @h1 @e1 @e2 @g1 @g2 ?_; try exact True.intro)
      (repeat (refine And.intro (by omega) ?_))
      refine f49 (n := 7) (by decide) (by decide) ?_
      (refine gw0 ?_; try exact True.intro)
      refine f49 (n := 18) (by decide) (by decide) ?_
      (refine gw0 ?_; try exact True.intro)
      refine f49 (n := 17) (by decide) (by decide) ?_
      (refine gw0 ?_; try exact True.intro)
      refine f49 (n := 19) (by decide) (by decide) ?_
      (refine gw5 @e3 @e4 @g3 @g4 @g5 ?_; try exact True.intro)
      (repeat (refine And.intro (by omega) ?_))
      rw [← hw, g6]
      exact ⟨48 - (i + 1), by omega, i + 1, _, _, _, _, _, rfl, rfl, by omega⟩
    · have h1 : (((16 + i : Nat) : Int) < 64) = False := by simp only [eq_iff_iff, iff_false]; omega
      have hie : i = 48 := by omega
      subst hie
      unfold hB
      (refine gw2 @h1 @hsh ?_; try exact True.intro)
      (refine gw0 ?_; try exact True.intro)
      refine wp_inv (I19c h0 s H u5 u7 u8 u9 u10) 64 ⟨0, _, _, _, _, _, _, _, _, rfl, rfl, by omega⟩ ?_
      rintro k st ⟨i, u12, u13, u14, u15, u16, u17, u18, u24, rfl, rfl, hi⟩
      unfold hB wB
      generalize hv : rds s h0 i = v
      by_cases hil : i < 64
      · have h1 : ((i : Int) < 64) = True := by simp only [eq_iff_iff, iff_true]; omega
        have g1 := swA_at (s := s) (i := 16 + 48) (k := i) (by omega) hil
        have g2 : (rnds.map AV.u32).getD i .un = .u32 (rnds.getD i 0) := ld_u32 (by show i < 64; exact hil)
        unfold stA
        (refine gw1 @h1 ?_; try exact True.intro)
        refine f49 (n := 6) (by decide) (by decide) ?_
        (refine gw0 ?_; try exact True.intro)
        refine f49 (n := 11) (by decide) (by decide) ?_
        (refine gw0 ?_; try exact True.intro)
        refine f49 (n := 25) (by decide) (by decide) ?_
        (refine gw3 @h1 @g1 @g2 ?_; try exact True.intro)
        refine f49 (n := 2) (by decide) (by decide) ?_
        (refine gw0 ?_; try exact True.intro)
        refine f49 (n := 13) (by decide) (by decide) ?_
        (refine gw0 ?_; try exact True.intro)
        refine f49 (n := 22) (by decide) (by decide) ?_
        (refine gw0 ?_; try exact True.intro)
        (repeat (refine And.intro (by omega) ?_))
        exact ⟨64 - (i + 1), by omega, i + 1, _, _, _, _, _, _, _, _, by rw [show rds s h0 (i + 1) = rnd (rnds.getD i 0) (sW s i) v by rw [← hv]; rfl]; rfl, rfl, by omega⟩
      · have h1 : ((i : Int) < 64) = False := by simp only [eq_iff_iff, iff_false]; omega
        have hie : i = 64 := by omega
        subst hie
        (refine gw1 @h1 ?_; try exact True.intro)
        unfold stA
        refine wp_unroll 9 ?_
        (refine gw0 ?_; try exact True.intro)
        (repeat (refine And.intro (by omega) ?_))
        unfold comp at h
        rw [hv] at h
        exact h
/-- what has taken bytes -/
def smV (h : S8) (r : List (BitVec 8)) (n : Nat) : AV := .agg [stA h, .str r, .u64 (BitVec.ofNat 64 n), .bool true]
def smT (l : List (BitVec 8)) : AV := smV (hb l (l.length / 64)) (l.drop (64 * (l.length / 64))) l.length
def smF : AV := .agg [stA z8, .str [], .u64 0, .bool false]
def smA (on : Bool) (l : List (BitVec 8)) : AV := if on = true then smT l else smF
def smB (x : AV) : Option Blk := some ⟨79, 0, false, .arr 1 (.st [.arr 8 .leaf, .leaf, .leaf, .leaf]), .agg [x]⟩
def Ix9 (p u2 u3 : AV) (m r0 : List (BitVec 8)) (n : Nat) (H0 L : Heap) (k : Nat) (st : St) : Prop :=
  ∃ (j : Nat) (u4 : AV), st = ⟨[p, .str (m.drop (64 * j)), u2, u3, u4], H0 ++ smB (smV (hb m j) r0 n) :: L⟩ ∧ k = m.length / 64 - j ∧ j ≤ m.length / 64
theorem f37 {K : AV → Heap → Prop} {H0 L : Heap} {on : Bool} {l s : List (BitVec 8)} (hl : on = false → l = []) (hs : l.length + s.length ≤ 1000000000) (h : K (.tup []) (H0 ++ smB (smT (l ++ s)) :: L)) :
    wpF P G 37 [.ptr H0.length 0 [0] (.st [.arr 8 .leaf, .leaf, .leaf, .leaf]), .str s] (H0 ++ smB (smA on l) :: L) K := by
  refine wpF_goM c37 rfl ?_
  intro hA hB
  simp only [s37]
  have hsh : ∀ v, HasSh (.arr 8 .leaf) (stA v) := by intro v; unfold stA; simp [HasSh, AV.isCell]
  have hq : 64 * (l.length / 64) ≤ l.length := by omega
  have e1 : l.drop (64 * (l.length / 64)) ++ s = (l ++ s).drop (64 * (l.length / 64)) := by rw [List.drop_append_of_le_length hq]
  have e2 := hb_app (l := l) (r := s) (m := l.length / 64) hq
  have e3 : BitVec.ofNat 64 l.length + BitVec.ofInt 64 (s.length : Int) = BitVec.ofNat 64 (l ++ s).length := by
    rw [List.length_append, show BitVec.ofInt 64 (s.length : Int) = BitVec.ofNat 64 s.length from BitVec.ofInt_natCast .., BitVec.ofNat_add]
  have hqq : l.length / 64 ≤ (l ++ s).length / 64 := by rw [List.length_append]; omega
  have hle : (l ++ s).length ≤ 1000000000 := by rw [List.length_append]; exact hs
  have hms : l = [] → s = l ++ s := fun h => by rw [h]; rfl
  generalize l ++ s = m at *
  have ez : ∀ x : BitVec 64, 0 + x = x := fun x => BitVec.zero_add x
  cases on with
  | false =>
    have hl' := hl rfl
    have e0 : hb l 0 = ini := rfl
    have e4 : BitVec.ofInt 64 (s.length : Int) = BitVec.ofNat 64 m.length := by
      rw [← hms hl']; exact BitVec.ofInt_natCast ..
    have e5 : s = m.drop (64 * (l.length / 64)) := by rw [← hms hl', hl']; rfl
    have e6 : hb l (l.length / 64) = ini := by rw [hl']; rfl
    rw [e6] at e2
    unfold smB smA smF
    (refine gw3 @Kmut_n @Kmut_r @Km2_s ?_; try exact True.intro)
    refine f42 ?_
    (refine gw6 @hsh @e4 @ez @Kmut_n @Kmut_r @Km2_s ?_; try exact True.intro)
    (repeat (refine And.intro (by omega) ?_))
    (refine gw3 @Kmut_n @Kmut_r @Km2_s ?_; try exact True.intro)
    rw [e5]
    refine wp_inv (Ix9 (.ptr H0.length 0 [0] (.st [.arr 8 .leaf, .leaf, .leaf, .leaf])) (.bool false) (.bool true) m ([]) m.length H0 L) (m.length / 64 - l.length / 64) ⟨l.length / 64, _, by rw [e2]; rfl, rfl, hqq⟩ ?_
    rintro k st ⟨j, u4, rfl, rfl, hj⟩
    unfold smB smV
    have hdl : (m.drop (64 * j)).length = m.length - 64 * j := List.length_drop ..
    by_cases hjl : j < m.length / 64
    · have h1 : ((64 : Int) ≤ ((m.drop (64 * j)).length : Int)) = True := by rw [hdl]; simp only [eq_iff_iff, iff_true]; omega
      have hck : List.take 64 (m.drop (64 * j)) = ck m j := rfl
      have hcl : (ck m j).length = 64 := by rw [← hck, List.length_take, hdl]; omega
      have hdd : List.drop 64 (m.drop (64 * j)) = m.drop (64 * (j + 1)) := by rw [List.drop_drop]; rfl
      have htk : List.take ((m.drop (64 * j)).length - 64) (m.drop (64 * (j + 1))) = m.drop (64 * (j + 1)) := List.take_of_length_le (by rw [List.length_drop, List.length_drop]; omega)
      (refine gw6 @h1 @hck @hsh @Kmut_n @Kmut_r @Km2_s ?_; try exact True.intro)
      refine drawn _ (f43 hcl ⟨rfl, rfl⟩) ?_
      (refine gw6 @hsh @hdd @htk @Kmut_n @Kmut_r @Km2_s ?_; try exact True.intro)
      (repeat (refine And.intro (by omega) ?_))
      exact ⟨m.length / 64 - (j + 1), by omega, j + 1, _, rfl, rfl, by omega⟩
    · have h1 : ((64 : Int) ≤ ((m.drop (64 * j)).length : Int)) = False := by rw [hdl]; simp only [eq_iff_iff, iff_false]; omega
      have hje : j = m.length / 64 := by omega
      (refine gw4 @h1 @Kmut_n @Kmut_r @Km2_s ?_; try exact True.intro)
      rw [hje]
      refine ⟨Nat.le_refl _, ?_⟩
      have hfin := mut_fin (E := []) hB (y := smB (smT m)) (by rintro k blk h; cases h; rfl) h
      simp only [List.append_nil] at hfin
      exact hfin
  | true =>
    unfold smB smA smT smV
    have hdr : (l.drop (64 * (l.length / 64))).length ≤ l.length := by rw [List.length_drop]; omega
    (refine gw5 @e1 @e3 @Kmut_n @Kmut_r @Km2_s ?_; try exact True.intro)
    refine ⟨by omega, ?_⟩
    refine wp_inv (Ix9 (.ptr H0.length 0 [0] (.st [.arr 8 .leaf, .leaf, .leaf, .leaf])) (.bool false) (.bool false) m (l.drop (64 * (l.length / 64))) m.length H0 L) (m.length / 64 - l.length / 64) ⟨l.length / 64, _, by rw [e2]; rfl, rfl, hqq⟩ ?_
    rintro k st ⟨j, u4, rfl, rfl, hj⟩
    unfold smB smV
    have hdl : (m.drop (64 * j)).length = m.length - 64 * j := List.length_drop ..
    by_cases hjl : j < m.length / 64
    · have h1 : ((64 : Int) ≤ ((m.drop (64 * j)).length : Int)) = True := by rw [hdl]; simp only [eq_iff_iff, iff_true]; omega
      have hck : List.take 64 (m.drop (64 * j)) = ck m j := rfl
      have hcl : (ck m j).length = 64 := by rw [← hck, List.length_take, hdl]; omega
      have hdd : List.drop 64 (m.drop (64 * j)) = m.drop (64 * (j + 1)) := by rw [List.drop_drop]; rfl
      have htk : List.take ((m.drop (64 * j)).length - 64) (m.drop (64 * (j + 1))) = m.drop (64 * (j + 1)) := List.take_of_length_le (by rw [List.length_drop, List.length_drop]; omega)
      (refine gw6 @h1 @hck @hsh @Kmut_n @Kmut_r @Km2_s ?_; try exact True.intro)
      refine drawn _ (f43 hcl ⟨rfl, rfl⟩) ?_
      (refine gw6 @hsh @hdd @htk @Kmut_n @Kmut_r @Km2_s ?_; try exact True.intro)
      (repeat (refine And.intro (by omega) ?_))
      exact ⟨m.length / 64 - (j + 1), by omega, j + 1, _, rfl, rfl, by omega⟩
    · have h1 : ((64 : Int) ≤ ((m.drop (64 * j)).length : Int)) = False := by rw [hdl]; simp only [eq_iff_iff, iff_false]; omega
      have hje : j = m.length / 64 := by omega
      (refine gw4 @h1 @Kmut_n @Kmut_r @Km2_s ?_; try exact True.intro)
      rw [hje]
      refine ⟨Nat.le_refl _, ?_⟩
      have hfin := mut_fin (E := []) hB (y := smB (smT m)) (by rintro k blk h; cases h; rfl) h
      simp only [List.append_nil] at hfin
      exact hfin
theorem f37' {K : AV → Heap → Prop} {H0 L Hx : Heap} {on : Bool} {l s : List (BitVec 8)} {m : Nat} (hm : m = H0.length) (hx : Hx = H0 ++ smB (smA on l) :: L) (hl : on = false → l = []) (hs : l.length + s.length ≤ 1000000000) (h : K (.tup []) (H0 ++ smB (smT (l ++ s)) :: L)) :
    wpF P G 37 [.ptr m 0 [0] (.st [.arr 8 .leaf, .leaf, .leaf, .leaf]), .str s] Hx K := by
  subst hm hx
  exact f37 hl hs h
/-- nobody takes nothing -/
theorem f37n {K : AV → Heap → Prop} {H : Heap} {s : List (BitVec 8)} (h : K (.tup []) H) : wpF P G 37 [.nilp, .str s] H K := by
  refine wpF_go c37 rfl 3 ?_
  intro ha hb
  simp only [s37]
  (refine gw0 ?_; try exact True.intro)
  exact h
/-- 128 bytes -/
def bL (f : Nat → BitVec 8) : List AV := (List.range 128).map fun k => .u8 (f k)
theorem bL_len {f : Nat → BitVec 8} : (bL f).length = 128 := by simp [bL]
theorem bL_at {f : Nat → BitVec 8} {k : Nat} (h : k < 128) : (bL f)[k]? = some (.u8 (f k)) := by
  unfold bL
  rw [List.getElem?_map, List.getElem?_range h]; rfl
theorem bL_set {f : Nat → BitVec 8} {q : Nat} {v : BitVec 8} : (bL f).set q (.u8 v) = bL fun k => if k = q then v else f k := by
  unfold bL
  rw [rng_set]
  refine rng_congr fun k hk => ?_
  by_cases e : k = q
  · rw [if_pos e]
    show AV.u8 v = AV.u8 (if k = q then v else f k)
    rw [if_pos e]
  · rw [if_neg e]
    show AV.u8 (f k) = AV.u8 (if k = q then v else f k)
    rw [if_neg e]
theorem bL_congr {f g : Nat → BitVec 8} (h : ∀ k, k < 128 → f k = g k) : bL f = bL g := by
  unfold bL
  exact rng_congr fun k hk => by rw [h k hk]
theorem bL_cpy {r : List (BitVec 8)} (hr : r.length ≤ 128) : splL (bL fun _ => 0) 0 (List.take (min r.length 128) (r.map .u8)) = bL fun k => r.getD k 0 := by
  unfold splL
  rw [Nat.min_eq_left hr, List.take_of_length_le (l := r.map AV.u8) (by simp)]
  apply List.ext_getElem?
  intro k
  by_cases hk : k < 128
  · rw [bL_at hk]
    simp only [List.take_zero, List.nil_append, Nat.zero_add, List.length_map]
    by_cases h : k < r.length
    · rw [List.getElem?_append_left (by simpa using h), List.getElem?_map, List.getElem?_eq_getElem h, List.getD_eq_getElem?_getD, List.getElem?_eq_getElem h]
      rfl
    · rw [List.getElem?_append_right (by simpa using h), List.length_map, List.getElem?_drop, show r.length + (k - r.length) = k by omega, bL_at hk, List.getD_eq_getElem?_getD, List.getElem?_eq_none (by omega)]
      rfl
  · rw [List.getElem?_eq_none (l := bL _) (by rw [bL_len]; omega), List.getElem?_eq_none (by simp only [List.length_append, List.length_take, List.length_map, List.length_drop, bL_len]; omega)]
/-- the bytes behind the last whole block, as they are put together -/
def pg (l : List (BitVec 8)) (e i k : Nat) : BitVec 8 :=
  if k < l.length % 64 then (l.drop (64 * (l.length / 64))).getD k 0 else if k = l.length % 64 then 128 else if e ≤ k + i ∧ k < e then ((BitVec.ofNat 64 l.length * 8) >>> (8 * (e - 1 - k))).setWidth 8 else 0
def pe (l : List (BitVec 8)) : Nat := if l.length % 64 < 56 then 64 else 128
theorem pe_pad {l : List (BitVec 8)} : (pad l).length = 64 * (l.length / 64) + pe l := by
  rw [pad_len]
  unfold pe zc
  split <;> omega
theorem pg_pad {l : List (BitVec 8)} {k : Nat} (hk : k < pe l) : (pad l)[64 * (l.length / 64) + k]? = some (pg l (pe l) 8 k) := by
  have hr : l.length = 64 * (l.length / 64) + l.length % 64 := by omega
  have hp := pe_pad (l := l)
  rw [pad_len] at hp
  unfold pad pg
  by_cases h1 : k < l.length % 64
  · rw [if_pos h1, List.getElem?_append_left (by omega), List.getD_eq_getElem?_getD, List.getElem?_drop, List.getElem?_eq_getElem (by omega)]
    rfl
  · rw [if_neg h1, List.getElem?_append_right (by omega)]
    by_cases h2 : k = l.length % 64
    · rw [if_pos h2, show 64 * (l.length / 64) + k - l.length = 0 by omega]; rfl
    · rw [if_neg h2, show 64 * (l.length / 64) + k - l.length = (k - l.length % 64 - 1) + 1 by omega, List.getElem?_cons_succ]
      by_cases h3 : pe l ≤ k + 8 ∧ k < pe l
      · rw [if_pos h3, List.getElem?_append_right (by rw [List.length_replicate]; omega), List.length_replicate]
        unfold len8
        rw [List.getElem?_map, List.getElem?_range (by omega)]
        simp only [Option.map_some]
        rw [show 7 - (k - l.length % 64 - 1 - zc l.length) = pe l - 1 - k by omega]
      · rw [if_neg h3, List.getElem?_append_left (by rw [List.length_replicate]; omega), List.getElem?_replicate, if_pos (by omega)]
theorem pg_ck {l : List (BitVec 8)} {i : Nat} (hi : 64 * i + 64 ≤ pe l) : List.take 64 (List.drop (64 * i) (bL (pg l (pe l) 8))) = (ck (pad l) (l.length / 64 + i)).map .u8 := by
  have hp := pe_pad (l := l)
  have h128 : pe l ≤ 128 := by unfold pe; split <;> omega
  unfold ck
  apply List.ext_getElem?
  intro k
  by_cases hk : k < 64
  · rw [List.getElem?_take, if_pos hk, List.getElem?_drop, bL_at (by omega), List.getElem?_map, List.getElem?_take, if_pos hk, List.getElem?_drop, show 64 * (l.length / 64 + i) + k = 64 * (l.length / 64) + (64 * i + k) by omega, pg_pad (by omega)]
    rfl
  · rw [List.getElem?_eq_none (by simp; omega), List.getElem?_eq_none (by simp; omega)]
theorem pg_start {l : List (BitVec 8)} {e : Nat} (he : l.length % 64 < e) : (bL fun k => if k = l.length % 64 then 128 else (l.drop (64 * (l.length / 64))).getD k 0) = bL (pg l e 0) := by
  refine bL_congr fun k hk => ?_
  unfold pg
  have hdl : (l.drop (64 * (l.length / 64))).length = l.length % 64 := by rw [List.length_drop]; omega
  by_cases h1 : k < l.length % 64
  · rw [if_pos h1, if_neg (by omega)]
  · rw [if_neg h1]
    by_cases h2 : k = l.length % 64
    · rw [if_pos h2, if_pos h2]
    · rw [if_neg h2, if_neg h2, if_neg (by omega), List.getD_eq_getElem?_getD, List.getElem?_eq_none (by omega)]
      rfl
theorem pg_step {l : List (BitVec 8)} {e i : Nat} (hi : i < 8) (he : l.length % 64 + 9 ≤ e) : (bL (pg l e i)).set (e - 1 - i) (.u8 (((BitVec.ofNat 64 l.length * 8) >>> (8 * i)).setWidth 8)) = bL (pg l e (i + 1)) := by
  rw [bL_set]
  refine bL_congr fun k hk => ?_
  unfold pg
  by_cases e1 : k = e - 1 - i
  · rw [if_pos e1, if_neg (by omega), if_neg (by omega), if_pos (by omega), show e - 1 - k = i by omega]
  · rw [if_neg e1]
    by_cases h1 : k < l.length % 64
    · rw [if_pos h1, if_pos h1]
    · rw [if_neg h1, if_neg h1]
      by_cases h2 : k = l.length % 64
      · rw [if_pos h2, if_pos h2]
      · rw [if_neg h2, if_neg h2]
        by_cases h3 : e ≤ k + i ∧ k < e
        · rw [if_pos h3, if_pos (by omega)]
        · rw [if_neg h3, if_neg (by omega)]
theorem bL_zero : List.replicate 128 (AV.u8 0) = bL fun _ => 0 := by
  unfold bL
  apply List.ext_getElem?
  intro k
  by_cases hk : k < 128
  · rw [List.getElem?_replicate, if_pos hk, List.getElem?_map, List.getElem?_range hk]; rfl
  · rw [List.getElem?_eq_none (by simp; omega), List.getElem?_eq_none (by simp; omega)]
def X32 : Option Blk := some ⟨26, 0, false, .arr 1 (.arr 32 .leaf), .agg [.agg (List.replicate 32 (.u8 0))]⟩
def I10a (l : List (BitVec 8)) (p : AV) (e : Nat) (H : Heap) (u9 u10 : AV) (k : Nat) (st : St) : Prop :=
  ∃ (i : Nat) (u6 u12 : AV), st = ⟨[p, .ptr H.length 0 [0] (.arr 32 .leaf), .ptr (H.length + 1) 0 [0] (.arr 8 .leaf), .own (H.length + 2) 0 [] 0 128 .leaf, .int (e : Int), .u64 (BitVec.ofNat 64 l.length * 8), u6, .un, .bool false, u9, u10, .int (i : Int), u12, .un],
    H ++ [X32, hB (hb l (l.length / 64)), some ⟨5, 0, true, .arr 128 .leaf, .agg (bL (pg l e i))⟩]⟩ ∧ k = 8 - i ∧ i ≤ 8
def I10b (l : List (BitVec 8)) (p : AV) (e : Nat) (H : Heap) (u6 u9 u10 : AV) (k : Nat) (st : St) : Prop :=
  ∃ (j : Nat) (u13 : AV), st = ⟨[p, .ptr H.length 0 [0] (.arr 32 .leaf), .ptr (H.length + 1) 0 [0] (.arr 8 .leaf), .own (H.length + 2) 0 [] 0 128 .leaf, .int (e : Int), .u64 (BitVec.ofNat 64 l.length * 8), u6, .int ((64 * j : Nat) : Int), .bool false, u9, u10, .int 8, .bool false, u13],
    H ++ [X32, hB (hb (pad l) (l.length / 64 + j)), some ⟨5, 0, true, .arr 128 .leaf, .agg (bL (pg l e 8))⟩]⟩ ∧ k = e / 64 - j ∧ 64 * j ≤ e
theorem f38 {K : AV → Heap → Prop} {H : Heap} {b : Nat} {on : Bool} {l : List (BitVec 8)} (hg : Heap.get H b = smB (smA on l)) (hl : on = false → l = []) (hle : l.length ≤ 1000000000) (h : K (.agg ((sha l).map .u8)) H) : wpF P G 38 [.ptr b 0 [0] (.st [.arr 8 .leaf, .leaf, .leaf, .leaf])] H K := by
  refine wpF_goW c38 rfl 3 ?_
  intro ha hb
  simp only [s38]
  clear ha hb
  have hsh : ∀ v, HasSh (.arr 8 .leaf) (stA v) := by intro v; unfold stA; simp [HasSh, AV.isCell]
  have hbl : b < H.length := Heap.get_lt hg
  have hgX : ∀ X : List (Option Blk), Heap.get (H ++ X) b = smB (smA on l) := fun X => Heap.get_some_append hg
  have key : smA on l = .agg [(if on = true then stA (hb l (l.length / 64)) else stA z8), .str (l.drop (64 * (l.length / 64))), .u64 (BitVec.ofNat 64 l.length), .bool on] := by
    cases on with
    | false => rw [hl rfl]; rfl
    | true => rfl
  rw [key] at hgX
  unfold smB at hgX
  have hsi : HasSh (.arr 8 .leaf) (if on = true then stA (hb l (l.length / 64)) else stA z8) := by split <;> exact hsh _
  refine WPS_seqS ?_
  (refine gw2 @thenQ_n @thenQ_r ?_; try exact True.intro)
  refine WPS_seqS ?_
  (refine gw2 @thenQ_n @thenQ_r ?_; try exact True.intro)
  refine WPS_seqS ?_
  (refine gw4 @thenQ_n @thenQ_r @hgX @hsi ?_; try exact True.intro)
  refine WPS_seqS ?_
  have e6 : on = false → hb l (l.length / 64) = ini := fun h => by rw [hl h]; rfl
  clear hg key
  have hdl : (l.drop (64 * (l.length / 64))).length = l.length % 64 := by rw [List.length_drop]; omega
  have hcp := bL_cpy (r := l.drop (64 * (l.length / 64))) (by omega)
  rw [hdl] at hcp
  have hr : l.length % 64 < 64 := Nat.mod_lt _ (by omega)
  cases on
  case' false =>
    simp only [if_true, if_false, Bool.false_eq_true, reduceCtorEq] at hgX hsi ⊢
    (refine gw4 @thenQ_n @thenQ_r @hgX @hsh ?_; try exact True.intro)
    refine f42 ?_
    (refine gw4 @thenQ_n @thenQ_r @hgX @hsh ?_; try exact True.intro)
    rw [← e6 rfl]
  case' true =>
    simp only [if_true, if_false, Bool.false_eq_true, reduceCtorEq] at hgX hsi ⊢
    (refine gw4 @thenQ_n @thenQ_r @hgX @hsh ?_; try exact True.intro)
  all_goals
    refine WPS_seqS ?_
    simp (maxSteps := 2000000) only [↓vS_skip, ↓vS_reg, ↓vS_draw, ↓vS_seq, ↓wS_cond, ↓vS_block, ↓vS_exit, ↓vS_ret, ↓vI_nil, ↓vI_go, ↓wI_gd, ↓stepI_q, ↓stepI_e, ↓stepI_c, ↓stepI_v, ↓vD_nil, ↓vD_go, ↓wD_gd, ↓stepW_q, ↓stepW_e, ↓stepW_c, ↓stepW_v, ↓Kw_app, ↓KwD_app, ↓Kc_app, ↓Kp_app, ↓Kr_app, ↓Ks_n, ↓Ks_r, ↓Ks_x, ↓Kb_n, ↓Kb_r, ↓Kb_x, ↓Ku_n, ↓Ku_r, ↓Ku_x, ↓Kl_n, ↓Kl_r, ↓Kl_x, ↓Kend_n, ↓Kend_r, ↓Two_t, ↓Two_f, ↓unr_succ, ↓GdM_b, ↓GdM_t, ↓CdM_b, ↓TwU_t, ↓TwU_f, ↓ThI_app, ↓ThW_app, ↓ThK_app, ↓ThS_app, ↓stepI_p, ↓stepW_p, ↓stepI_w, ↓stepW_w, ↓xD_w, ↓stepI_n, ↓xD_n, ↓xD_q, ↓xD_e, ↓xD_c, ↓xD_v, ↓xD_p, ↓xD_m, ↓xD_s, ↓vX_nil, ↓vX_go, ↓wX_gd, ↓KwX_app, ↓stepI_m, ↓stepW_m, ↓hasSh_mbool, ↓hasSh_mu8, ↓hasSh_mu16, ↓hasSh_mu32, ↓hasSh_mu64, ↓hasSh_mint, putE_none, putE_var, putE_new, get_t, get_c, qev, eev, rsGet, rvGet, oneOf, binAV, isSh, bvBin, bvOp, bvCmp, bvSh, intBin, intSh, cvAV, unAV, AV.cnt, AV.num, Ken2_s, Ken3_s, htake_1, htake_2, beq_self_eq_true, beq_true, beq_false, Int.toNat_natCast, Int.natCast_nonneg, BitVec.reduceOfInt, BitVec.reduceToNat, bytesOf, List.map_cons, Bool.not_eq_true, maxLen, Nat.reducePow, Nat.reduceMul, List.map_cons, List.map_nil, List.getD_cons_zero, List.getD_cons_succ, List.set_cons_zero, List.set_cons_succ, List.cons_append, List.nil_append, List.append_nil, List.take_succ_cons, List.take_zero, List.take_nil, List.length_cons, List.length_nil, Option.map_some, Option.map_none, List.getElem?_cons_zero, List.getElem?_cons_succ, true_and, and_true, if_true, if_false, ite_true, ite_false, reduceIte, reduceCtorEq, false_or, or_true, true_or, or_false, Option.some.injEq, Prod.mk.injEq, exists_eq_left', exists_eq_left, exists_eq_right, exists_and_left, exists_and_right, exists_const, and_assoc, decide_true, decide_false, Bool.false_eq_true, forall_const, Bool.not_true, Bool.not_false, false_implies, true_implies, Nat.reduceAdd, Nat.reduceSub, Nat.reduceMul, Nat.reduceLT, Nat.reduceLeDiff, Nat.reduceEqDiff, Int.reduceAdd, Int.reduceSub, Int.reduceMul, Int.reduceLT, Int.reduceLE, Int.reduceTMod, Int.reduceTDiv, Int.reduceToNat, Int.reduceEq, Int.reduceNe, Int.reduceNeg, ne_eq, not_false_eq_true, not_true_eq_false, InR, Bool.true_eq_false, Bool.false_eq_true, reduceDIte, Nat.zero_add, Nat.add_zero, Int.cast_ofNat_Int, eq_self, hget_0, hget_k, hget_z, hget_s, hset_0, hset_k, htake_0, lt_own0, lt_ownk, hasAt_nil, hasAt_arr, hasAt_st, hasSh_l, hasSh_aa, hasSh_sa, hasShs_n, hasShs_c, setAll, AV.isCell, Shape.size_leaf, Shape.size_arr, Shape.size_st, Shape.sizes_cons, Shape.sizes_nil, List.length_append, List.append_assoc, List.length_set, stP, ldP, getP, setP, psh, partsOf, slen, rd, dem, demK_own, demK_ptr, demK_agg, demK_tup, demK_fn, demK_ro, demK_rp, demK_bool, demK_u8, demK_u16, demK_u32, demK_u64, demK_int, demK_str, demK_nilp, demK_nils, demK_nilf, demK_un, mapO, AV.bnds, AV.bnd, bne_self_eq_false, AV.plain2, AV.plain, List.all_cons, List.all_nil, List.take_length, List.drop_zero, List.drop_succ_cons, Nat.mul_one, List.getElem?_nil, List.forall_mem_cons, List.not_mem_nil, implies_true, Bool.and_true, Bool.true_and, Bool.and_false, Bool.false_and, and_self, and_false, false_and, Nat.sub_zero, bnds, bnds_bool, bnds_bool', mapO_bool, mapO_bool', bnds_u8, bnds_u8', mapO_u8, mapO_u8', bnds_u16, bnds_u16', mapO_u16, mapO_u16', bnds_u32, bnds_u32', mapO_u32, mapO_u32', bnds_u64, bnds_u64', mapO_u64, mapO_u64', bnds_int, bnds_int', mapO_int, mapO_int', bt, bf, Bool.not_not, nilK_nils, nilK_own, nilK_ro, ninL_n, ninL_c, disL_n, disL_r, disL_c, chkL_n, chkL_c, apartL_e, fp_ld, fp_b2s, fp_st, fp_app, fp_appS, fp_cpy, fp_cpyS, tb_own, tb_ptr, tb_ro, tb_rp, tb_nils, tb_str, ne_ah, ne_ha, thenQ_n]
    rw [bL_zero]
    refine WPS_seqS ?_
    (refine gw4 @thenQ_n @hgX @cpH_own @hdl ?_; try exact True.intro)
    have hb0 : hb (pad l) (l.length / 64 + 0) = hb l (l.length / 64) := hb_app (by omega)
    rw [hcp]
    refine wpS_ok ?_
    have ga := bL_at (f := fun k => (l.drop (64 * (l.length / 64))).getD k 0) (k := l.length % 64) (by omega)
    by_cases h56 : l.length % 64 < 56
    · have hp : pe l = 64 := if_pos h56
      have h5 : ((56 : Int) ≤ ((l.length % 64 : Nat) : Int)) = False := by simp only [eq_iff_iff, iff_false]; omega
      have gs : (bL fun k => (l.drop (64 * (l.length / 64))).getD k 0).set (l.length % 64) (.u8 128) = bL (pg l 64 0) := by rw [bL_set, pg_start (e := 64) (by omega)]
      (refine gw5 @hgX @hdl @ga @gs @h5 ?_; try exact True.intro)
      (repeat (refine And.intro (by omega) ?_))
      (refine gw1 @hgX ?_; try exact True.intro)
      refine wp_inv (I10a l _ 64 H _ _) 8 ⟨0, _, _, rfl, rfl, by omega⟩ ?_
      rintro k st ⟨i, u6, u12, rfl, rfl, hi⟩
      unfold X32 hB
      by_cases hil : i < 8
      · have h6 : ((i : Int) < 8) = True := by simp only [eq_iff_iff, iff_true]; omega
        have e1 : (63 : Int) - (i : Int) = ((64 - 1 - i : Nat) : Int) := by omega
        have e2 : 8 * (i : Int) = ((8 * i : Nat) : Int) := by omega
        have e3 : (BitVec.ofInt 64 ((8 * i : Nat) : Int)).toNat = 8 * i := ofInt64_nat (by omega)
        have gb := bL_at (f := pg l 64 i) (k := 64 - 1 - i) (by omega)
        have gt := pg_step (l := l) (e := 64) hil (by omega)
        (refine gw6 @h6 @e1 @e2 @e3 @gb @gt ?_; try exact True.intro)
        (repeat (refine And.intro (by omega) ?_))
        exact ⟨8 - (i + 1), by omega, i + 1, _, _, rfl, rfl, by omega⟩
      · have h6 : ((i : Int) < 8) = False := by simp only [eq_iff_iff, iff_false]; omega
        have hie : i = 8 := by omega
        subst hie
        (refine gw1 @h6 ?_; try exact True.intro)
        (refine gw0 ?_; try exact True.intro)
        refine wp_inv (I10b l _ 64 H u6 _ _) 1 ⟨0, _, by rw [hb0]; rfl, rfl, by omega⟩ ?_
        rintro k st ⟨j, u13, rfl, rfl, hj⟩
        unfold X32 hB
        by_cases hjl : 64 * j < 64
        · have h7 : (((64 * j : Nat) : Int) < 64) = True := by simp only [eq_iff_iff, iff_true]; omega
          have e4 : ((64 * j : Nat) : Int) + 64 = ((64 * j + 64 : Nat) : Int) := by omega
          have e5 : 64 * j + 64 - 64 * j = 64 := by omega
          have hcl : (ck (pad l) (l.length / 64 + j)).length = 64 := by unfold ck; rw [List.length_take, List.length_drop, pe_pad, hp]; omega
          have hby : bytesOf (List.take 64 (List.drop (64 * j) (bL (pg l 64 8)))) = some (ck (pad l) (l.length / 64 + j)) := by
            have := pg_ck (l := l) (i := j) (by omega)
            rw [hp] at this
            rw [this, bytesOf_m]
          (refine gw5 @h7 @e4 @e5 @hsh @hby ?_; try exact True.intro)
          (repeat (refine And.intro (by omega) ?_))
          refine drawn _ (f43 hcl ⟨rfl, rfl⟩) ?_
          (refine gw2 @hsh @e4 ?_; try exact True.intro)
          (repeat (refine And.intro (by omega) ?_))
          exact ⟨64 / 64 - (j + 1), by omega, j + 1, _, rfl, rfl, by omega⟩
        · have h7 : (((64 * j : Nat) : Int) < 64) = False := by simp only [eq_iff_iff, iff_false]; omega
          have hje : l.length / 64 + j = (pad l).length / 64 := by rw [pe_pad, hp]; omega
          rw [hje]
          unfold sha at h
          (refine gw2 @h7 @hsh ?_; try exact True.intro)
          refine f44 ?_
          have hdd := dg_len (v := hb (pad l) ((pad l).length / 64))
          generalize dg (hb (pad l) ((pad l).length / 64)) = d at h hdd ⊢
          (refine gw0 ?_; try exact True.intro)
          exact ⟨hdd, h⟩
    · have hp : pe l = 128 := if_neg h56
      have h5 : ((56 : Int) ≤ ((l.length % 64 : Nat) : Int)) = True := by simp only [eq_iff_iff, iff_true]; omega
      have gs : (bL fun k => (l.drop (64 * (l.length / 64))).getD k 0).set (l.length % 64) (.u8 128) = bL (pg l 128 0) := by rw [bL_set, pg_start (e := 128) (by omega)]
      (refine gw5 @hgX @hdl @ga @gs @h5 ?_; try exact True.intro)
      (repeat (refine And.intro (by omega) ?_))
      (refine gw1 @hgX ?_; try exact True.intro)
      refine wp_inv (I10a l _ 128 H _ _) 8 ⟨0, _, _, rfl, rfl, by omega⟩ ?_
      rintro k st ⟨i, u6, u12, rfl, rfl, hi⟩
      unfold X32 hB
      by_cases hil : i < 8
      · have h6 : ((i : Int) < 8) = True := by simp only [eq_iff_iff, iff_true]; omega
        have e1 : (127 : Int) - (i : Int) = ((128 - 1 - i : Nat) : Int) := by omega
        have e2 : 8 * (i : Int) = ((8 * i : Nat) : Int) := by omega
        have e3 : (BitVec.ofInt 64 ((8 * i : Nat) : Int)).toNat = 8 * i := ofInt64_nat (by omega)
        have gb := bL_at (f := pg l 128 i) (k := 128 - 1 - i) (by omega)
        have gt := pg_step (l := l) (e := 128) hil (by omega)
        (refine gw6 @h6 @e1 @e2 @e3 @gb @gt ?_; try exact True.intro)
        (repeat (refine And.intro (by omega) ?_))
        exact ⟨8 - (i + 1), by omega, i + 1, _, _, rfl, rfl, by omega⟩
      · have h6 : ((i : Int) < 8) = False := by simp only [eq_iff_iff, iff_false]; omega
        have hie : i = 8 := by omega
        subst hie
        (refine gw1 @h6 ?_; try exact True.intro)
        (refine gw0 ?_; try exact True.intro)
        refine wp_inv (I10b l _ 128 H u6 _ _) 2 ⟨0, _, by rw [hb0]; rfl, rfl, by omega⟩ ?_
        rintro k st ⟨j, u13, rfl, rfl, hj⟩
        unfold X32 hB
        by_cases hjl : 64 * j < 128
        · have h7 : (((64 * j : Nat) : Int) < 128) = True := by simp only [eq_iff_iff, iff_true]; omega
          have e4 : ((64 * j : Nat) : Int) + 64 = ((64 * j + 64 : Nat) : Int) := by omega
          have e5 : 64 * j + 64 - 64 * j = 64 := by omega
          have hcl : (ck (pad l) (l.length / 64 + j)).length = 64 := by unfold ck; rw [List.length_take, List.length_drop, pe_pad, hp]; omega
          have hby : bytesOf (List.take 64 (List.drop (64 * j) (bL (pg l 128 8)))) = some (ck (pad l) (l.length / 64 + j)) := by
            have := pg_ck (l := l) (i := j) (by omega)
            rw [hp] at this
            rw [this, bytesOf_m]
          (refine gw5 @h7 @e4 @e5 @hsh @hby ?_; try exact True.intro)
          (repeat (refine And.intro (by omega) ?_))
          refine drawn _ (f43 hcl ⟨rfl, rfl⟩) ?_
          (refine gw2 @hsh @e4 ?_; try exact True.intro)
          (repeat (refine And.intro (by omega) ?_))
          exact ⟨128 / 64 - (j + 1), by omega, j + 1, _, rfl, rfl, by omega⟩
        · have h7 : (((64 * j : Nat) : Int) < 128) = False := by simp only [eq_iff_iff, iff_false]; omega
          have hje : l.length / 64 + j = (pad l).length / 64 := by rw [pe_pad, hp]; omega
          rw [hje]
          unfold sha at h
          (refine gw2 @h7 @hsh ?_; try exact True.intro)
          refine f44 ?_
          have hdd := dg_len (v := hb (pad l) ((pad l).length / 64))
          generalize dg (hb (pad l) ((pad l).length / 64)) = d at h hdd ⊢
          (refine gw0 ?_; try exact True.intro)
          exact ⟨hdd, h⟩
end Go.Proofs.YtajkclooknanjaaDoor

end
