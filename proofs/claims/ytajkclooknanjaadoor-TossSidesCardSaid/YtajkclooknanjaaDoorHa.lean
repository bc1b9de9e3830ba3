/-
  SHA-256 as lists of words: what a block does to a state, how bytes are padded. No program is in sight.
-/
import Derived.Test.YtajkclooknanjaaDoorBm
import Derived.Test.YtajkclooknanjaaDoorV38
open Go Go.V
namespace Go.V
set_option linter.unusedSimpArgs false
set_option linter.unusedVariables false
set_option maxRecDepth 100000

def rndI : List Int := [1116352408, 1899447441, 3049323471, 3921009573, 961987163, 1508970993, 2453635748, 2870763221, 3624381080, 310598401, 607225278, 1426881987, 1925078388, 2162078206, 2614888103, 3248222580, 3835390401, 4022224774, 264347078, 604807628, 770255983, 1249150122, 1555081692, 1996064986, 2554220882, 2821834349, 2952996808, 3210313671, 3336571891, 3584528711, 113926993, 338241895, 666307205, 773529912, 1294757372, 1396182291, 1695183700, 1986661051, 2177026350, 2456956037, 2730485921, 2820302411, 3259730800, 3345764771, 3516065817, 3600352804, 4094571909, 275423344, 430227734, 506948616, 659060556, 883997877, 958139571, 1322822218, 1537002063, 1747873779, 1955562222, 2024104815, 2227730452, 2361852424, 2428436474, 2756734187, 3204031479, 3329325298]
def rnds : List (BitVec 32) := rndI.map (BitVec.ofInt 32)

/-- four bytes as a word, the lowest one first -/
def le4 (a b c d : BitVec 8) : BitVec 32 := ((a.setWidth 32 ||| b.setWidth 32 <<< 8) ||| c.setWidth 32 <<< 16) ||| d.setWidth 32 <<< 24
theorem or_sh32' (x y : BitVec 32) (i : Nat) (hx : x.toNat < 2 ^ i) (hy : y.toNat * 2 ^ i < 2 ^ 32) : (x ||| y <<< i).toNat = x.toNat + y.toNat * 2 ^ i := by
  rw [BitVec.toNat_or, BitVec.toNat_shiftLeft, Nat.shiftLeft_eq, Nat.mod_eq_of_lt hy, Nat.or_comm, ← Nat.shiftLeft_eq, ← Nat.shiftLeft_add_eq_or_of_lt hx, Nat.add_comm]
theorem le4_eq (a b c d : BitVec 8) : a.setWidth 32 + 256#32 * b.setWidth 32 + 65536#32 * c.setWidth 32 + 16777216#32 * d.setWidth 32 = le4 a b c d := by
  have ha := a.isLt
  have hb := b.isLt
  have hc := c.isLt
  have hd := d.isLt
  have sa : (a.setWidth 32).toNat = a.toNat := by rw [BitVec.toNat_setWidth]; omega
  have sb : (b.setWidth 32).toNat = b.toNat := by rw [BitVec.toNat_setWidth]; omega
  have sc : (c.setWidth 32).toNat = c.toNat := by rw [BitVec.toNat_setWidth]; omega
  have sd : (d.setWidth 32).toNat = d.toNat := by rw [BitVec.toNat_setWidth]; omega
  have e1 := or_sh32' (a.setWidth 32) (b.setWidth 32) 8 (by omega) (by omega)
  have e2 := or_sh32' (a.setWidth 32 ||| b.setWidth 32 <<< 8) (c.setWidth 32) 16 (by omega) (by omega)
  have e3 := or_sh32' ((a.setWidth 32 ||| b.setWidth 32 <<< 8) ||| c.setWidth 32 <<< 16) (d.setWidth 32) 24 (by omega) (by omega)
  apply BitVec.eq_of_toNat_eq
  unfold le4
  rw [e3, e2, e1]
  simp only [BitVec.toNat_add, BitVec.toNat_mul, BitVec.toNat_ofNat, sa, sb, sc, sd]
  omega
/-- .. the other way about, by numbers -/
theorem be4_eq (a b c d : BitVec 8) : d.setWidth 32 * 16777216#32 + c.setWidth 32 * 65536#32 + b.setWidth 32 * 256#32 + a.setWidth 32 = le4 a b c d := by
  rw [← le4_eq, BitVec.mul_comm (d.setWidth 32), BitVec.mul_comm (c.setWidth 32), BitVec.mul_comm (b.setWidth 32)]
  generalize 16777216#32 * d.setWidth 32 = w
  generalize 65536#32 * c.setWidth 32 = x
  generalize 256#32 * b.setWidth 32 = y
  generalize a.setWidth 32 = z
  rw [BitVec.add_comm z y, BitVec.add_comm (y + z) x, BitVec.add_comm _ w, ← BitVec.add_assoc, ← BitVec.add_assoc]
/-- word i of bytes, the highest byte first -/
def bw (s : List (BitVec 8)) (i : Nat) : BitVec 32 := le4 (s.getD (4 * i + 3) 0) (s.getD (4 * i + 2) 0) (s.getD (4 * i + 1) 0) (s.getD (4 * i) 0)
/-- turned to the right -/
def ror (x : BitVec 32) (n : Nat) : BitVec 32 := x >>> n ||| x <<< (32 - n)
def sg0 (x : BitVec 32) : BitVec 32 := ror x 7 ^^^ ror x 18 ^^^ x >>> 3
def sg1 (x : BitVec 32) : BitVec 32 := ror x 17 ^^^ ror x 19 ^^^ x >>> 10
/-- the words of a block: the first 16, and i more -/
def swl (s : List (BitVec 8)) : Nat → List (BitVec 32)
  | 0 => (List.range 16).map (bw s)
  | i + 1 => let l := swl s i; l ++ [l.getD i 0 + sg0 (l.getD (i + 1) 0) + l.getD (i + 9) 0 + sg1 (l.getD (i + 14) 0)]
theorem swl_succ (s : List (BitVec 8)) (i : Nat) : swl s (i + 1) = swl s i ++ [(swl s i).getD i 0 + sg0 ((swl s i).getD (i + 1) 0) + (swl s i).getD (i + 9) 0 + sg1 ((swl s i).getD (i + 14) 0)] := rfl
theorem swl_len {s : List (BitVec 8)} : ∀ {i : Nat}, (swl s i).length = 16 + i
  | 0 => by simp [swl]
  | i + 1 => by rw [swl_succ, List.length_append, swl_len]; simp; omega
theorem getD_app {α : Type} {l m : List α} {d : α} {j : Nat} (h : j < l.length) : (l ++ m).getD j d = l.getD j d := by
  rw [List.getD_eq_getElem?_getD, List.getElem?_append_left h, List.getD_eq_getElem?_getD]
theorem swl_stay {s : List (BitVec 8)} {j : Nat} : ∀ {k i : Nat}, j < 16 + i → (swl s (i + k)).getD j 0 = (swl s i).getD j 0
  | 0, i, _ => rfl
  | k + 1, i, h => by
    rw [← Nat.add_assoc, swl_succ, getD_app (by rw [swl_len]; omega), swl_stay h]
/-- word i of a block -/
def sW (s : List (BitVec 8)) (i : Nat) : BitVec 32 := (swl s 48).getD i 0
theorem sW_lo {s : List (BitVec 8)} {i : Nat} (h : i < 16) : sW s i = bw s i := by
  unfold sW
  rw [show 48 = 0 + 48 from rfl, swl_stay (by omega), swl, List.getD_eq_getElem?_getD, List.getElem?_map, List.getElem?_range h]
  rfl
theorem sW_at {s : List (BitVec 8)} {i j : Nat} (h : j < 16 + i) (hi : i ≤ 48) : (swl s i).getD j 0 = sW s j := by
  unfold sW
  obtain ⟨k, hk⟩ : ∃ k, 48 = i + k := ⟨48 - i, by omega⟩
  rw [hk, swl_stay h]
theorem sW_hi {s : List (BitVec 8)} {i : Nat} (h : i < 48) : sW s (16 + i) = sW s i + sg0 (sW s (i + 1)) + sW s (i + 9) + sg1 (sW s (i + 14)) := by
  rw [← sW_at (s := s) (i := i + 1) (j := 16 + i) (by omega) (by omega), swl_succ]
  rw [sW_at (by omega) (by omega), sW_at (by omega) (by omega), sW_at (by omega) (by omega), sW_at (by omega) (by omega)]
  rw [List.getD_eq_getElem?_getD, List.getElem?_append_right (by rw [swl_len]; omega), swl_len]
  simp

/-- eight words -/
structure S8 where
  a : BitVec 32
  b : BitVec 32
  c : BitVec 32
  d : BitVec 32
  e : BitVec 32
  f : BitVec 32
  g : BitVec 32
  h : BitVec 32
def S8.l (v : S8) : List (BitVec 32) := [v.a, v.b, v.c, v.d, v.e, v.f, v.g, v.h]
def ini : S8 := ⟨1779033703, 3144134277, 1013904242, 2773480762, 1359893119, 2600822924, 528734635, 1541459225⟩
def big1 (e : BitVec 32) : BitVec 32 := ror e 6 ^^^ ror e 11 ^^^ ror e 25
def big0 (a : BitVec 32) : BitVec 32 := ror a 2 ^^^ ror a 13 ^^^ ror a 22
def chs (e f g : BitVec 32) : BitVec 32 := (e &&& f) ^^^ (~~~e &&& g)
def maj (a b c : BitVec 32) : BitVec 32 := (a &&& b) ^^^ (a &&& c) ^^^ (b &&& c)
def rt (k w : BitVec 32) (v : S8) : BitVec 32 := v.h + big1 v.e + chs v.e v.f v.g + k + w
def ru (v : S8) : BitVec 32 := big0 v.a + maj v.a v.b v.c
/-- one round -/
def rnd (k w : BitVec 32) (v : S8) : S8 := ⟨rt k w v + ru v, v.a, v.b, v.c, v.d + rt k w v, v.e, v.f, v.g⟩
/-- i rounds -/
def rds (s : List (BitVec 8)) (v : S8) : Nat → S8
  | 0 => v
  | i + 1 => rnd (rnds.getD i 0) (sW s i) (rds s v i)
def S8.plus (v u : S8) : S8 := ⟨v.a + u.a, v.b + u.b, v.c + u.c, v.d + u.d, v.e + u.e, v.f + u.f, v.g + u.g, v.h + u.h⟩
/-- a block taken into a state -/
def comp (h : S8) (s : List (BitVec 8)) : S8 := (rds s h 64).plus h
theorem maj_or (a b c : BitVec 32) : (a &&& b) ||| (a &&& c) ||| (b &&& c) = maj a b c := by
  unfold maj
  apply BitVec.eq_of_getLsbD_eq
  intro i hi
  simp only [BitVec.getLsbD_or, BitVec.getLsbD_and, BitVec.getLsbD_xor]
  cases a.getLsbD i <;> cases b.getLsbD i <;> cases c.getLsbD i <;> rfl
theorem not_sub (e : BitVec 32) : 4294967295 - e = ~~~e := by
  apply BitVec.eq_of_toNat_eq
  rw [BitVec.toNat_sub, BitVec.toNat_not]
  have := e.isLt
  rw [show (4294967295 : BitVec 32).toNat = 4294967295 from rfl]
  omega
/-- a word as four bytes, the highest one first -/
def w4 (w : BitVec 32) : List (BitVec 8) := [(w >>> 24).setWidth 8, (w >>> 16).setWidth 8, (w >>> 8).setWidth 8, w.setWidth 8]
/-- a state as bytes -/
def dg (v : S8) : List (BitVec 8) := w4 v.a ++ (w4 v.b ++ (w4 v.c ++ (w4 v.d ++ (w4 v.e ++ (w4 v.f ++ (w4 v.g ++ w4 v.h))))))

/-- block m of bytes -/
def ck (l : List (BitVec 8)) (m : Nat) : List (BitVec 8) := (l.drop (64 * m)).take 64
/-- m blocks taken into the state at the beginning -/
def hb (l : List (BitVec 8)) : Nat → S8
  | 0 => ini
  | m + 1 => comp (hb l m) (ck l m)
theorem ck_app {l r : List (BitVec 8)} {m : Nat} (h : 64 * m + 64 ≤ l.length) : ck (l ++ r) m = ck l m := by
  unfold ck
  rw [List.drop_append_of_le_length (by omega), List.take_append_of_le_length (by rw [List.length_drop]; omega)]
theorem hb_app {l r : List (BitVec 8)} : ∀ {m : Nat}, 64 * m ≤ l.length → hb (l ++ r) m = hb l m
  | 0, _ => rfl
  | m + 1, h => by rw [hb, hb, hb_app (by omega), ck_app (by omega)]
/-- how many bytes there are, as eight bytes -/
def len8 (n : Nat) : List (BitVec 8) := (List.range 8).map fun i => ((BitVec.ofNat 64 n * 8) >>> (8 * (7 - i))).setWidth 8
def zc (n : Nat) : Nat := (119 - n % 64) % 64
/-- what follows the bytes -/
def pad (l : List (BitVec 8)) : List (BitVec 8) := l ++ (128 :: (List.replicate (zc l.length) 0 ++ len8 l.length))
theorem len8_len {n : Nat} : (len8 n).length = 8 := by simp [len8]
theorem pad_len {l : List (BitVec 8)} : (pad l).length = l.length + 9 + zc l.length := by simp [pad, len8_len]; omega
/-- the sum of bytes -/
def sha (l : List (BitVec 8)) : List (BitVec 8) := dg (hb (pad l) ((pad l).length / 64))
theorem dg_len {v : S8} : (dg v).length = 32 := rfl
theorem sha_len {l : List (BitVec 8)} : (sha l).length = 32 := rfl
end Go.V
