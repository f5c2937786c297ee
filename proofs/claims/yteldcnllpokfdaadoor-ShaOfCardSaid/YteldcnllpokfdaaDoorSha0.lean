/- The plain functions of SHA-256 over whole numbers: rotations, the words of a block, a round, a state; lemmas on rows of words. No conditions. -/
import Derived.WalkKit
namespace Go.Proofs.YteldcnllpokfdaaDoor
namespace Sha
def M : Int := 4294967296
def add (a b : Int) : Int := (a + b) % 4294967296
def rr (p q x : Int) : Int := bits .or .u32 (x / p) (x * q % 4294967296)
def xor (a b : Int) : Int := bits .xor .u32 a b
def and (a b : Int) : Int := bits .and .u32 a b
def or (a b : Int) : Int := bits .or .u32 a b
def r2 (x : Int) : Int := rr 4 1073741824 x
def r6 (x : Int) : Int := rr 64 67108864 x
def r7 (x : Int) : Int := rr 128 33554432 x
def r11 (x : Int) : Int := rr 2048 2097152 x
def r13 (x : Int) : Int := rr 8192 524288 x
def r17 (x : Int) : Int := rr 131072 32768 x
def r18 (x : Int) : Int := rr 262144 16384 x
def r19 (x : Int) : Int := rr 524288 8192 x
def r22 (x : Int) : Int := rr 4194304 1024 x
def r25 (x : Int) : Int := rr 33554432 128 x
def sg0 (x : Int) : Int := xor (xor (r7 x) (r18 x)) (x / 8)
def sg1 (x : Int) : Int := xor (xor (r17 x) (r19 x)) (x / 1024)
def up0 (x : Int) : Int := xor (xor (r2 x) (r13 x)) (r22 x)
def up1 (x : Int) : Int := xor (xor (r6 x) (r11 x)) (r25 x)
def word4 (a b c d : Int) : Int := or (or (or (a * 16777216 % 4294967296) (b * 65536 % 4294967296)) (c * 256 % 4294967296)) d
def u8 (x : Int) : Int := x % 4294967296
def word (b : List Int) (i : Nat) : Int := word4 (u8 (b.getD (4 * i) 0)) (u8 (b.getD (4 * i + 1) 0)) (u8 (b.getD (4 * i + 2) 0)) (u8 (b.getD (4 * i + 3) 0))
def nextw (a b c d : Int) : Int := add (add (add a (sg0 b)) c) (sg1 d)
def next (l : List Int) (n : Nat) : Int := nextw (l.getD (n - 16) 0) (l.getD (n - 15) 0) (l.getD (n - 7) 0) (l.getD (n - 2) 0)
def Wl (b : List Int) : Nat → List Int
  | 0 => []
  | n + 1 => Wl b n ++ [if n < 16 then word b n else next (Wl b n) n]
def t1f (h e f g k w : Int) : Int := add (add (add (add h (up1 e)) (xor (and e f) (and (xor 4294967295 e) g))) k) w
def t2f (a b c : Int) : Int := add (up0 a) (xor (xor (and a b) (and a c)) (and b c))
def rstep (s : List Int) (k w : Int) : List Int :=
  [add (t1f (s.getD 7 0) (s.getD 4 0) (s.getD 5 0) (s.getD 6 0) k w) (t2f (s.getD 0 0) (s.getD 1 0) (s.getD 2 0)), s.getD 0 0, s.getD 1 0, s.getD 2 0,
   add (s.getD 3 0) (t1f (s.getD 7 0) (s.getD 4 0) (s.getD 5 0) (s.getD 6 0) k w), s.getD 4 0, s.getD 5 0, s.getD 6 0]
def rounds (K W s : List Int) : Nat → List Int
  | 0 => s
  | n + 1 => rstep (rounds K W s n) (K.getD n 0) (W.getD n 0)
def plus (s h : List Int) (n : Nat) : List Int := (List.range 8).map fun i => if i < n then add (s.getD i 0) (h.getD i 0) else s.getD i 0
def roundF (K h b : List Int) : List Int := plus (rounds K (Wl b 64) h 64) h 8

def KK : List Int := [1116352408, 1899447441, 3049323471, 3921009573, 961987163, 1508970993, 2453635748, 2870763221, 3624381080, 310598401, 607225278, 1426881987, 1925078388, 2162078206, 2614888103, 3248222580, 3835390401, 4022224774, 264347078, 604807628, 770255983, 1249150122, 1555081692, 1996064986, 2554220882, 2821834349, 2952996808, 3210313671, 3336571891, 3584528711, 113926993, 338241895, 666307205, 773529912, 1294757372, 1396182291, 1695183700, 1986661051, 2177026350, 2456956037, 2730485921, 2820302411, 3259730800, 3345764771, 3516065817, 3600352804, 4094571909, 275423344, 430227734, 506948616, 659060556, 883997877, 958139571, 1322822218, 1537002063, 1747873779, 1955562222, 2024104815, 2227730452, 2361852424, 2428436474, 2756734187, 3204031479, 3329325298]
theorem KK_length : KK.length = 64 := rfl
theorem Wl_length (b : List Int) (n : Nat) : (Wl b n).length = n := by
  induction n with
  | zero => rfl
  | succ n ih => simp [Wl, ih]
theorem rounds_length (K W s : List Int) (h : s.length = 8) (n : Nat) : (rounds K W s n).length = 8 := by
  cases n with
  | zero => exact h
  | succ n => rfl
theorem plus_length (s h : List Int) (n : Nat) : (plus s h n).length = 8 := by simp [plus]
theorem roundF_length (K h b : List Int) : (roundF K h b).length = 8 := plus_length _ _ _

/-! rows of words in memory -/
def arr (l : List Int) (n : Nat) : Array Value := ((l ++ List.replicate (n - l.length) 0).map (Value.int .u32)).toArray
theorem arr_size (l : List Int) (n : Nat) (h : l.length ≤ n) : (arr l n).size = n := by simp [arr]; omega
theorem arr_get (l : List Int) (n j : Nat) (h : j < l.length) : (arr l n)[j]? = some (.int .u32 (l.getD j 0)) := by
  unfold arr
  rw [List.getElem?_toArray, List.getElem?_map, List.getElem?_append_left h, List.getD_eq_getElem?_getD, List.getElem?_eq_getElem h]; rfl
theorem arr_get0 (l : List Int) (n j : Nat) (h : l.length ≤ j) (h2 : j < n) : (arr l n)[j]? = some (.int .u32 0) := by
  have hj : j - l.length < n - l.length := by omega
  unfold arr
  rw [List.getElem?_toArray, List.getElem?_map, List.getElem?_append_right h, List.getElem?_replicate, if_pos hj]; rfl
theorem arr_set (l : List Int) (n : Nat) (v : Int) (h : l.length < n) : (arr l n).setIfInBounds l.length (.int .u32 v) = arr (l ++ [v]) n := by
  unfold arr
  have e : n - l.length = (n - (l ++ [v]).length) + 1 := by simp; omega
  rw [e, List.replicate_succ]
  simp
def row (l : List Int) : Array Value := (l.map (Value.int .u32)).toArray
theorem arr_full (l : List Int) (n : Nat) (h : l.length = n) : arr l n = row l := by simp [arr, row, h]
theorem row_size (l : List Int) : (row l).size = l.length := by simp [row]
theorem row_get (l : List Int) (j : Nat) (h : j < l.length) : (row l)[j]? = some (.int .u32 (l.getD j 0)) := by
  simp [row, List.getElem?_eq_getElem h, List.getD_eq_getElem?_getD]
theorem row_one (l : List Int) : (row l).all (·.oneCell') = true := by
  simp [row, Value.oneCell']
def bytes (l : List Int) : Array Value := (l.map (Value.int .u8)).toArray
theorem bytes_size (l : List Int) : (bytes l).size = l.length := by simp [bytes]
theorem bytes_get (l : List Int) (j : Nat) (h : j < l.length) : (bytes l)[j]? = some (.int .u8 (l.getD j 0)) := by
  simp [bytes, List.getElem?_eq_getElem h, List.getD_eq_getElem?_getD]
theorem bytes_one (l : List Int) : (bytes l).all (·.oneCell') = true := by
  simp [bytes, Value.oneCell']
theorem plus_zero (s h : List Int) (hs : s.length = 8) : plus s h 0 = s := by
  obtain ⟨a, b, c, d, e, f, g, i, rfl⟩ : ∃ a b c d e f g i, s = [a, b, c, d, e, f, g, i] := by
    match s, hs with
    | [a, b, c, d, e, f, g, i], _ => exact ⟨a, b, c, d, e, f, g, i, rfl⟩
  rfl
theorem plus_getD (s h : List Int) (n j : Nat) (hj : j < 8) : (plus s h n).getD j 0 = if j < n then add (s.getD j 0) (h.getD j 0) else s.getD j 0 := by
  unfold plus
  rw [List.getD_eq_getElem?_getD, List.getElem?_map, List.getElem?_range hj]
  rfl
theorem row_set (l : List Int) (j : Nat) (v : Int) : (row l).setIfInBounds j (.int .u32 v) = row (l.set j v) := by simp [row]
theorem plus_set (s h : List Int) (n : Nat) : (plus s h n).set n (add (s.getD n 0) (h.getD n 0)) = plus s h (n + 1) := by
  apply List.ext_getElem
  · simp [plus]
  · intro j h1 h2
    have hj : j < 8 := by simpa [plus] using h2
    simp only [List.getElem_set, plus, List.getElem_map, List.getElem_range]
    by_cases e : n = j
    · subst e; simp
    · rw [if_neg e]
      by_cases hl : j < n
      · rw [if_pos hl, if_pos (by omega)]
      · rw [if_neg hl, if_neg (by omega)]
end Sha
end Go.Proofs.YteldcnllpokfdaaDoor
