/- SHA-256 as a plain function on numbers; trees of hashes. No Go here. -/
namespace Go.Proofs.YtmmijecookbajaaDoor
namespace Sp
def m : Nat := 4294967296
def turn (x k : Nat) : Nat := x / 2 ^ k ||| x * 2 ^ (32 - k) % 4294967296
def put8 (a c : Nat) : Nat := a * 2 ^ 8 % 4294967296 ||| c
def word (cs : List Nat) : Nat := cs.foldl put8 0
/-- the first i words of a block's schedule, i ≤ 16 -/
def first (b : List Nat) (i : Nat) : List Nat := (List.range i).map fun j => word ((b.drop (4 * j)).take 4)
def next4 (p x q y : Nat) : Nat :=
  (((p + (turn x 7 ^^^ turn x 18 ^^^ x / 2 ^ 3)) % 4294967296 + q) % 4294967296 + (turn y 17 ^^^ turn y 19 ^^^ y / 2 ^ 10)) % 4294967296
def next (ws : List Nat) : Nat :=
  next4 (ws.getD (ws.length - 16) 0) (ws.getD (ws.length - 15) 0) (ws.getD (ws.length - 7) 0) (ws.getD (ws.length - 2) 0)
/-- n words more -/
def more (ws : List Nat) : Nat → List Nat
  | 0 => ws
  | n + 1 => let r := more ws n; r ++ [next r]
def ks : List Nat := [1116352408, 1899447441, 3049323471, 3921009573, 961987163, 1508970993, 2453635748, 2870763221, 3624381080, 310598401, 607225278, 1426881987, 1925078388, 2162078206, 2614888103, 3248222580, 3835390401, 4022224774, 264347078, 604807628, 770255983, 1249150122, 1555081692, 1996064986, 2554220882, 2821834349, 2952996808, 3210313671, 3336571891, 3584528711, 113926993, 338241895, 666307205, 773529912, 1294757372, 1396182291, 1695183700, 1986661051, 2177026350, 2456956037, 2730485921, 2820302411, 3259730800, 3345764771, 3516065817, 3600352804, 4094571909, 275423344, 430227734, 506948616, 659060556, 883997877, 958139571, 1322822218, 1537002063, 1747873779, 1955562222, 2024104815, 2227730452, 2361852424, 2428436474, 2756734187, 3204031479, 3329325298]
def h0 : List Nat := [1779033703, 3144134277, 1013904242, 2773480762, 1359893119, 2600822924, 528734635, 1541459225]
def round (s : List Nat) (k w : Nat) : List Nat :=
  match s with
  | [a, b, c, d, e, f, g, h] =>
    let t := ((((h + (turn e 6 ^^^ turn e 11 ^^^ turn e 25)) % 4294967296 + (e &&& f ^^^ (4294967295 ^^^ e) &&& g)) % 4294967296 + k) % 4294967296 + w) % 4294967296
    let u := ((turn a 2 ^^^ turn a 13 ^^^ turn a 22) + ((a &&& b ^^^ a &&& c) ^^^ b &&& c)) % 4294967296
    [(t + u) % 4294967296, a, b, c, (d + t) % 4294967296, e, f, g]
  | _ => []
def rounds (s ws : List Nat) : Nat → List Nat
  | 0 => s
  | i + 1 => round (rounds s ws i) (ks.getD i 0) (ws.getD i 0)
def add8 (s t : List Nat) : List Nat := List.zipWith (fun a b => (a + b) % 4294967296) s t
def block (s b : List Nat) : List Nat := add8 s (rounds s (more (first b 16) 48) 64)
/-- the blocks of 64 bytes, one behind the other: i of them -/
def blocks (s b : List Nat) : Nat → List Nat
  | 0 => s
  | i + 1 => block (blocks s b i) ((b.drop (64 * i)).take 64)
def zeros (n : Nat) : Nat := (119 - n % 64) % 64
def pad (b : List Nat) : List Nat :=
  b ++ [128] ++ List.replicate (zeros b.length) 0 ++ [7, 6, 5, 4, 3, 2, 1, 0].map fun i => (b.length * 8 % 18446744073709551616) / 2 ^ (8 * i) % 256
def out (s : List Nat) : List Nat := (List.range 32).map fun i => s.getD (i / 4) 0 / 2 ^ (24 - 8 * (i % 4)) % 256
/-- SHA-256 of bytes. -/
def sha (b : List Nat) : List Nat := let p := pad b; out (blocks h0 p (p.length / 64))
theorem sha_abc : (sha [97, 98, 99]).take 4 = [186, 120, 22, 191] := by decide +kernel
end Sp
end Go.Proofs.YtmmijecookbajaaDoor
