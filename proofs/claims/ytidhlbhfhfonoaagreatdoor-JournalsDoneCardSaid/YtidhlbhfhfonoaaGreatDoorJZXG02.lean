/- Layer 1 (nums), in plain words: numbers as bytes, the highest first. No program in sight -/

namespace Go.Proofs.YtidhlbhfhfonoaaGreatDoor

/-- The lowest k bytes of n, the highest first. -/
def be : Nat → Nat → List Nat
  | 0, _ => []
  | k + 1, n => be k (n / 256) ++ [n % 256]
def Bytes (l : List Nat) : Prop := ∀ x ∈ l, x < 256

end Go.Proofs.YtidhlbhfhfonoaaGreatDoor
