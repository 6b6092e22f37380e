import Derived.Test.YtlcglclojlffgaaGreatDoorM0
import Derived.Test.YtlcglclojlffgaaGreatDoorVDecX
namespace Go.Proofs.YtlcglclojlffgaaGreatDoor
open Go.RowKit

/-- numbers, each behind a space -/
def wordsX (xs : List Int) : List UInt8 := xs.flatMap fun n => 32 :: Lib.itoa n
/-- the line of an item -/
def lineI (x : It) : List UInt8 :=
  if x.kind = 1 then [116, 101, 120, 116] ++ wordsX [x.row, x.col, x.scale] ++ 32 :: x.text.data.toList
  else if x.kind = 2 then [108, 105, 110, 101] ++ wordsX [x.row, x.col, x.tall, x.wide]
  else [115, 121, 109, 98, 111, 108] ++ wordsX [x.row, x.col, x.scale] ++ 32 :: x.name.data.toList ++ wordsX [x.level] ++ 32 :: x.text.data.toList
/-- the text of a valid label -/
def textL (l : Lb) : List UInt8 := [108, 97, 98, 101, 108] ++ wordsX [l.rows, l.cols] ++ 10 :: l.items.flatMap fun x => lineI x ++ [10]
def labT (l : Lb) : List UInt8 := if l.ok = true then textL l else []

theorem wordsX_dec (x : Int) (xs : List Int) : wordsX (x :: xs) = 32 :: decX (x :: xs) := by
  unfold decX
  induction xs generalizing x with
  | nil => simp [wordsX, glue]
  | cons y t ih =>
    have h := ih y
    simp only [List.map_cons] at h ⊢
    rw [show wordsX (x :: y :: t) = 32 :: Lib.itoa x ++ wordsX (y :: t) by simp [wordsX], h]
    simp [glue]
theorem wordsX_snoc (xs : List Int) (x : Int) : wordsX (xs ++ [x]) = wordsX xs ++ 32 :: Lib.itoa x := by simp [wordsX]
theorem wordsX_len (xs : List Int) (h : ∀ x ∈ xs, (Lib.itoa x).length ≤ 21) : (wordsX xs).length ≤ 22 * xs.length := by
  induction xs with
  | nil => simp [wordsX]
  | cons y t ih =>
    have h1 := h y (by simp)
    have h2 := ih fun x hx => h x (by simp [hx])
    rw [show wordsX (y :: t) = (32 :: Lib.itoa y) ++ wordsX t by simp [wordsX]]
    simp only [List.length_append, List.length_cons]
    omega

end Go.Proofs.YtlcglclojlffgaaGreatDoor
