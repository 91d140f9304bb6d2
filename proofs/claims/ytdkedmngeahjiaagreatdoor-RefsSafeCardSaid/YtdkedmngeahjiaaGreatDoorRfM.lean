/- Plain: names of images over a disk. -/
import Derived.Test.YtdkedmngeahjiaaGreatDoorM1
import Derived.Test.YtdkedmngeahjiaaGreatDoorM7
import Derived.Test.YtdkedmngeahjiaaGreatDoorDiskA
import Derived.Test.YtdkedmngeahjiaaGreatDoorList
import Derived.Test.YtdkedmngeahjiaaGreatDoorRfF
namespace Go.Proofs.YtdkedmngeahjiaaGreatDoor
open Go Go.RowKit
def seqM (p : DM × Int) (f : DM → DM × Int) : DM × Int := if p.2 = 0 then f p.1 else p
theorem seqM_ok {p : DM × Int} {m : DM} (f : DM → DM × Int) (h : p = (m, 0)) : seqM p f = f m := by rw [h]; rfl
theorem seqM_no {p : DM × Int} {m : DM} {x : Int} (f : DM → DM × Int) (h : p = (m, x)) (hx : x ≠ 0) : seqM p f = (m, x) := by rw [h]; exact if_neg hx
/-- "refs/", and "tmp/ref" -/
def refHead : List UInt8 := [114, 101, 102, 115, 47]
def handR : ByteArray := ⟨#[116, 109, 112, 47, 114, 101, 102]⟩
/-- The file of a full form. -/
def refN (f : List UInt8) : ByteArray := ⟨(refHead ++ f).toArray⟩
/-- The full form in a file's name. -/
def tailM (n : ByteArray) : List UInt8 := if n.data.toList.take 5 = refHead then n.data.toList.drop 5 else n.data.toList
def restM (n : ByteArray) : Bool := fullM (tailM n) == some (tailM n)
def goneM (m : DM) : DM × Int := seqM (m.op (.remove handR)) fun m => m.op .flush
def clearR (m : DM) : DM × Int := if (m.reads handR).2 = 0 then goneM m else if (m.reads handR).2 = 10 then (m, 0) else (m, (m.reads handR).2)
/-- What is behind a Write. -/
def wroteM (n : ByteArray) (p : DM × Int) : DM × Int :=
  if p.2 = 0 then seqM (p.1.op (.sync handR)) fun m => seqM (m.op (.rename handR n)) fun m => m.op .flush
  else if p.2 = 28 then ((goneM p.1).1, 28) else p
def setM (m : DM) (n t : ByteArray) : DM × Int :=
  seqM (clearR m) fun m => seqM (m.op (.create handR)) fun m => wroteM n (m.op (.write handR t))
def getR (m : DM) (f : List UInt8) : List UInt8 × Int :=
  if (m.reads (refN f)).2 ≠ 0 then (zeroD, (m.reads (refN f)).2) else match parseD (m.reads (refN f)).1 with
    | some d => (d, 0)
    | none => (zeroD, 30)
def delM (m : DM) (n : ByteArray) : DM × Int := seqM (m.op (.remove n)) fun m => m.op .flush
/-- The names, of the files that there are. -/
def namesM (m : DM) : List ByteArray → Option (List (List UInt8 × ByteArray))
  | [] => some []
  | n :: r => if restM n then match parseD (m.reads n).1, namesM m r with
      | some _, some l => some ((tailM n, (m.reads n).1) :: l)
      | _, _ => none
    else namesM m r
def listR (m : DM) : List (List UInt8 × ByteArray) × Int :=
  if m.off then ([], 27) else match namesM m (m.lists ⟨refHead.toArray⟩) with
    | some l => (l, 0)
    | none => ([], 30)
def rightR (m : DM) (n : ByteArray) : Bool := restM n && (parseD (m.reads n).1).isSome
def badR (m : DM) : List ByteArray := (if (m.reads handR).2 = 0 then [handR] else []) ++ (m.lists ⟨refHead.toArray⟩).filter fun n => !rightR m n
def takesM : List ByteArray → DM → DM × Int
  | [], m => (m, 0)
  | n :: r, m => seqM (m.op (.remove n)) (takesM r)
def openR (m : DM) : DM × Int :=
  if m.off then (m, 27) else seqM (takesM (badR m) m) fun m' => if badR m = [] then (m', 0) else m'.op .flush
end Go.Proofs.YtdkedmngeahjiaaGreatDoor
