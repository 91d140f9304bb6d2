/- Texts of the seat, one behind the other: BlobS, BlobK, BlobF. -/
import Derived.Test.YtecgikanophonaaGreatDoorM27
import Derived.Test.YtecgikanophonaaGreatDoorBlobM
/- A disk that came in, or one of the call's own, beside blocks that it leaves alone. -/


namespace Go.Proofs.YtecgikanophonaaGreatDoor
open Go Go.RowKit Go.Maps Go.Shelf
/-- The disk in block a is m; its blocks are of S or new since w, and none of P; all else that w had is as it was. -/
structure St (w : World) (S P : Nat → Prop) (a : Nat) (w1 : World) (n : Nat) (m : DM) : Prop where
  ex : ∃ S1 : Nat → Prop, DiskAt w1 a n m S1 ∧ ∀ b, S1 b → (S b ∨ w.heap.size ≤ b) ∧ ¬ P b
  pl : ∀ b, P b → b < w1.heap.size
  off : Off S w w1
  sl : ∀ b, S b → b < w.heap.size
/-- P's blocks are as they were. -/
def SameP (P : Nat → Prop) (w w' : World) : Prop := ∀ b, P b → w'.heap[b]? = w.heap[b]?
section
variable {w w1 w2 w' : World} {S P : Nat → Prop} {a n n' : Nat} {m m' : DM}
theorem St.start (h : DiskAt w a n m S) (hP : ∀ b, P b → b < w.heap.size ∧ ¬ S b) : St w S P a w n m :=
  ⟨⟨S, h, fun b hb => ⟨.inl hb, fun hp => (hP b hp).2 hb⟩⟩, fun b hb => (hP b hb).1, Off.refl S w, h.lt⟩
theorem St.fin (h : St w S P a w1 n m) : DiskPost a n m S w w1 := by
  obtain ⟨⟨S1, h1, h2⟩, h3, h4, h5⟩ := h
  have hz := h4.size
  refine ⟨h1.sup (fun b hb => ?_) (fun b hb => ?_), h4⟩
  · rcases (h2 b hb).1 with hb2 | hb2
    · exact .inl hb2
    · exact .inr ⟨hb2, h1.lt b hb⟩
  · rcases hb with hb | hb
    · exact Nat.lt_of_lt_of_le (h5 b hb) hz
    · exact hb.2
theorem St.ok (h : St w S P a w1 n m) : m.Ok n := by
  obtain ⟨⟨S1, h1, h2⟩, -⟩ := h
  exact h1.ok
theorem St.more (h : St w S P a w1 n m) (hn : n ≤ n') : St w S P a w1 n' m := by
  obtain ⟨⟨S1, h1, h2⟩, h3, h4, h5⟩ := h
  exact ⟨⟨S1, h1.more hn, h2⟩, h3, h4, h5⟩
theorem St.size (h : St w S P a w1 n m) : w.heap.size ≤ w1.heap.size := h.off.size
/-- Others make memory. -/
theorem St.bel (h : St w S P a w1 n m) (hb : Below w1.heap.size w1 w2) (Q : Nat → Prop) (hQ : ∀ b, Q b → P b ∨ (w1.heap.size ≤ b ∧ b < w2.heap.size)) : St w S Q a w2 n m := by
  obtain ⟨⟨S1, h1, h2⟩, h3, h4, h5⟩ := h
  refine ⟨⟨S1, h1.below hb, fun b hb1 => ⟨(h2 b hb1).1, fun hq => ?_⟩⟩, fun b hb1 => ?_, h4.below hb h4.size, h5⟩
  · rcases hQ b hq with hp | ⟨hp, _⟩
    · exact (h2 b hb1).2 hp
    · have := h1.lt b hb1
      omega
  · rcases hQ b hb1 with hp | ⟨_, hp⟩
    · exact Nat.lt_of_lt_of_le (h3 b hp) hb.size
    · exact hp
theorem St.same (h : St w S P a w1 n m) (hb : Below w1.heap.size w1 w2) : SameP P w1 w2 := fun b hp => hb.block b (h.pl b hp)
theorem St.drews (h : St w S P a w1 n m) (q : Nat) : St w S P a (w1.drewN q) n m :=
  h.bel (w2 := w1.drewN q) ⟨rfl, rfl, rfl, Nat.le_refl _, fun _ _ => rfl⟩ P (fun _ hb => .inl hb)
theorem St.sub (h : St w S P a w1 n m) (Q : Nat → Prop) (hQ : ∀ b, Q b → P b) : St w S Q a w1 n m := h.bel (Below.refl _ _) Q (fun b hb => .inl (hQ b hb))
/-- A box of the call's own is written. -/
theorem St.setBox {k : Nat} (h : St w S P a w1 n m) (hk : w.heap.size ≤ k) (hp : P k) (v : Value) : St w S P a (w1.setCell ⟨k, 0, none⟩ v) n m := by
  obtain ⟨⟨S1, h1, h2⟩, h3, h4, h5⟩ := h
  exact ⟨⟨S1, h1.setBox (fun hs => (h2 k hs).2 hp) v, h2⟩, fun b hb => by rw [World.size_setCell]; exact h3 b hb, h4.setCell _ _ (fun hlt => by have : k < w.heap.size := hlt; omega), h5⟩
theorem St.setBlk {k : Nat} (h : St w S P a w1 n m) (hk : w.heap.size ≤ k) (hp : P k) (o : Obj) : St w S P a (Go.Proofs.YtecgikanophonaaGreatDoor.setBlk w1 k o) n m := by
  obtain ⟨⟨S1, h1, h2⟩, h3, h4, h5⟩ := h
  refine ⟨⟨S1, h1.frame (fun b hb => ?_) (by rw [setBlk_size]; exact Nat.le_refl _), h2⟩, fun b hb => by rw [setBlk_size]; exact h3 b hb, h4.setBlk (fun hlt => by omega), h5⟩
  exact setBlk_other (fun e => (h2 b hb).2 (by rw [e]; exact hp))
theorem St.post {S1 : Nat → Prop} (h2 : ∀ b, S1 b → (S b ∨ w.heap.size ≤ b) ∧ ¬ P b) (h3 : ∀ b, P b → b < w1.heap.size) (h4 : Off S w w1) (h5 : ∀ b, S b → b < w.heap.size) (hp : DiskPost a n' m' S1 w1 w') : St w S P a w' n' m' ∧ SameP P w1 w' := by
  have hz := h4.size
  have hz2 := hp.2.size
  refine ⟨⟨⟨_, hp.1, ?_⟩, fun b hb => Nat.lt_of_lt_of_le (h3 b hb) hz2, h4.trans hp.2 (fun i hi hs => ?_), h5⟩, fun b hb => hp.2.block b (h3 b hb) (fun hs => (h2 b hs).2 hb)⟩
  · rintro b (hb | ⟨hb, _⟩)
    · exact h2 b hb
    · exact ⟨.inr (by omega), fun hpb => by have := h3 b hpb; omega⟩
  · rcases (h2 i hs).1 with h | h
    · exact h
    · omega
/-- An operation's end. -/
def StPost (w : World) (S P : Nat → Prop) (a : Nat) (w1 : World) (n : Nat) (m : DM) (c : DCall) (e : Ending) (w' : World) : Prop := e = .returned (errE (m.op c).2) ∧ St w S P a w' (n + 1) (m.op c).1 ∧ SameP P w1 w'
theorem st_op {f : FuncId} {args : Array Value} {c : DCall} (h : St w S P a w1 n m) (hc : ∀ S1, DiskAt w1 a n m S1 → Calls Tryz.prog f args w1 fun e w' => OpPost a n m c S1 w1 w' e) : Calls Tryz.prog f args w1 (StPost w S P a w1 n m c) := by
  obtain ⟨⟨S1, h1, h2⟩, h3, h4, h5⟩ := h
  refine (hc S1 h1).mono fun e w' hp => ?_
  obtain ⟨h6, h7⟩ := St.post h2 h3 h4 h5 hp.2
  exact ⟨hp.1, h6, h7⟩
theorem room_fit (h : m.Ok n) (hn : n ≤ 4000000000) : n * m.room ≤ 4611686018427387904 := Nat.le_trans (Nat.mul_le_mul hn h.room) (by decide)
theorem st_create (h : St w S P a w1 n m) (s : ByteArray) (hs : s.size ≤ maxLen) (hn : n ≤ 4000000000) : Calls Tryz.prog 59 #[.pointer (some ⟨a, 0, none⟩), .string s] w1 (StPost w S P a w1 n m (.create s)) :=
  st_op h fun _ hd => create_any hd s hs (by omega)
theorem st_write (h : St w S P a w1 n m) (s d : ByteArray) (hs : s.size ≤ maxLen) (hd : d.size ≤ 140737488355328) (hn : n ≤ 4000000000) : Calls Tryz.prog 60 #[.pointer (some ⟨a, 0, none⟩), .string s, .string d] w1 (StPost w S P a w1 n m (.write s d)) :=
  st_op h fun _ hk => write_any hk s d hs hd (room_fit hk.ok hn) (by omega)
theorem st_sync (h : St w S P a w1 n m) (s : ByteArray) (hs : s.size ≤ maxLen) (hn : n ≤ 4000000000) : Calls Tryz.prog 61 #[.pointer (some ⟨a, 0, none⟩), .string s] w1 (StPost w S P a w1 n m (.sync s)) :=
  st_op h fun _ hd => sync_any hd s hs (by omega)
theorem st_remove (h : St w S P a w1 n m) (s : ByteArray) (hs : s.size ≤ maxLen) (hn : n ≤ 4000000000) : Calls Tryz.prog 36 #[.pointer (some ⟨a, 0, none⟩), .string s] w1 (StPost w S P a w1 n m (.remove s)) :=
  st_op h fun _ hd => remove_any hd s hs (by omega)
theorem st_rename (h : St w S P a w1 n m) (o s : ByteArray) (ho : o.size ≤ maxLen) (hs : s.size ≤ maxLen) (hn : n ≤ 4000000000) : Calls Tryz.prog 91 #[.pointer (some ⟨a, 0, none⟩), .string o, .string s] w1 (StPost w S P a w1 n m (.rename o s)) :=
  st_op h fun _ hd => rename_any hd o s ho hs (by omega)
theorem st_flush (h : St w S P a w1 n m) (hn : n ≤ 4000000000) : Calls Tryz.prog 37 #[.pointer (some ⟨a, 0, none⟩)] w1 (StPost w S P a w1 n m .flush) :=
  st_op h fun _ hd => flush_any hd (by omega)
theorem st_read (h : St w S P a w1 n m) (s : ByteArray) (hs : s.size ≤ maxLen) : Calls Tryz.prog 34 #[.pointer (some ⟨a, 0, none⟩), .string s] w1 fun e w' => e = .returned (.tuple #[.string (m.reads s).1, errE (m.reads s).2]) ∧ w1 = w' := by
  obtain ⟨⟨S1, h1, h2⟩, -⟩ := h
  exact read_any h1 s hs
theorem st_list (h : St w S P a w1 n m) (hd : ByteArray) (hn : n ≤ 4000000000) : Calls Tryz.prog 25 #[.pointer (some ⟨a, 0, none⟩), .string hd] w1 fun e w' => ∃ v, e = .returned (.tuple #[v, errE (if m.off then 27 else 0)]) ∧ OwnTexts w1.heap.size w' v (m.lists hd) ∧ Below w1.heap.size w1 w' := by
  obtain ⟨⟨S1, h1, h2⟩, -⟩ := h
  exact list_any h1 hd (by omega)
theorem reads_size (h : m.Ok n) (s : ByteArray) : (m.reads s).1.size ≤ 268435456 := by
  unfold DM.reads
  split
  · exact Nat.zero_le _
  · split
    · rename_i i hi
      have := (h.file _ (get!_mem (tget_lt h.nowI hi))).2
      have := h.room
      show (m.files[i]!.data).size ≤ _
      omega
    · exact Nat.zero_le _
end
/-- A store's box. -/
def storeO (a : Nat) (x : Int) : Obj := .cells #[.pointer (some ⟨a, 0, none⟩), .int .i64 x] 78 (0, 0)
end Go.Proofs.YtecgikanophonaaGreatDoor
/- Plain: what BlobsKnown asks of the store over its model. -/
namespace Go.Proofs.YtecgikanophonaaGreatDoor
open Go Go.RowKit
/-- A digest: 32 bytes. -/
abbrev Dg := {d : List UInt8 // d.length = 32}
instance : Inhabited Dg := ⟨⟨zeroD, rfl⟩⟩
theorem named_len (n : ByteArray) : ((namedM n).getD zeroD).length = 32 := by
  cases h : namedM n with
  | none => rfl
  | some d => exact (parseD_inv h).2
def digOf (n : ByteArray) : Dg := ⟨(namedM n).getD zeroD, named_len n⟩
/-- The digests whose files are right. -/
def listM (m : DM) (x : Int) : List Dg := ((m.lists ⟨blobHead.toArray⟩).filter fun n => (rightM m x n).isSome).map digOf
section
variable (sh : Int → ByteArray → List UInt8)
def rightS (m : DM) (x : Int) (n : ByteArray) : Option ByteArray :=
  match namedM n with
  | none => none
  | some d => if (m.reads n).2 = 0 ∧ sh x (m.reads n).1 = d then some (m.reads n).1 else none
def putS (m : DM) (x : Int) (t : ByteArray) : DM × (List UInt8 × Int) :=
  if m.off then (m, zeroD, 27) else
  match rightS sh m x (fileN (sh x t)) with
  | some u => if u = t then (m, sh x t, 0) else (m, zeroD, 29)
  | none => if (layM m (fileN (sh x t)) t).2 = 0 then ((layM m (fileN (sh x t)) t).1, sh x t, 0) else ((layM m (fileN (sh x t)) t).1, zeroD, (layM m (fileN (sh x t)) t).2)
def getS (m : DM) (x : Int) (d : List UInt8) : ByteArray × Int :=
  if (m.reads (fileN d)).2 ≠ 0 then (⟨#[]⟩, (m.reads (fileN d)).2) else if sh x (m.reads (fileN d)).1 = d then ((m.reads (fileN d)).1, 0) else (⟨#[]⟩, 30)
def badS (m : DM) (x : Int) : List ByteArray := (if (m.reads handN).2 = 0 then [handN] else []) ++ (m.lists ⟨blobHead.toArray⟩).filter fun n => (rightS sh m x n).isNone
def openS (m : DM) (x : Int) : DM × Int :=
  if m.off then (m, 27) else seqM (takesM (badS sh m x) m) fun m' => if badS sh m x = [] then (m', 0) else m'.op .flush
def listS (m : DM) (x : Int) : List (List UInt8) := ((m.lists ⟨blobHead.toArray⟩).filter fun n => (rightS sh m x n).isSome).map fun n => (namedM n).getD zeroD
end
theorem rightS_eq : rightM = rightS shaU := rfl
theorem putS_eq : putM = putS shaU := rfl
theorem getS_eq : getM = getS shaU := rfl
theorem badS_eq : badM = badS shaU := rfl
theorem openS_eq : openM = openS shaU := rfl
theorem listS_eq (m : DM) (x : Int) : (listM m x).map (·.1) = listS shaU m x := by
  unfold listM listS
  rw [List.map_map]
  rfl
/-- The texts and their digests. -/
def xN : ByteArray := ⟨#[120]⟩
def abcN : ByteArray := ⟨#[97, 98, 99]⟩
def qsN : ByteArray := ⟨Array.replicate 198 113⟩
def dX : List UInt8 := [45, 113, 22, 66, 183, 38, 176, 68, 1, 98, 124, 169, 251, 172, 50, 245, 200, 83, 15, 177, 144, 60, 196, 219, 2, 37, 135, 23, 146, 26, 72, 129]
def d0 : List UInt8 := [227, 176, 196, 66, 152, 252, 28, 20, 154, 251, 244, 200, 153, 111, 185, 36, 39, 174, 65, 228, 100, 155, 147, 76, 164, 149, 153, 27, 120, 82, 184, 85]
def dN : List UInt8 := [110, 52, 11, 156, 255, 179, 122, 152, 156, 165, 68, 230, 187, 120, 10, 44, 120, 144, 29, 63, 179, 55, 56, 118, 133, 17, 163, 6, 23, 175, 160, 29]
def dAbc : List UInt8 := [186, 120, 22, 191, 143, 1, 207, 234, 65, 65, 64, 222, 93, 174, 34, 35, 176, 3, 97, 163, 150, 23, 122, 156, 180, 16, 255, 97, 242, 0, 21, 173]
def dA : List UInt8 := [202, 151, 129, 18, 202, 27, 189, 202, 250, 194, 49, 179, 154, 35, 220, 77, 167, 134, 239, 248, 20, 124, 78, 114, 185, 128, 119, 133, 175, 238, 72, 187]
def dQs : List UInt8 := [229, 204, 180, 194, 88, 132, 44, 138, 111, 165, 36, 78, 244, 6, 7, 27, 10, 213, 152, 203, 192, 48, 27, 52, 156, 123, 18, 39, 219, 201, 96, 174]
set_option maxRecDepth 100000 in
theorem sh_x : shaU 32 xN = dX := by decide +kernel
set_option maxRecDepth 100000 in
theorem sh_0 : shaU 32 ⟨#[]⟩ = d0 := by decide +kernel
set_option maxRecDepth 100000 in
theorem sh_n : shaU 32 ⟨#[0]⟩ = dN := by decide +kernel
set_option maxRecDepth 100000 in
theorem sh_abc32 : shaU 32 abcN = dAbc := by decide +kernel
set_option maxRecDepth 100000 in
theorem sh_a : shaU 32 ⟨#[97]⟩ = dA := by decide +kernel
set_option maxRecDepth 100000 in
theorem sh_qs : shaU 32 qsN = dQs := by decide +kernel
/-- The digest, by a table where it is known. -/
def tabS (x : Int) (t : ByteArray) : List UInt8 :=
  if x = 32 ∧ t = xN then dX else if x = 32 ∧ t = ⟨#[]⟩ then d0 else if x = 32 ∧ t = ⟨#[0]⟩ then dN else if x = 32 ∧ t = abcN then dAbc else if x = 32 ∧ t = qsN then dQs else shaU x t
theorem tabS_eq : shaU = tabS := by
  funext x t
  unfold tabS
  split
  · rename_i h; rw [h.1, h.2]; exact sh_x
  · split
    · rename_i h; rw [h.1, h.2]; exact sh_0
    · split
      · rename_i h; rw [h.1, h.2]; exact sh_n
      · split
        · rename_i h; rw [h.1, h.2]; exact sh_abc32
        · split
          · rename_i h; rw [h.1, h.2]; exact sh_qs
          · rfl
/-- A Put of x in whose n-th operation the power fails; the store behind it, Open's error, Put's. -/
def struckM (n : Int) (ks : List Int) : DM × Int × Int :=
  ((openM (putM ((DM.new 200).arm n ks) 32 xN).1.revive 32).1, (openM (putM ((DM.new 200).arm n ks) 32 xN).1.revive 32).2, (putM ((DM.new 200).arm n ks) 32 xN).2.2)
def struckS (n : Int) (ks : List Int) : DM × Int × Int :=
  ((openS tabS (putS tabS ((DM.new 200).arm n ks) 32 xN).1.revive 32).1, (openS tabS (putS tabS ((DM.new 200).arm n ks) 32 xN).1.revive 32).2, (putS tabS ((DM.new 200).arm n ks) 32 xN).2.2)
theorem struckS_eq (n : Int) (ks : List Int) : struckM n ks = struckS n ks := by
  unfold struckM struckS
  rw [putS_eq, openS_eq, tabS_eq]
/-- What is asked of one that is struck. -/
def strikes (n : Int) (ks : List Int) : Bool :=
  decide ((struckS n ks).2.1 = 0) && decide ((struckS n ks).2.2 = if 5 < n then 0 else 27) &&
    decide ((getS tabS (struckS n ks).1 32 dX).2 = 0 ∧ (getS tabS (struckS n ks).1 32 dX).1 = xN ∨ (getS tabS (struckS n ks).1 32 dX).2 = 10 ∧ n ≤ 5) &&
    decide ((badS tabS (putS tabS ((DM.new 200).arm n ks) 32 xN).1.revive 32).length ≤ 2) &&
    ((putS tabS ((DM.new 200).arm n ks) 32 xN).1.revive.lists ⟨blobHead.toArray⟩).all (fun s => decide (s.size ≤ 200))
set_option maxRecDepth 100000 in
theorem strikes_all : ∀ n ∈ ([1, 2, 3, 4, 5, 6, 7] : List Int), ∀ a ∈ ([0, 1] : List Int), ∀ b ∈ ([0, 1] : List Int), ∀ c ∈ ([0, 1, 2, 3] : List Int), strikes n [a, b, c] = true := by decide +kernel
set_option maxRecDepth 100000 in
theorem strikes_four : (strikes 4 [1, 1] && strikes 4 [0] && strikes 4 [1, 0] && strikes 3 [1]) = true := by decide +kernel
/-- .. in the model's own words. -/
theorem strikes_of {n : Int} {ks : List Int} (h : strikes n ks = true) :
    (struckM n ks).2.1 = 0 ∧ (struckM n ks).2.2 = (if 5 < n then 0 else 27) ∧ ((getM (struckM n ks).1 32 dX).2 = 0 ∧ (getM (struckM n ks).1 32 dX).1 = xN ∨ (getM (struckM n ks).1 32 dX).2 = 10 ∧ n ≤ 5) ∧
      (badM (putM ((DM.new 200).arm n ks) 32 xN).1.revive 32).length ≤ 2 ∧ ∀ s ∈ (putM ((DM.new 200).arm n ks) 32 xN).1.revive.lists ⟨blobHead.toArray⟩, s.size ≤ 200 := by
  rw [struckS_eq, getS_eq, badS_eq, putS_eq, tabS_eq]
  unfold strikes at h
  simp only [Bool.and_eq_true, decide_eq_true_eq, List.all_eq_true] at h
  obtain ⟨⟨⟨⟨h1, h2⟩, h3⟩, h4⟩, h5⟩ := h
  exact ⟨h1, h2, h3, h4, h5⟩
set_option maxRecDepth 100000 in
theorem get_four : (getS tabS (struckS 4 [1, 1]).1 32 dX).2 = 0 ∧ (getS tabS (struckS 4 [0]).1 32 dX).2 = 10 ∧ (getS tabS (struckS 4 [1, 0]).1 32 dX).2 = 10 ∧ (getS tabS (struckS 3 [1]).1 32 dX).2 = 10 := by decide +kernel
theorem getM_four : (getM (struckM 4 [1, 1]).1 32 dX).2 = 0 ∧ (getM (struckM 4 [0]).1 32 dX).2 = 10 ∧ (getM (struckM 4 [1, 0]).1 32 dX).2 = 10 ∧ (getM (struckM 3 [1]).1 32 dX).2 = 10 := by
  rw [struckS_eq, struckS_eq, struckS_eq, struckS_eq, getS_eq, tabS_eq]
  exact get_four
/-- The disk of the chapter's examples, behind each call. -/
def k1 : DM := (putM (DM.new 200) 32 ⟨#[]⟩).1
def k2 : DM := (takeM k1 dA).1
def k3 : DM := (putM k2 32 abcN).1
def k4 : DM := (putM k3 32 abcN).1
def k5 : DM := (putM k4 32 qsN).1
def e1 : DM := (putS tabS (DM.new 200) 32 ⟨#[]⟩).1
def e2 : DM := (takeM e1 dA).1
def e3 : DM := (putS tabS e2 32 abcN).1
def e4 : DM := (putS tabS e3 32 abcN).1
def e5 : DM := (putS tabS e4 32 qsN).1
theorem k1_eq : k1 = e1 := by unfold k1 e1; rw [putS_eq, tabS_eq]
theorem k2_eq : k2 = e2 := by unfold k2 e2; rw [k1_eq]
theorem k3_eq : k3 = e3 := by unfold k3 e3; rw [k2_eq, putS_eq, tabS_eq]
theorem k4_eq : k4 = e4 := by unfold k4 e4; rw [k3_eq, putS_eq, tabS_eq]
theorem k5_eq : k5 = e5 := by unfold k5 e5; rw [k4_eq, putS_eq, tabS_eq]
set_option maxRecDepth 100000 in
theorem shown_all : (putS tabS (DM.new 200) 32 ⟨#[]⟩).2 = (d0, 0) ∧ e1.off = false ∧ listS tabS e1 32 = [d0] ∧ (getS tabS e1 32 d0).2 = 0 ∧ (getS tabS e1 32 dA).2 = 10 ∧ (takeM e1 dA).2 = 10 ∧ (putS tabS e2 32 abcN).2 = (dAbc, 0) ∧ (putS tabS e3 32 abcN).2 = (dAbc, 0) ∧
    (putS tabS e4 32 qsN).2 = (zeroD, 28) ∧ e5.off = false ∧ e5.used = 3 := by decide +kernel
set_option maxRecDepth 100000 in
theorem shown_lists : (e5.lists ⟨#[116, 109, 112, 47]⟩).isEmpty = true ∧ (e1.lists ⟨blobHead.toArray⟩).all (fun s => decide (s.size ≤ 200)) = true := by decide +kernel
end Go.Proofs.YtecgikanophonaaGreatDoor
/- Plain: of the least width: what files lie there, and that two texts clash. -/
namespace Go.Proofs.YtecgikanophonaaGreatDoor
open Go Go.RowKit
/-- What files a Put leaves, while the power stays on. -/
theorem lay_files {m : DM} (hc : m.Calm) (hr : Rising m.now) (hh : m.get handN = none) (name t : ByteArray) (hn : rightB name = true) :
    (∃ f, (layM m name t).1.files = m.files ++ [f] ∧ f.data.size ≤ t.size) ∧ (layM m name t).1.room = m.room := by
  obtain ⟨off, room, files, now, safe, pend, armed, keep⟩ := m
  obtain ⟨h1, h2⟩ := hc
  simp only at h1 h2 hr
  subst h1 h2
  have hg : tget now handN.data.toList = none := hh
  have e0 : clearM ⟨false, room, files, now, safe, pend, 0, keep⟩ = (⟨false, room, files, now, safe, pend, 0, keep⟩, 0) := by
    unfold clearM
    rw [reads_on rfl]
    simp only
    rw [hg]
    rfl
  obtain ⟨m1, hm1⟩ : ∃ x : DM, x = ⟨false, room, files ++ [⟨⟨#[]⟩, 0⟩], tput now handN.data.toList files.length, safe, pend ++ [.create handN files.length], 0, keep⟩ := ⟨_, rfl⟩
  have e1 : (⟨false, room, files, now, safe, pend, 0, keep⟩ : DM).op (.create handN) = (m1, 0) := by
    rw [DM.Calm.op_eq ⟨rfl, rfl⟩]
    have hf : (⟨false, room, files, now, safe, pend, 0, keep⟩ : DM).refused (.create handN) = 0 := by
      rw [refused_create]
      rw [if_pos hand_right, hh]
      rfl
    rw [hf, if_neg (by decide), hm1]
    rfl
  have hr1 : Rising (tput now handN.data.toList files.length) := tput_rising hr
  have hg1 : tget (tput now handN.data.toList files.length) handN.data.toList = some files.length := by rw [tget_put hr, if_pos rfl]
  have c1 : m1.Calm := by rw [hm1]; exact ⟨rfl, rfl⟩
  have g1 : m1.get handN = some files.length := by rw [hm1]; exact hg1
  unfold layM
  rw [seqM_ok _ e0, seqM_ok _ e1]
  by_cases hfull : m1.used + t.size > m1.room
  · have e2 : m1.op (.write handN t) = (m1, 28) := by
      rw [c1.op_eq]
      have hf : m1.refused (.write handN t) = 28 := by
        rw [refused_write]
        rw [g1]
        exact (if_pos rfl).trans (if_pos hfull)
      rw [hf]
      rfl
    obtain ⟨m2, hm2⟩ : ∃ x : DM, x = ⟨false, room, files ++ [⟨⟨#[]⟩, 0⟩], tdel (tput now handN.data.toList files.length) handN.data.toList, safe, pend ++ [.create handN files.length] ++ [.remove handN], 0, keep⟩ := ⟨_, rfl⟩
    have e3 : m1.op (.remove handN) = (m2, 0) := by
      rw [c1.op_eq]
      have hf : m1.refused (.remove handN) = 0 := by
        rw [refused_remove]
        rw [g1]
        rfl
      rw [hf, if_neg (by decide), hm1, hm2]
      rfl
    have c2 : m2.Calm := by rw [hm2]; exact ⟨rfl, rfl⟩
    have e4 : m2.op .flush = (m2.act .flush, 0) := by rw [c2.op_eq]; rfl
    have e5 : fixM (m1, 28) = (m2.act .flush, 28) := by
      unfold fixM
      rw [if_pos rfl]
      show ((((m1.op (.remove handN)).1.op .flush).1, 28) : DM × Int) = _
      rw [e3, e4]
    rw [seqM_no _ e2 (by decide), e5]
    have hfil : (m2.act .flush).files = files ++ [⟨⟨#[]⟩, 0⟩] := by rw [hm2]; rfl
    exact ⟨⟨_, hfil, Nat.zero_le _⟩, by rw [hm2]; rfl⟩
  · obtain ⟨m2, hm2⟩ : ∃ x : DM, x = ⟨false, room, files ++ [⟨⟨#[]⟩ ++ t, 0⟩], tput now handN.data.toList files.length, safe, pend ++ [.create handN files.length], 0, keep⟩ := ⟨_, rfl⟩
    have e2 : m1.op (.write handN t) = (m2, 0) := by
      rw [c1.op_eq]
      have hf : m1.refused (.write handN t) = 0 := by
        rw [refused_write]
        rw [g1]
        exact (if_pos rfl).trans (if_neg hfull)
      rw [hf, if_neg (by decide)]
      rw [dact_write, g1]
      show ((_ : DM), (0 : Int)) = _
      rw [hm1, hm2]
      refine congrArg (fun fs => ((⟨false, room, fs, tput now handN.data.toList files.length, safe, pend ++ [.create handN files.length], 0, keep⟩ : DM), (0 : Int))) ?_
      rw [set_app_last, get_app_last]
    have g2 : m2.get handN = some files.length := by rw [hm2]; exact hg1
    have c2 : m2.Calm := by rw [hm2]; exact ⟨rfl, rfl⟩
    obtain ⟨m3, hm3⟩ : ∃ x : DM, x = ⟨false, room, files ++ [⟨⟨#[]⟩ ++ t, (⟨#[]⟩ ++ t : ByteArray).size⟩], tput now handN.data.toList files.length, safe, pend ++ [.create handN files.length], 0, keep⟩ := ⟨_, rfl⟩
    have e3 : m2.op (.sync handN) = (m3, 0) := by
      rw [c2.op_eq]
      have hf : m2.refused (.sync handN) = 0 := by
        rw [refused_sync]
        rw [g2]
        rfl
      rw [hf, if_neg (by decide)]
      rw [dact_sync, g2]
      show ((_ : DM), (0 : Int)) = _
      rw [hm2, hm3]
      refine congrArg (fun fs => ((⟨false, room, fs, tput now handN.data.toList files.length, safe, pend ++ [.create handN files.length], 0, keep⟩ : DM), (0 : Int))) ?_
      rw [set_app_last, get_app_last]
    have g3 : m3.get handN = some files.length := by rw [hm3]; exact hg1
    have c3 : m3.Calm := by rw [hm3]; exact ⟨rfl, rfl⟩
    obtain ⟨m4, hm4⟩ : ∃ x : DM, x = ⟨false, room, files ++ [⟨⟨#[]⟩ ++ t, (⟨#[]⟩ ++ t : ByteArray).size⟩], tput (tdel (tput now handN.data.toList files.length) handN.data.toList) name.data.toList files.length, safe, pend ++ [.create handN files.length] ++ [.rename handN name], 0, keep⟩ := ⟨_, rfl⟩
    have e4 : m3.op (.rename handN name) = (m4, 0) := by
      rw [c3.op_eq]
      have hf : m3.refused (.rename handN name) = 0 := by
        rw [refused_rename]
        rw [g3]
        exact (if_pos rfl).trans (if_pos hn)
      rw [hf, if_neg (by decide), hm3, hm4]
      rw [dact_rename]
      unfold DM.names DOp.act
      show ((_ : DM), (0 : Int)) = _
      simp only [hg1]
    have c4 : m4.Calm := by rw [hm4]; exact ⟨rfl, rfl⟩
    have e5 : m4.op .flush = (m4.act .flush, 0) := by rw [c4.op_eq]; rfl
    rw [seqM_ok _ e2, seqM_ok _ e3, seqM_ok _ e4, e5]
    have hfil : (m4.act .flush).files = files ++ [⟨⟨#[]⟩ ++ t, (⟨#[]⟩ ++ t : ByteArray).size⟩] := by rw [hm4]; rfl
    have hf0 : fixM (m4.act .flush, 0) = (m4.act .flush, 0) := rfl
    rw [hf0]
    refine ⟨⟨_, hfil, ?_⟩, by rw [hm4]; rfl⟩
    show (⟨#[]⟩ ++ t : ByteArray).size ≤ t.size
    rw [show (⟨#[]⟩ ++ t : ByteArray) = t from ByteArray.empty_append]
    exact Nat.le_refl _

theorem put_files {m : DM} (hc : Calmly m) (x : Int) (t : ByteArray) : ((putM m x t).1.files = m.files ∨ ∃ f, (putM m x t).1.files = m.files ++ [f] ∧ f.data.size ≤ t.size) ∧ (putM m x t).1.room = m.room := by
  have hl := shaU_len x t
  unfold putM
  rw [if_neg (by rw [hc.calm.1]; decide)]
  cases hr : rightM m x (fileN (shaU x t)) with
  | some u =>
    simp only
    split <;> exact ⟨.inl rfl, rfl⟩
  | none =>
    simp only
    have h := lay_files hc.calm hc.now hc.hand (fileN (shaU x t)) t (fileN_right hl)
    split <;> exact ⟨.inr h.1, h.2⟩
theorem size_tab {fs : List Fil} {B : Nat} (h : ∀ f ∈ fs, f.data.size ≤ B) : ∀ l : Tab, sizeOfTab fs l ≤ l.length * B
  | [] => Nat.zero_le _
  | p :: r => by
    have h1 : fs[p.2]!.data.size ≤ B := by
      by_cases hp : p.2 < fs.length
      · rw [getElem!_pos fs p.2 hp]; exact h _ (List.getElem_mem hp)
      · rw [getElem!_neg fs p.2 hp]; exact Nat.zero_le _
    have h2 := size_tab h r
    show fs[p.2]!.data.size + sizeOfTab fs r ≤ (r.length + 1) * B
    rw [Nat.succ_mul]
    omega
/-- The text of a number. -/
def numN (i : Nat) : ByteArray := ⟨#[UInt8.ofNat i, UInt8.ofNat (i / 256), 113]⟩
def aN : ByteArray := ⟨#[97]⟩
def dCa : List UInt8 := 202 :: List.replicate 31 0
set_option maxRecDepth 100000 in
theorem sh1_a : shaU 1 aN = dCa := by decide +kernel
set_option maxRecDepth 100000 in
theorem sh1_31 : shaU 1 (numN 31) = dCa := by decide +kernel
/-- A store of the least width, behind so many Puts. -/
structure Narrow (m : DM) (i : Nat) (bad : Int) : Prop where
  calm : Calmly m
  room : m.room = 10000
  few : ∀ f ∈ m.files, f.data.size ≤ 3
  len : m.now.length ≤ 1 + 9 * (i + 1)
  a : m.reads (fileN dCa) = (aN, 0)
  some : 31 < i → 0 < bad
  nat : 0 ≤ bad ∧ bad ≤ i
theorem numN_size (i : Nat) : (numN i).size = 3 := rfl
theorem numN_a (i : Nat) : numN i ≠ aN := fun h => by
  have := congrArg ByteArray.size h
  rw [numN_size] at this
  exact absurd this (by decide)
/-- One Put more. -/
theorem Narrow.put {m : DM} {i : Nat} {bad : Int} (h : Narrow m i bad) (hi : i < 257) (hn : (putM m 1 (numN i)).1.now.length ≤ 1 + 9 * (i + 2)) (hr : Rising (putM m 1 (numN i)).1.now) (hd : ∀ p ∈ (putM m 1 (numN i)).1.now, p.2 < (putM m 1 (numN i)).1.files.length) :
    ((putM m 1 (numN i)).2.2 = 0 ∧ (putM m 1 (numN i)).2.1 = shaU 1 (numN i) ∧ (putM m 1 (numN i)).1.reads (fileN (shaU 1 (numN i))) = (numN i, 0) ∧ Narrow (putM m 1 (numN i)).1 (i + 1) bad) ∨
      ((putM m 1 (numN i)).2 = (zeroD, 29) ∧ Narrow (putM m 1 (numN i)).1 (i + 1) (bad + 1)) := by
  obtain ⟨c1, c2, c3⟩ := put_calm h.calm 1 (numN i)
  obtain ⟨f1, f2⟩ := put_files h.calm 1 (numN i)
  have hf : ∀ f ∈ (putM m 1 (numN i)).1.files, f.data.size ≤ 3 := by
    rcases f1 with f1 | ⟨g, f1, f3⟩
    · rw [f1]; exact h.few
    · rw [f1]
      intro f hf
      rcases List.mem_append.1 hf with hf | hf
      · exact h.few f hf
      · rw [List.mem_singleton.1 hf]; exact f3
  have hb := h.nat
  have hbb := h.some
  rcases c3 with ⟨e1, e2, e3, e4⟩ | ⟨e1, e2⟩
  · refine .inl ⟨by rw [e1], by rw [e1], e2, ⟨c1, hr, hd, c2⟩, f2.trans h.room, hf, hn, ?_, fun hj => ?_, by omega⟩
    · by_cases hq : dCa = shaU 1 (numN i)
      · exact absurd (e4 aN (by rw [← hq]; exact h.a) (by rw [← hq]; exact sh1_a)).symm (numN_a i)
      · rw [e3 _ hq]; exact h.a
    · by_cases h31 : i = 31
      · subst h31
        exact absurd (e4 aN (by rw [sh1_31]; exact h.a) (by rw [sh1_31]; exact sh1_a)).symm (numN_a 31)
      · exact hbb (by omega)
  · have hN : Narrow (putM m 1 (numN i)).1 (i + 1) (bad + 1) := ⟨⟨c1, hr, hd, c2⟩, f2.trans h.room, hf, hn, by rw [e2]; exact h.a, fun _ => by omega, by omega⟩
    rcases e1 with e1 | ⟨e1, e5⟩
    · exact .inr ⟨e1, hN⟩
    · have h1 := size_tab (fs := m.files ++ [⟨⟨#[]⟩, 0⟩]) (B := 3) (fun f hf => by
        rcases List.mem_append.1 hf with hf | hf
        · exact h.few f hf
        · rw [List.mem_singleton.1 hf]; exact Nat.zero_le _) (tput m.now handN.data.toList m.files.length)
      have h2 := tput_len m.now handN.data.toList m.files.length
      have h3 := h.len
      rw [h.room, numN_size] at e5
      have h4 : (tput m.now handN.data.toList m.files.length).length * 3 ≤ (1 + 9 * (i + 1) + 1) * 3 := Nat.mul_le_mul_right _ (by omega)
      omega
end Go.Proofs.YtecgikanophonaaGreatDoor
