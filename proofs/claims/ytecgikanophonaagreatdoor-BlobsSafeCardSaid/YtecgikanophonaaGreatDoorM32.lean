/- Texts of the seat, one behind the other: BlobS, BlobK, BSafeM, BSafeN. -/
import Derived.Test.YtecgikanophonaaGreatDoorM27
import Derived.Test.YtecgikanophonaaGreatDoorBlobM
/- A disk that came in, or one of the call's own, beside blocks that it leaves alone. -/


namespace Go.Proofs.YtecgikanophonaaGreatDoor
open Go Go.RowKit Go.Maps Go.Shelf
/-- The disk in block a is m; its blocks are of S or new since w, and none of P; all else that w had is as it was. -/
structure St (w : World) (S P : Nat → Prop) (a : Nat) (w1 : World) (n : Nat) (m : DM) : Prop where
  ex : ∃ S1 : Nat → Prop, DiskAt w1 a n m S1 ∧ ∀ b, S1 b → (S b ∨ w.heap.size ≤ b) ∧ ¬ P b
  pl : ∀ b, P b → b < w1.heap.size
  off : Off S w w1
  sl : ∀ b, S b → b < w.heap.size
/-- P's blocks are as they were. -/
def SameP (P : Nat → Prop) (w w' : World) : Prop := ∀ b, P b → w'.heap[b]? = w.heap[b]?
section
variable {w w1 w2 w' : World} {S P : Nat → Prop} {a n n' : Nat} {m m' : DM}
theorem St.start (h : DiskAt w a n m S) (hP : ∀ b, P b → b < w.heap.size ∧ ¬ S b) : St w S P a w n m :=
  ⟨⟨S, h, fun b hb => ⟨.inl hb, fun hp => (hP b hp).2 hb⟩⟩, fun b hb => (hP b hb).1, Off.refl S w, h.lt⟩
theorem St.fin (h : St w S P a w1 n m) : DiskPost a n m S w w1 := by
  obtain ⟨⟨S1, h1, h2⟩, h3, h4, h5⟩ := h
  have hz := h4.size
  refine ⟨h1.sup (fun b hb => ?_) (fun b hb => ?_), h4⟩
  · rcases (h2 b hb).1 with hb2 | hb2
    · exact .inl hb2
    · exact .inr ⟨hb2, h1.lt b hb⟩
  · rcases hb with hb | hb
    · exact Nat.lt_of_lt_of_le (h5 b hb) hz
    · exact hb.2
theorem St.ok (h : St w S P a w1 n m) : m.Ok n := by
  obtain ⟨⟨S1, h1, h2⟩, -⟩ := h
  exact h1.ok
theorem St.more (h : St w S P a w1 n m) (hn : n ≤ n') : St w S P a w1 n' m := by
  obtain ⟨⟨S1, h1, h2⟩, h3, h4, h5⟩ := h
  exact ⟨⟨S1, h1.more hn, h2⟩, h3, h4, h5⟩
theorem St.size (h : St w S P a w1 n m) : w.heap.size ≤ w1.heap.size := h.off.size
/-- Others make memory. -/
theorem St.bel (h : St w S P a w1 n m) (hb : Below w1.heap.size w1 w2) (Q : Nat → Prop) (hQ : ∀ b, Q b → P b ∨ (w1.heap.size ≤ b ∧ b < w2.heap.size)) : St w S Q a w2 n m := by
  obtain ⟨⟨S1, h1, h2⟩, h3, h4, h5⟩ := h
  refine ⟨⟨S1, h1.below hb, fun b hb1 => ⟨(h2 b hb1).1, fun hq => ?_⟩⟩, fun b hb1 => ?_, h4.below hb h4.size, h5⟩
  · rcases hQ b hq with hp | ⟨hp, _⟩
    · exact (h2 b hb1).2 hp
    · have := h1.lt b hb1
      omega
  · rcases hQ b hb1 with hp | ⟨_, hp⟩
    · exact Nat.lt_of_lt_of_le (h3 b hp) hb.size
    · exact hp
theorem St.same (h : St w S P a w1 n m) (hb : Below w1.heap.size w1 w2) : SameP P w1 w2 := fun b hp => hb.block b (h.pl b hp)
theorem St.drews (h : St w S P a w1 n m) (q : Nat) : St w S P a (w1.drewN q) n m :=
  h.bel (w2 := w1.drewN q) ⟨rfl, rfl, rfl, Nat.le_refl _, fun _ _ => rfl⟩ P (fun _ hb => .inl hb)
theorem St.sub (h : St w S P a w1 n m) (Q : Nat → Prop) (hQ : ∀ b, Q b → P b) : St w S Q a w1 n m := h.bel (Below.refl _ _) Q (fun b hb => .inl (hQ b hb))
/-- A box of the call's own is written. -/
theorem St.setBox {k : Nat} (h : St w S P a w1 n m) (hk : w.heap.size ≤ k) (hp : P k) (v : Value) : St w S P a (w1.setCell ⟨k, 0, none⟩ v) n m := by
  obtain ⟨⟨S1, h1, h2⟩, h3, h4, h5⟩ := h
  exact ⟨⟨S1, h1.setBox (fun hs => (h2 k hs).2 hp) v, h2⟩, fun b hb => by rw [World.size_setCell]; exact h3 b hb, h4.setCell _ _ (fun hlt => by have : k < w.heap.size := hlt; omega), h5⟩
theorem St.setBlk {k : Nat} (h : St w S P a w1 n m) (hk : w.heap.size ≤ k) (hp : P k) (o : Obj) : St w S P a (Go.Proofs.YtecgikanophonaaGreatDoor.setBlk w1 k o) n m := by
  obtain ⟨⟨S1, h1, h2⟩, h3, h4, h5⟩ := h
  refine ⟨⟨S1, h1.frame (fun b hb => ?_) (by rw [setBlk_size]; exact Nat.le_refl _), h2⟩, fun b hb => by rw [setBlk_size]; exact h3 b hb, h4.setBlk (fun hlt => by omega), h5⟩
  exact setBlk_other (fun e => (h2 b hb).2 (by rw [e]; exact hp))
theorem St.post {S1 : Nat → Prop} (h2 : ∀ b, S1 b → (S b ∨ w.heap.size ≤ b) ∧ ¬ P b) (h3 : ∀ b, P b → b < w1.heap.size) (h4 : Off S w w1) (h5 : ∀ b, S b → b < w.heap.size) (hp : DiskPost a n' m' S1 w1 w') : St w S P a w' n' m' ∧ SameP P w1 w' := by
  have hz := h4.size
  have hz2 := hp.2.size
  refine ⟨⟨⟨_, hp.1, ?_⟩, fun b hb => Nat.lt_of_lt_of_le (h3 b hb) hz2, h4.trans hp.2 (fun i hi hs => ?_), h5⟩, fun b hb => hp.2.block b (h3 b hb) (fun hs => (h2 b hs).2 hb)⟩
  · rintro b (hb | ⟨hb, _⟩)
    · exact h2 b hb
    · exact ⟨.inr (by omega), fun hpb => by have := h3 b hpb; omega⟩
  · rcases (h2 i hs).1 with h | h
    · exact h
    · omega
/-- An operation's end. -/
def StPost (w : World) (S P : Nat → Prop) (a : Nat) (w1 : World) (n : Nat) (m : DM) (c : DCall) (e : Ending) (w' : World) : Prop := e = .returned (errE (m.op c).2) ∧ St w S P a w' (n + 1) (m.op c).1 ∧ SameP P w1 w'
theorem st_op {f : FuncId} {args : Array Value} {c : DCall} (h : St w S P a w1 n m) (hc : ∀ S1, DiskAt w1 a n m S1 → Calls Tryz.prog f args w1 fun e w' => OpPost a n m c S1 w1 w' e) : Calls Tryz.prog f args w1 (StPost w S P a w1 n m c) := by
  obtain ⟨⟨S1, h1, h2⟩, h3, h4, h5⟩ := h
  refine (hc S1 h1).mono fun e w' hp => ?_
  obtain ⟨h6, h7⟩ := St.post h2 h3 h4 h5 hp.2
  exact ⟨hp.1, h6, h7⟩
theorem room_fit (h : m.Ok n) (hn : n ≤ 4000000000) : n * m.room ≤ 4611686018427387904 := Nat.le_trans (Nat.mul_le_mul hn h.room) (by decide)
theorem st_create (h : St w S P a w1 n m) (s : ByteArray) (hs : s.size ≤ maxLen) (hn : n ≤ 4000000000) : Calls Tryz.prog 59 #[.pointer (some ⟨a, 0, none⟩), .string s] w1 (StPost w S P a w1 n m (.create s)) :=
  st_op h fun _ hd => create_any hd s hs (by omega)
theorem st_write (h : St w S P a w1 n m) (s d : ByteArray) (hs : s.size ≤ maxLen) (hd : d.size ≤ 140737488355328) (hn : n ≤ 4000000000) : Calls Tryz.prog 60 #[.pointer (some ⟨a, 0, none⟩), .string s, .string d] w1 (StPost w S P a w1 n m (.write s d)) :=
  st_op h fun _ hk => write_any hk s d hs hd (room_fit hk.ok hn) (by omega)
theorem st_sync (h : St w S P a w1 n m) (s : ByteArray) (hs : s.size ≤ maxLen) (hn : n ≤ 4000000000) : Calls Tryz.prog 61 #[.pointer (some ⟨a, 0, none⟩), .string s] w1 (StPost w S P a w1 n m (.sync s)) :=
  st_op h fun _ hd => sync_any hd s hs (by omega)
theorem st_remove (h : St w S P a w1 n m) (s : ByteArray) (hs : s.size ≤ maxLen) (hn : n ≤ 4000000000) : Calls Tryz.prog 36 #[.pointer (some ⟨a, 0, none⟩), .string s] w1 (StPost w S P a w1 n m (.remove s)) :=
  st_op h fun _ hd => remove_any hd s hs (by omega)
theorem st_rename (h : St w S P a w1 n m) (o s : ByteArray) (ho : o.size ≤ maxLen) (hs : s.size ≤ maxLen) (hn : n ≤ 4000000000) : Calls Tryz.prog 91 #[.pointer (some ⟨a, 0, none⟩), .string o, .string s] w1 (StPost w S P a w1 n m (.rename o s)) :=
  st_op h fun _ hd => rename_any hd o s ho hs (by omega)
theorem st_flush (h : St w S P a w1 n m) (hn : n ≤ 4000000000) : Calls Tryz.prog 37 #[.pointer (some ⟨a, 0, none⟩)] w1 (StPost w S P a w1 n m .flush) :=
  st_op h fun _ hd => flush_any hd (by omega)
theorem st_read (h : St w S P a w1 n m) (s : ByteArray) (hs : s.size ≤ maxLen) : Calls Tryz.prog 34 #[.pointer (some ⟨a, 0, none⟩), .string s] w1 fun e w' => e = .returned (.tuple #[.string (m.reads s).1, errE (m.reads s).2]) ∧ w1 = w' := by
  obtain ⟨⟨S1, h1, h2⟩, -⟩ := h
  exact read_any h1 s hs
theorem st_list (h : St w S P a w1 n m) (hd : ByteArray) (hn : n ≤ 4000000000) : Calls Tryz.prog 25 #[.pointer (some ⟨a, 0, none⟩), .string hd] w1 fun e w' => ∃ v, e = .returned (.tuple #[v, errE (if m.off then 27 else 0)]) ∧ OwnTexts w1.heap.size w' v (m.lists hd) ∧ Below w1.heap.size w1 w' := by
  obtain ⟨⟨S1, h1, h2⟩, -⟩ := h
  exact list_any h1 hd (by omega)
theorem reads_size (h : m.Ok n) (s : ByteArray) : (m.reads s).1.size ≤ 268435456 := by
  unfold DM.reads
  split
  · exact Nat.zero_le _
  · split
    · rename_i i hi
      have := (h.file _ (get!_mem (tget_lt h.nowI hi))).2
      have := h.room
      show (m.files[i]!.data).size ≤ _
      omega
    · exact Nat.zero_le _
end
/-- A store's box. -/
def storeO (a : Nat) (x : Int) : Obj := .cells #[.pointer (some ⟨a, 0, none⟩), .int .i64 x] 78 (0, 0)
end Go.Proofs.YtecgikanophonaaGreatDoor
/- Plain: what BlobsKnown asks of the store over its model. -/
namespace Go.Proofs.YtecgikanophonaaGreatDoor
open Go Go.RowKit
/-- A digest: 32 bytes. -/
abbrev Dg := {d : List UInt8 // d.length = 32}
instance : Inhabited Dg := ⟨⟨zeroD, rfl⟩⟩
theorem named_len (n : ByteArray) : ((namedM n).getD zeroD).length = 32 := by
  cases h : namedM n with
  | none => rfl
  | some d => exact (parseD_inv h).2
def digOf (n : ByteArray) : Dg := ⟨(namedM n).getD zeroD, named_len n⟩
/-- The digests whose files are right. -/
def listM (m : DM) (x : Int) : List Dg := ((m.lists ⟨blobHead.toArray⟩).filter fun n => (rightM m x n).isSome).map digOf
section
variable (sh : Int → ByteArray → List UInt8)
def rightS (m : DM) (x : Int) (n : ByteArray) : Option ByteArray :=
  match namedM n with
  | none => none
  | some d => if (m.reads n).2 = 0 ∧ sh x (m.reads n).1 = d then some (m.reads n).1 else none
def putS (m : DM) (x : Int) (t : ByteArray) : DM × (List UInt8 × Int) :=
  if m.off then (m, zeroD, 27) else
  match rightS sh m x (fileN (sh x t)) with
  | some u => if u = t then (m, sh x t, 0) else (m, zeroD, 29)
  | none => if (layM m (fileN (sh x t)) t).2 = 0 then ((layM m (fileN (sh x t)) t).1, sh x t, 0) else ((layM m (fileN (sh x t)) t).1, zeroD, (layM m (fileN (sh x t)) t).2)
def getS (m : DM) (x : Int) (d : List UInt8) : ByteArray × Int :=
  if (m.reads (fileN d)).2 ≠ 0 then (⟨#[]⟩, (m.reads (fileN d)).2) else if sh x (m.reads (fileN d)).1 = d then ((m.reads (fileN d)).1, 0) else (⟨#[]⟩, 30)
def badS (m : DM) (x : Int) : List ByteArray := (if (m.reads handN).2 = 0 then [handN] else []) ++ (m.lists ⟨blobHead.toArray⟩).filter fun n => (rightS sh m x n).isNone
def openS (m : DM) (x : Int) : DM × Int :=
  if m.off then (m, 27) else seqM (takesM (badS sh m x) m) fun m' => if badS sh m x = [] then (m', 0) else m'.op .flush
def listS (m : DM) (x : Int) : List (List UInt8) := ((m.lists ⟨blobHead.toArray⟩).filter fun n => (rightS sh m x n).isSome).map fun n => (namedM n).getD zeroD
end
theorem rightS_eq : rightM = rightS shaU := rfl
theorem putS_eq : putM = putS shaU := rfl
theorem getS_eq : getM = getS shaU := rfl
theorem badS_eq : badM = badS shaU := rfl
theorem openS_eq : openM = openS shaU := rfl
theorem listS_eq (m : DM) (x : Int) : (listM m x).map (·.1) = listS shaU m x := by
  unfold listM listS
  rw [List.map_map]
  rfl
/-- The texts and their digests. -/
def xN : ByteArray := ⟨#[120]⟩
def abcN : ByteArray := ⟨#[97, 98, 99]⟩
def qsN : ByteArray := ⟨Array.replicate 198 113⟩
def dX : List UInt8 := [45, 113, 22, 66, 183, 38, 176, 68, 1, 98, 124, 169, 251, 172, 50, 245, 200, 83, 15, 177, 144, 60, 196, 219, 2, 37, 135, 23, 146, 26, 72, 129]
def d0 : List UInt8 := [227, 176, 196, 66, 152, 252, 28, 20, 154, 251, 244, 200, 153, 111, 185, 36, 39, 174, 65, 228, 100, 155, 147, 76, 164, 149, 153, 27, 120, 82, 184, 85]
def dN : List UInt8 := [110, 52, 11, 156, 255, 179, 122, 152, 156, 165, 68, 230, 187, 120, 10, 44, 120, 144, 29, 63, 179, 55, 56, 118, 133, 17, 163, 6, 23, 175, 160, 29]
def dAbc : List UInt8 := [186, 120, 22, 191, 143, 1, 207, 234, 65, 65, 64, 222, 93, 174, 34, 35, 176, 3, 97, 163, 150, 23, 122, 156, 180, 16, 255, 97, 242, 0, 21, 173]
def dA : List UInt8 := [202, 151, 129, 18, 202, 27, 189, 202, 250, 194, 49, 179, 154, 35, 220, 77, 167, 134, 239, 248, 20, 124, 78, 114, 185, 128, 119, 133, 175, 238, 72, 187]
def dQs : List UInt8 := [229, 204, 180, 194, 88, 132, 44, 138, 111, 165, 36, 78, 244, 6, 7, 27, 10, 213, 152, 203, 192, 48, 27, 52, 156, 123, 18, 39, 219, 201, 96, 174]
set_option maxRecDepth 100000 in
theorem sh_x : shaU 32 xN = dX := by decide +kernel
set_option maxRecDepth 100000 in
theorem sh_0 : shaU 32 ⟨#[]⟩ = d0 := by decide +kernel
set_option maxRecDepth 100000 in
theorem sh_n : shaU 32 ⟨#[0]⟩ = dN := by decide +kernel
set_option maxRecDepth 100000 in
theorem sh_abc32 : shaU 32 abcN = dAbc := by decide +kernel
set_option maxRecDepth 100000 in
theorem sh_a : shaU 32 ⟨#[97]⟩ = dA := by decide +kernel
set_option maxRecDepth 100000 in
theorem sh_qs : shaU 32 qsN = dQs := by decide +kernel
/-- The digest, by a table where it is known. -/
def tabS (x : Int) (t : ByteArray) : List UInt8 :=
  if x = 32 ∧ t = xN then dX else if x = 32 ∧ t = ⟨#[]⟩ then d0 else if x = 32 ∧ t = ⟨#[0]⟩ then dN else if x = 32 ∧ t = abcN then dAbc else if x = 32 ∧ t = qsN then dQs else shaU x t
theorem tabS_eq : shaU = tabS := by
  funext x t
  unfold tabS
  split
  · rename_i h; rw [h.1, h.2]; exact sh_x
  · split
    · rename_i h; rw [h.1, h.2]; exact sh_0
    · split
      · rename_i h; rw [h.1, h.2]; exact sh_n
      · split
        · rename_i h; rw [h.1, h.2]; exact sh_abc32
        · split
          · rename_i h; rw [h.1, h.2]; exact sh_qs
          · rfl
/-- A Put of x in whose n-th operation the power fails; the store behind it, Open's error, Put's. -/
def struckM (n : Int) (ks : List Int) : DM × Int × Int :=
  ((openM (putM ((DM.new 200).arm n ks) 32 xN).1.revive 32).1, (openM (putM ((DM.new 200).arm n ks) 32 xN).1.revive 32).2, (putM ((DM.new 200).arm n ks) 32 xN).2.2)
def struckS (n : Int) (ks : List Int) : DM × Int × Int :=
  ((openS tabS (putS tabS ((DM.new 200).arm n ks) 32 xN).1.revive 32).1, (openS tabS (putS tabS ((DM.new 200).arm n ks) 32 xN).1.revive 32).2, (putS tabS ((DM.new 200).arm n ks) 32 xN).2.2)
theorem struckS_eq (n : Int) (ks : List Int) : struckM n ks = struckS n ks := by
  unfold struckM struckS
  rw [putS_eq, openS_eq, tabS_eq]
/-- What is asked of one that is struck. -/
def strikes (n : Int) (ks : List Int) : Bool :=
  decide ((struckS n ks).2.1 = 0) && decide ((struckS n ks).2.2 = if 5 < n then 0 else 27) &&
    decide ((getS tabS (struckS n ks).1 32 dX).2 = 0 ∧ (getS tabS (struckS n ks).1 32 dX).1 = xN ∨ (getS tabS (struckS n ks).1 32 dX).2 = 10 ∧ n ≤ 5) &&
    decide ((badS tabS (putS tabS ((DM.new 200).arm n ks) 32 xN).1.revive 32).length ≤ 2) &&
    ((putS tabS ((DM.new 200).arm n ks) 32 xN).1.revive.lists ⟨blobHead.toArray⟩).all (fun s => decide (s.size ≤ 200))
set_option maxRecDepth 100000 in
theorem strikes_all : ∀ n ∈ ([1, 2, 3, 4, 5, 6, 7] : List Int), ∀ a ∈ ([0, 1] : List Int), ∀ b ∈ ([0, 1] : List Int), ∀ c ∈ ([0, 1, 2, 3] : List Int), strikes n [a, b, c] = true := by decide +kernel
set_option maxRecDepth 100000 in
theorem strikes_four : (strikes 4 [1, 1] && strikes 4 [0] && strikes 4 [1, 0] && strikes 3 [1]) = true := by decide +kernel
/-- .. in the model's own words. -/
theorem strikes_of {n : Int} {ks : List Int} (h : strikes n ks = true) :
    (struckM n ks).2.1 = 0 ∧ (struckM n ks).2.2 = (if 5 < n then 0 else 27) ∧ ((getM (struckM n ks).1 32 dX).2 = 0 ∧ (getM (struckM n ks).1 32 dX).1 = xN ∨ (getM (struckM n ks).1 32 dX).2 = 10 ∧ n ≤ 5) ∧
      (badM (putM ((DM.new 200).arm n ks) 32 xN).1.revive 32).length ≤ 2 ∧ ∀ s ∈ (putM ((DM.new 200).arm n ks) 32 xN).1.revive.lists ⟨blobHead.toArray⟩, s.size ≤ 200 := by
  rw [struckS_eq, getS_eq, badS_eq, putS_eq, tabS_eq]
  unfold strikes at h
  simp only [Bool.and_eq_true, decide_eq_true_eq, List.all_eq_true] at h
  obtain ⟨⟨⟨⟨h1, h2⟩, h3⟩, h4⟩, h5⟩ := h
  exact ⟨h1, h2, h3, h4, h5⟩
set_option maxRecDepth 100000 in
theorem get_four : (getS tabS (struckS 4 [1, 1]).1 32 dX).2 = 0 ∧ (getS tabS (struckS 4 [0]).1 32 dX).2 = 10 ∧ (getS tabS (struckS 4 [1, 0]).1 32 dX).2 = 10 ∧ (getS tabS (struckS 3 [1]).1 32 dX).2 = 10 := by decide +kernel
theorem getM_four : (getM (struckM 4 [1, 1]).1 32 dX).2 = 0 ∧ (getM (struckM 4 [0]).1 32 dX).2 = 10 ∧ (getM (struckM 4 [1, 0]).1 32 dX).2 = 10 ∧ (getM (struckM 3 [1]).1 32 dX).2 = 10 := by
  rw [struckS_eq, struckS_eq, struckS_eq, struckS_eq, getS_eq, tabS_eq]
  exact get_four
/-- The disk of the chapter's examples, behind each call. -/
def k1 : DM := (putM (DM.new 200) 32 ⟨#[]⟩).1
def k2 : DM := (takeM k1 dA).1
def k3 : DM := (putM k2 32 abcN).1
def k4 : DM := (putM k3 32 abcN).1
def k5 : DM := (putM k4 32 qsN).1
def e1 : DM := (putS tabS (DM.new 200) 32 ⟨#[]⟩).1
def e2 : DM := (takeM e1 dA).1
def e3 : DM := (putS tabS e2 32 abcN).1
def e4 : DM := (putS tabS e3 32 abcN).1
def e5 : DM := (putS tabS e4 32 qsN).1
theorem k1_eq : k1 = e1 := by unfold k1 e1; rw [putS_eq, tabS_eq]
theorem k2_eq : k2 = e2 := by unfold k2 e2; rw [k1_eq]
theorem k3_eq : k3 = e3 := by unfold k3 e3; rw [k2_eq, putS_eq, tabS_eq]
theorem k4_eq : k4 = e4 := by unfold k4 e4; rw [k3_eq, putS_eq, tabS_eq]
theorem k5_eq : k5 = e5 := by unfold k5 e5; rw [k4_eq, putS_eq, tabS_eq]
set_option maxRecDepth 100000 in
theorem shown_all : (putS tabS (DM.new 200) 32 ⟨#[]⟩).2 = (d0, 0) ∧ e1.off = false ∧ listS tabS e1 32 = [d0] ∧ (getS tabS e1 32 d0).2 = 0 ∧ (getS tabS e1 32 dA).2 = 10 ∧ (takeM e1 dA).2 = 10 ∧ (putS tabS e2 32 abcN).2 = (dAbc, 0) ∧ (putS tabS e3 32 abcN).2 = (dAbc, 0) ∧
    (putS tabS e4 32 qsN).2 = (zeroD, 28) ∧ e5.off = false ∧ e5.used = 3 := by decide +kernel
set_option maxRecDepth 100000 in
theorem shown_lists : (e5.lists ⟨#[116, 109, 112, 47]⟩).isEmpty = true ∧ (e1.lists ⟨blobHead.toArray⟩).all (fun s => decide (s.size ≤ 200)) = true := by decide +kernel
end Go.Proofs.YtecgikanophonaaGreatDoor
/- Plain: a store of texts whose power may fail in any operation: what was put in is there, what was removed is not, what is there was put in. -/
namespace Go.Proofs.YtecgikanophonaaGreatDoor
open Go Go.RowKit
def handK : Bs := handN.data.toList
def fileK (d : List UInt8) : Bs := (fileN d).data.toList
theorem fileK_hand (d : List UInt8) : fileK d ≠ handK := bytes_ne (fileN_hand d)
theorem fileK_inj {d e : List UInt8} (h : fileK d = fileK e) : d = e := fileN_inj (Classical.byContradiction fun hne => bytes_ne hne h)
/-- A row of a table that leads to a digest's text, all of it safe. -/
def RowOk (x : Int) (T : List ByteArray) (fs : List Fil) (p : Bs × Nat) : Prop := p.2 < fs.length ∧ ∃ t ∈ T, p.1 = fileK (shaU x t) ∧ fs[p.2]! = ⟨t, t.size⟩
theorem RowOk.name {x : Int} {T : List ByteArray} {fs : List Fil} {p : Bs × Nat} (h : RowOk x T fs p) : p.1 ≠ handK := by
  obtain ⟨-, t, -, h, -⟩ := h
  rw [h]
  exact fileK_hand _
theorem RowOk.more {x : Int} {T T' : List ByteArray} {fs : List Fil} {p : Bs × Nat} (h : RowOk x T fs p) (hT : ∀ t ∈ T, t ∈ T') : RowOk x T' fs p := by
  obtain ⟨h1, t, h2, h3⟩ := h
  exact ⟨h1, t, hT t h2, h3⟩
/-- The power is on, and nothing is in hand. -/
structure Rest (x : Int) (T : List ByteArray) (m : DM) : Prop where
  on : m.off = false
  pend : m.pend = []
  eq : m.safe = m.now
  rows : ∀ p ∈ m.now, RowOk x T m.files p
/-- The power has failed. -/
structure Down (x : Int) (T : List ByteArray) (m : DM) : Prop where
  off : m.off = true
  armed : m.armed = 0
  pend : m.pend = []
  eq : m.safe = m.now
  rows : ∀ p ∈ m.now, p.1 = handK ∨ RowOk x T m.files p
/-- Between two Flushes: one file in hand, one name. -/
structure Mid (x : Int) (T : List ByteArray) (nm : Bs) (i0 : Nat) (s0 : Tab) (m : DM) : Prop where
  on : m.off = false
  safe : m.safe = s0
  rows : ∀ p ∈ s0, RowOk x T m.files p
  pend : ∀ o ∈ m.pend, o = .create handN i0 ∨ o = .remove handN ∨ ∃ n : ByteArray, n.data.toList = nm ∧ (o = .remove n ∨ (o = .rename handN n ∧ i0 < m.files.length ∧ ∃ t ∈ T, nm = fileK (shaU x t) ∧ m.files[i0]! = ⟨t, t.size⟩))
/-- Two tables are alike but for two names. -/
def Same2 (nm : Bs) (s t : Tab) : Prop := ∀ k, k ≠ handK → k ≠ nm → tget t k = tget s k
theorem Same2.trans {nm : Bs} {s t u : Tab} (h : Same2 nm s t) (g : Same2 nm t u) : Same2 nm s u := fun k h1 h2 => (g k h1 h2).trans (h k h1 h2)
theorem Same2.weak {nm : Bs} {s t : Tab} (h : Same2 handK s t) : Same2 nm s t := fun k h1 _ => h k h1 h1
section
variable {x : Int} {T : List ByteArray} {nm : Bs} {i0 : Nat} {s0 : Tab} {m : DM}
theorem Mid.tick (h : Mid x T nm i0 s0 m) : Mid x T nm i0 s0 m.tick := ⟨h.on, h.safe, h.rows, h.pend⟩
theorem pend_tab {fs : List Fil} : ∀ (ps : List DOp) (ks : List Int) (t : Tab), (∀ o ∈ ps, o = .create handN i0 ∨ o = .remove handN ∨ ∃ n : ByteArray, n.data.toList = nm ∧ (o = .remove n ∨ (o = .rename handN n ∧ i0 < fs.length ∧ ∃ t ∈ T, nm = fileK (shaU x t) ∧ fs[i0]! = ⟨t, t.size⟩))) →
    Rising t → (∀ p ∈ t, (p.1 = handK ∧ p.2 = i0) ∨ RowOk x T fs p) → Rising (failPend ps ks t) ∧ (∀ p ∈ failPend ps ks t, (p.1 = handK ∧ p.2 = i0) ∨ RowOk x T fs p) ∧ Same2 nm t (failPend ps ks t)
  | [], _, t, _, hr, ht => ⟨hr, ht, fun _ _ _ => rfl⟩
  | o :: r, ks, t, hp, hr, ht => by
    have step : Rising (o.act t) ∧ (∀ p ∈ o.act t, (p.1 = handK ∧ p.2 = i0) ∨ RowOk x T fs p) ∧ Same2 nm t (o.act t) := by
      refine ⟨act_rising o hr, ?_⟩
      rcases hp o List.mem_cons_self with rfl | rfl | ⟨n, hn, rfl | ⟨rfl, hi, t', hT, hnm, hf⟩⟩
      · refine ⟨fun p hpm => ?_, fun k h1 _ => ?_⟩
        · rcases tput_mem.1 hpm with rfl | ⟨hpm, -⟩
          · exact .inl ⟨rfl, rfl⟩
          · exact ht p hpm
        · show tget (tput t handK i0) k = _
          rw [tget_put hr, if_neg h1]
      · refine ⟨fun p hpm => ht p (tdel_mem.1 hpm).1, fun k h1 _ => ?_⟩
        show tget (tdel t handK) k = _
        rw [tget_del hr, if_neg h1]
      · refine ⟨fun p hpm => ht p (tdel_mem.1 hpm).1, fun k _ h2 => ?_⟩
        show tget (tdel t n.data.toList) k = _
        rw [tget_del hr, if_neg (by rw [hn]; exact h2)]
      · simp only [DOp.act]
        cases hg : tget t handN.data.toList with
        | none => exact ⟨ht, fun _ _ _ => rfl⟩
        | some i =>
          have hi0 : i = i0 := by
            rcases ht _ (tget_mem hg) with ⟨-, h⟩ | h
            · exact h
            · exact absurd rfl h.name
          subst hi0
          simp only
          refine ⟨fun p hpm => ?_, fun k h1 h2 => ?_⟩
          · rcases tput_mem.1 hpm with rfl | ⟨hpm, -⟩
            · exact .inr ⟨hi, t', hT, hn.trans hnm, hf⟩
            · exact ht p (tdel_mem.1 hpm).1
          · show tget (tput (tdel t handK) n.data.toList i) k = _
            rw [tget_put (tdel_rising hr), if_neg (by rw [hn]; exact h2), tget_del hr, if_neg h1]
    unfold failPend
    split
    · obtain ⟨s1, s2, s3⟩ := step
      obtain ⟨g1, g2, g3⟩ := pend_tab r ks.tail _ (fun o ho => hp o (List.mem_cons_of_mem _ ho)) s1 s2
      exact ⟨g1, g2, s3.trans g3⟩
    · exact pend_tab r ks.tail t (fun o ho => hp o (List.mem_cons_of_mem _ ho)) hr ht
theorem failFiles_len : ∀ (t : Tab) (ks : List Int) (fs : List Fil), (failFiles t ks fs).length = fs.length
  | [], _, _ => rfl
  | p :: r, ks, fs => by
    unfold failFiles
    rw [failFiles_len r, List.length_set]
theorem RowOk.fail {fs : List Fil} {p : Bs × Nat} (h : RowOk x T fs p) (t : Tab) (ks : List Int) : RowOk x T (failFiles t ks fs) p := by
  obtain ⟨h1, s, h2, h3, h4⟩ := h
  refine ⟨by rw [failFiles_len]; exact h1, s, h2, h3, ?_⟩
  exact failFiles_get (Q := fun f => f = ⟨s, s.size⟩) (fun f k hf => by rw [hf]; exact Fil.whole.cut (f := ⟨s, s.size⟩) rfl k) t ks fs h1 h4
/-- The power fails between two Flushes. -/
theorem Mid.fail (h : Mid x T nm i0 s0 m) (hr : Rising s0) (ks : List Int) : Down x T (m.fail ks) ∧ Same2 nm s0 (m.fail ks).now ∧ Rising (m.fail ks).now := by
  obtain ⟨g1, g2, g3⟩ := pend_tab (x := x) (T := T) (nm := nm) (i0 := i0) (fs := m.files) m.pend ks m.safe h.pend (by rw [h.safe]; exact hr) (by rw [h.safe]; exact fun p hp => .inr (h.rows p hp))
  rw [h.safe] at g1 g2 g3
  have e1 : (m.fail ks).now = failPend m.pend ks s0 := by unfold DM.fail; rw [h.safe]
  refine ⟨⟨rfl, rfl, rfl, rfl, fun p hp => ?_⟩, by rw [e1]; exact g3, by rw [e1]; exact g1⟩
  rw [e1] at hp
  rcases g2 p hp with ⟨h1, -⟩ | h1
  · exact .inl h1
  · exact .inr (h1.fail _ _)
/-- What an operation does while the power is on. -/
theorem op_split (h : m.off = false) (c : DCall) : (m.refused c ≠ 0 ∧ m.op c = (m, m.refused c)) ∨ (m.refused c = 0 ∧ m.op c = ((if c.late then m.tick else m.tick.act c).fail m.keep, 27)) ∨ (m.refused c = 0 ∧ m.op c = (m.tick.act c, 0)) := by
  unfold DM.op
  rw [if_neg (by rw [h]; decide)]
  by_cases h1 : m.refused c = 0
  · rw [if_neg (fun e => e h1)]
    by_cases h2 : m.armed = 1
    · rw [if_pos h2]
      exact .inr (.inl ⟨h1, rfl⟩)
    · rw [if_neg h2]
      exact .inr (.inr ⟨h1, rfl⟩)
  · rw [if_pos h1]
    exact .inl ⟨h1, rfl⟩
theorem Rest.hand (h : Rest x T m) : tget m.now handK = none := tget_none.2 fun p hp => (h.rows p hp).name
theorem Rest.mid (h : Rest x T m) (nm : Bs) (i0 : Nat) : Mid x T nm i0 m.now m := ⟨h.on, h.eq, h.rows, fun o ho => by rw [h.pend] at ho; cases ho⟩
theorem Rest.more {T' : List ByteArray} (h : Rest x T m) (hT : ∀ t ∈ T, t ∈ T') : Rest x T' m := ⟨h.on, h.pend, h.eq, fun p hp => (h.rows p hp).more hT⟩
theorem Rest.arm (h : Rest x T m) (n : Int) (ks : List Int) : Rest x T (m.arm n ks) := ⟨h.on, h.pend, h.eq, h.rows⟩
theorem Rest.crash (h : Rest x T m) (hr : Rising m.now) (ks : List Int) : Down x T (m.crash ks) ∧ Same2 handK m.now (m.crash ks).now := by
  unfold DM.crash
  rw [if_neg (by rw [h.on]; decide)]
  obtain ⟨h1, h2, -⟩ := (h.mid handK 0).fail hr ks
  exact ⟨h1, h2⟩
/-- A text is taken out. -/
theorem take_out (h : Rest x T m) (hr : Rising m.now) (d : List UInt8) :
    ((takeM m d).2 = 10 ∧ (takeM m d).1 = m ∧ tget m.now (fileK d) = none) ∨ ((takeM m d).2 = 27 ∧ Down x T (takeM m d).1 ∧ Same2 (fileK d) m.now (takeM m d).1.now) ∨
      ((takeM m d).2 = 0 ∧ Rest x T (takeM m d).1 ∧ Same2 (fileK d) m.now (takeM m d).1.now ∧ tget (takeM m d).1.now (fileK d) = none) := by
  unfold takeM
  rcases op_split h.on (.remove (fileN d)) with ⟨h1, h2⟩ | ⟨h1, h2⟩ | ⟨h1, h2⟩
  · rw [refused_remove] at h1 h2
    unfold DM.get at h1 h2
    cases hg : tget m.now (fileN d).data.toList with
    | some i => rw [hg] at h1; exact absurd rfl h1
    | none =>
      rw [hg] at h2
      rw [seqM_no _ h2 (by decide)]
      exact .inl ⟨rfl, rfl, hg⟩
  · have hm : Mid x T (fileK d) 0 m.now (m.tick.act (.remove (fileN d))) := ⟨h.on, h.eq, h.rows, fun o ho => by
      have ho : o ∈ m.pend ++ [.remove (fileN d)] := ho
      rw [h.pend] at ho
      exact .inr (.inr ⟨_, rfl, .inl (List.mem_singleton.1 ho)⟩)⟩
    obtain ⟨g1, g2, -⟩ := hm.fail hr m.keep
    rw [seqM_no _ h2 (by decide)]
    exact .inr (.inl ⟨rfl, g1, g2⟩)
  · have hm : Mid x T (fileK d) 0 m.now (m.tick.act (.remove (fileN d))) := ⟨h.on, h.eq, h.rows, fun o ho => by
      have ho : o ∈ m.pend ++ [.remove (fileN d)] := ho
      rw [h.pend] at ho
      exact .inr (.inr ⟨_, rfl, .inl (List.mem_singleton.1 ho)⟩)⟩
    rw [seqM_ok _ h2]
    have hn : (m.tick.act (.remove (fileN d))).now = tdel m.now (fileK d) := rfl
    obtain ⟨m2, hm2⟩ : ∃ y, m.tick.act (.remove (fileN d)) = y := ⟨_, rfl⟩
    have hf2 : m2.files = m.files := by rw [← hm2]; rfl
    rw [hm2] at hm hn ⊢
    rcases op_split hm.on .flush with ⟨h1, -⟩ | ⟨-, h3⟩ | ⟨-, h3⟩
    · exact absurd rfl h1
    · obtain ⟨g1, g2, -⟩ := hm.tick.fail hr m2.keep
      rw [h3]
      exact .inr (.inl ⟨rfl, g1, g2⟩)
    · rw [h3]
      refine .inr (.inr ⟨rfl, ⟨hm.on, rfl, rfl, fun p hp => ?_⟩, fun k h1 h2 => ?_, ?_⟩)
      · have hp : p ∈ m2.now := hp
        rw [hn] at hp
        show RowOk x T m2.files p
        rw [hf2]
        exact h.rows p (tdel_mem.1 hp).1
      · show tget m2.now k = _
        rw [hn, tget_del hr, if_neg h2]
      · show tget m2.now _ = none
        rw [hn, tget_del hr, if_pos rfl]
theorem row_set {fs : List Fil} {p : Bs × Nat} {f : Fil} (h : RowOk x T fs p) (hp : p.2 < i0) : RowOk x T (fs.set i0 f) p := by
  obtain ⟨h1, t, h2, h3, h4⟩ := h
  refine ⟨by rw [List.length_set]; exact h1, t, h2, h3, ?_⟩
  rw [fail_set_len h1, if_neg (by omega)]
  exact h4
theorem row_app {fs : List Fil} {p : Bs × Nat} {f : Fil} (h : RowOk x T fs p) : RowOk x T (fs ++ [f]) p := by
  obtain ⟨h1, t, h2, h3, h4⟩ := h
  exact ⟨by rw [List.length_append]; omega, t, h2, h3, by rw [get_app_old f h1]; exact h4⟩
/-- A file is made. -/
theorem lay_out (h : Rest x T m) (hr : Rising m.now) (t : ByteArray) (ht : t ∈ T) :
    ((layM m (fileN (shaU x t)) t).2 = 27 ∧ Down x T (layM m (fileN (shaU x t)) t).1 ∧ Same2 (fileK (shaU x t)) m.now (layM m (fileN (shaU x t)) t).1.now) ∨
      ((layM m (fileN (shaU x t)) t).2 = 28 ∧ (Down x T (layM m (fileN (shaU x t)) t).1 ∨ Rest x T (layM m (fileN (shaU x t)) t).1) ∧ Same2 handK m.now (layM m (fileN (shaU x t)) t).1.now) ∨
      ((layM m (fileN (shaU x t)) t).2 = 0 ∧ Rest x T (layM m (fileN (shaU x t)) t).1 ∧ Same2 (fileK (shaU x t)) m.now (layM m (fileN (shaU x t)) t).1.now ∧ (tget (layM m (fileN (shaU x t)) t).1.now (fileK (shaU x t))).isSome = true) := by
  obtain ⟨d, hd⟩ : ∃ d, shaU x t = d := ⟨_, rfl⟩
  have hdl : d.length = 32 := by rw [← hd]; exact shaU_len x t
  rw [hd]
  obtain ⟨i0, hi0⟩ : ∃ i, m.files.length = i := ⟨_, rfl⟩
  have hrows0 : ∀ p ∈ m.now, p.2 < i0 := fun p hp => by rw [← hi0]; exact (h.rows p hp).1
  have e0 : clearM m = (m, 0) := by
    unfold clearM
    rw [reads_on h.on, show tget m.now handN.data.toList = none from h.hand]
    exact if_neg (show ¬ (10 : Int) = 0 by decide)
  unfold layM
  rw [seqM_ok _ e0]
  -- create
  obtain ⟨m1, hm1⟩ : ∃ y, m.tick.act (.create handN) = y := ⟨_, rfl⟩
  have hf1 : m1.files = m.files ++ [⟨⟨#[]⟩, 0⟩] := by rw [← hm1]; rfl
  have hn1 : m1.now = tput m.now handK i0 := by rw [← hm1, ← hi0]; rfl
  have hM1 : Mid x T handK i0 m.now m1 := by
    refine ⟨by rw [← hm1]; exact h.on, by rw [← hm1]; exact h.eq, fun p hp => by rw [hf1]; exact row_app (h.rows p hp), fun o ho => ?_⟩
    have ho2 : o ∈ m.pend ++ [.create handN m.files.length] := by rw [← hm1] at ho; exact ho
    rw [h.pend, hi0] at ho2
    exact .inl (List.mem_singleton.1 ho2)
  have hr1 : Rising m1.now := by rw [hn1]; exact tput_rising hr
  have hg1 : m1.get handN = some i0 := by show tget m1.now handK = _; rw [hn1, tget_put hr, if_pos rfl]
  have hl1 : m1.files.length = i0 + 1 := by rw [hf1, List.length_append, hi0]; rfl
  rcases op_split h.on (.create handN) with ⟨h1, -⟩ | ⟨-, h2⟩ | ⟨-, h2⟩
  · refine absurd ?_ h1
    rw [refused_create, if_pos hand_right]
    unfold DM.get
    rw [show tget m.now handN.data.toList = none from h.hand]
    rfl
  · rw [show (if DCall.late (.create handN) then m.tick else m.tick.act (.create handN)) = m1 from hm1] at h2
    obtain ⟨g1, g2, -⟩ := hM1.fail hr m.keep
    rw [seqM_no _ h2 (by decide)]
    exact .inl ⟨rfl, g1, g2.weak⟩
  rw [hm1] at h2
  rw [seqM_ok _ h2]
  -- write
  rcases op_split hM1.on (.write handN t) with ⟨h3, h4⟩ | ⟨-, h4⟩ | ⟨h3, h4⟩
  · have hf : m1.refused (.write handN t) = 28 := by
      rw [refused_write, hg1] at h3 ⊢
      by_cases hh : m1.used + t.size > m1.room
      · exact (if_pos rfl).trans (if_pos hh)
      · exact absurd ((if_pos rfl).trans (if_neg hh)) h3
    rw [hf] at h4
    rw [seqM_no _ h4 (by decide)]
    show (_ ∨ _ ∨ _)
    have hfix : fixM (m1, 28) = (((m1.op (.remove handN)).1.op .flush).1, 28) := if_pos rfl
    rw [hfix]
    refine .inr (.inl ⟨rfl, ?_⟩)
    have hM2 : Mid x T handK i0 m.now (m1.tick.act (.remove handN)) := ⟨hM1.on, hM1.safe, hM1.rows, fun o ho => by
      have ho : o ∈ m1.pend ++ [.remove handN] := ho
      rcases List.mem_append.1 ho with ho | ho
      · exact hM1.pend o ho
      · exact .inr (.inl (List.mem_singleton.1 ho))⟩
    have hn2 : (m1.tick.act (.remove handN)).now = tdel m1.now handK := rfl
    have hf2 : (m1.tick.act (.remove handN)).files = m1.files := rfl
    obtain ⟨m2, hm2⟩ : ∃ y, m1.tick.act (.remove handN) = y := ⟨_, rfl⟩
    rw [hm2] at hM2 hn2 hf2
    rcases op_split hM1.on (.remove handN) with ⟨h5, -⟩ | ⟨-, h6⟩ | ⟨-, h6⟩
    · refine absurd ?_ h5
      rw [refused_remove, hg1]
      rfl
    · rw [show (if DCall.late (.remove handN) then m1.tick else m1.tick.act (.remove handN)) = m2 from hm2] at h6
      obtain ⟨g1, g2, -⟩ := hM2.fail hr m1.keep
      rw [h6]
      have hof : ((m2.fail m1.keep).op .flush).1 = m2.fail m1.keep := by
        unfold DM.op
        rw [if_pos g1.off]
      show (Down x T ((m2.fail m1.keep).op .flush).1 ∨ _) ∧ _
      rw [hof]
      exact ⟨.inl g1, g2⟩
    · rw [hm2] at h6
      rw [h6]
      show (Down x T (m2.op .flush).1 ∨ Rest x T (m2.op .flush).1) ∧ Same2 handK m.now (m2.op .flush).1.now
      rcases op_split hM2.on .flush with ⟨h5, -⟩ | ⟨-, h7⟩ | ⟨-, h7⟩
      · exact absurd rfl h5
      · obtain ⟨g1, g2, -⟩ := hM2.tick.fail hr m2.keep
        rw [h7]
        exact ⟨.inl g1, g2⟩
      · rw [h7]
        refine ⟨.inr ⟨hM2.on, rfl, rfl, fun p hp => ?_⟩, fun k h1 _ => ?_⟩
        · have hp : p ∈ m2.now := hp
          show RowOk x T m2.files p
          rw [hn2, hn1] at hp
          obtain ⟨hp1, hp2⟩ := tdel_mem.1 hp
          rcases tput_mem.1 hp1 with rfl | ⟨hp1, -⟩
          · exact absurd rfl hp2
          · rw [hf2]; exact hM1.rows p hp1
        · show tget m2.now k = _
          rw [hn2, tget_del hr1, if_neg h1, hn1, tget_put hr, if_neg h1]
  · have hM2 : Mid x T handK i0 m.now (m1.tick.act (.write handN t)) := by
      have hac : m1.tick.act (.write handN t) = { m1.tick with files := m1.files.set i0 ⟨m1.files[i0]!.data ++ t, m1.files[i0]!.safe⟩ } := by
        rw [dact_write, show m1.tick.get handN = some i0 from hg1]
        rfl
      rw [hac]
      exact ⟨hM1.on, hM1.safe, fun p hp => row_set (hM1.rows p hp) (hrows0 p hp), fun o ho => by
        have := h.pend
        have ho2 : o ∈ m1.pend := ho
        rw [← hm1] at ho2
        have ho3 : o ∈ m.pend ++ [.create handN m.files.length] := ho2
        rw [h.pend, hi0] at ho3
        exact .inl (List.mem_singleton.1 ho3)⟩
    obtain ⟨g1, g2, -⟩ := hM2.fail hr m1.keep
    rw [seqM_no _ h4 (by decide)]
    exact .inl ⟨rfl, g1, g2.weak⟩
  have hac : m1.tick.act (.write handN t) = { m1.tick with files := m1.files.set i0 ⟨m1.files[i0]!.data ++ t, m1.files[i0]!.safe⟩ } := by
    rw [dact_write, show m1.tick.get handN = some i0 from hg1]
    rfl
  have hp1 : m1.pend = [.create handN i0] := by
    rw [← hm1]
    show m.pend ++ [.create handN m.files.length] = _
    rw [h.pend, hi0]
    rfl
  obtain ⟨m2, hm2⟩ : ∃ y, m1.tick.act (.write handN t) = y := ⟨_, rfl⟩
  rw [hm2] at h4
  have hf2 : m2.files = m1.files.set i0 ⟨⟨#[]⟩ ++ t, 0⟩ := by
    rw [← hm2, hac]
    show m1.files.set i0 ⟨m1.files[i0]!.data ++ t, m1.files[i0]!.safe⟩ = _
    rw [show m1.files[i0]! = ⟨⟨#[]⟩, 0⟩ by rw [hf1, ← hi0]; exact get_app_last _]
  have hn2 : m2.now = m1.now := by rw [← hm2, hac]; rfl
  have hp2 : m2.pend = m1.pend := by rw [← hm2, hac]; rfl
  have hM2 : Mid x T handK i0 m.now m2 := ⟨by rw [← hm2, hac]; exact hM1.on, by rw [← hm2, hac]; exact hM1.safe, fun p hp => by rw [hf2]; exact row_set (hM1.rows p hp) (hrows0 p hp), fun o ho => by rw [hp2, hp1] at ho; exact .inl (List.mem_singleton.1 ho)⟩
  have hg2 : m2.get handN = some i0 := by show tget m2.now handK = _; rw [hn2]; exact hg1
  have hl2 : i0 < m2.files.length := by rw [hf2, List.length_set, hl1]; omega
  rw [seqM_ok _ h4]
  -- sync
  rcases op_split hM2.on (.sync handN) with ⟨h5, -⟩ | ⟨-, h6⟩ | ⟨-, h6⟩
  · refine absurd ?_ h5
    rw [refused_sync, hg2]
    rfl
  · obtain ⟨g1, g2, -⟩ := hM2.tick.fail hr m2.keep
    rw [seqM_no _ h6 (by decide)]
    exact .inl ⟨rfl, g1, g2.weak⟩
  have hac3 : m2.tick.act (.sync handN) = { m2.tick with files := m2.files.set i0 ⟨m2.files[i0]!.data, m2.files[i0]!.data.size⟩ } := by
    rw [dact_sync, show m2.tick.get handN = some i0 from hg2]
    rfl
  obtain ⟨m3, hm3⟩ : ∃ y, m2.tick.act (.sync handN) = y := ⟨_, rfl⟩
  rw [hm3] at h6
  have h2i : m2.files[i0]!.data = t := by
    rw [hf2, fail_set_len (by rw [hl1]; omega), if_pos rfl]
    exact ByteArray.empty_append
  have hf3 : m3.files = m2.files.set i0 ⟨t, t.size⟩ := by
    rw [← hm3, hac3]
    show m2.files.set i0 ⟨m2.files[i0]!.data, m2.files[i0]!.data.size⟩ = _
    rw [h2i]
  have hn3 : m3.now = m1.now := by rw [← hm3, hac3]; exact hn2
  have hp3 : m3.pend = [.create handN i0] := by rw [← hm3, hac3]; exact hp2.trans hp1
  have hon3 : m3.off = false := by rw [← hm3, hac3]; exact hM2.on
  have hsf3 : m3.safe = m.now := by rw [← hm3, hac3]; exact hM2.safe
  have h3i : m3.files[i0]! = ⟨t, t.size⟩ := by rw [hf3, fail_set_len hl2, if_pos rfl]
  have hl3 : i0 < m3.files.length := by rw [hf3, List.length_set]; exact hl2
  have hro3 : ∀ p ∈ m.now, RowOk x T m3.files p := fun p hp => by rw [hf3]; exact row_set (hM2.rows p hp) (hrows0 p hp)
  have hg3 : m3.get handN = some i0 := by show tget m3.now handK = _; rw [hn3]; exact hg1
  rw [seqM_ok _ h6]
  -- rename
  have hM4 : Mid x T (fileK d) i0 m.now (m3.tick.act (.rename handN (fileN d))) := ⟨hon3, hsf3, hro3, fun o ho => by
    have ho : o ∈ m3.pend ++ [.rename handN (fileN d)] := ho
    rw [hp3] at ho
    rcases List.mem_append.1 ho with ho | ho
    · exact .inl (List.mem_singleton.1 ho)
    · exact .inr (.inr ⟨fileN d, rfl, .inr ⟨List.mem_singleton.1 ho, hl3, t, ht, by rw [hd], h3i⟩⟩)⟩
  rcases op_split hon3 (.rename handN (fileN d)) with ⟨h7, -⟩ | ⟨-, h8⟩ | ⟨-, h8⟩
  · refine absurd ?_ h7
    rw [refused_rename, hg3]
    exact (if_pos rfl).trans (if_pos (fileN_right hdl))
  · obtain ⟨g1, g2, -⟩ := hM4.fail hr m3.keep
    rw [seqM_no _ h8 (by decide)]
    exact .inl ⟨rfl, g1, g2⟩
  have hn4 : (m3.tick.act (.rename handN (fileN d))).now = tput (tdel m1.now handK) (fileK d) i0 := by
    rw [dact_rename]
    show DOp.act (.rename handN (fileN d)) m3.now = _
    simp only [DOp.act]
    rw [show tget m3.now handN.data.toList = some i0 from hg3, hn3]
    rfl
  have hf4 : (m3.tick.act (.rename handN (fileN d))).files = m3.files := rfl
  obtain ⟨m4, hm4⟩ : ∃ y, m3.tick.act (.rename handN (fileN d)) = y := ⟨_, rfl⟩
  rw [hm4] at h8 hM4 hn4 hf4
  rw [seqM_ok _ h8]
  -- flush
  rcases op_split hM4.on .flush with ⟨h9, -⟩ | ⟨-, h9⟩ | ⟨-, h9⟩
  · exact absurd rfl h9
  · obtain ⟨g1, g2, -⟩ := hM4.tick.fail hr m4.keep
    rw [h9]
    exact .inl ⟨rfl, g1, g2⟩
  · rw [h9]
    have hrd := tdel_rising (k := handK) hr1
    refine .inr (.inr ⟨rfl, ⟨hM4.on, rfl, rfl, fun p hp => ?_⟩, fun k h1 h2 => ?_, ?_⟩)
    · have hp : p ∈ m4.now := hp
      show RowOk x T m4.files p
      rw [hn4] at hp
      rw [hf4]
      rcases tput_mem.1 hp with rfl | ⟨hp1, -⟩
      · exact ⟨hl3, t, ht, by rw [hd], h3i⟩
      · obtain ⟨hp2, hp3⟩ := tdel_mem.1 hp1
        rw [hn1] at hp2
        rcases tput_mem.1 hp2 with rfl | ⟨hp2, -⟩
        · exact absurd rfl hp3
        · exact hro3 p hp2
    · show tget m4.now k = _
      rw [hn4, tget_put hrd, if_neg h2, tget_del hr1, if_neg h1, hn1, tget_put hr, if_neg h1]
    · show (tget m4.now _).isSome = true
      rw [hn4, tget_put hrd, if_pos rfl]
      rfl
end
end Go.Proofs.YtecgikanophonaaGreatDoor
/- Plain: Put, Open and what is told of a store whose power may fail; what is known of digests. -/
namespace Go.Proofs.YtecgikanophonaaGreatDoor
open Go Go.RowKit
section
variable {x : Int} {T : List ByteArray} {m : DM}
theorem nameB_of {p : Bs × Nat} {d : List UInt8} (h : p.1 = fileK d) : nameB p = fileN d := by
  unfold nameB
  rw [h]
  rfl
theorem Rest.get (h : Rest x T m) (d : List UInt8) : (∃ i t, tget m.now (fileK d) = some i ∧ t ∈ T ∧ shaU x t = d ∧ m.reads (fileN d) = (t, 0)) ∨ (tget m.now (fileK d) = none ∧ m.reads (fileN d) = (⟨#[]⟩, 10)) := by
  rw [reads_on h.on]
  cases hg : tget m.now (fileK d) with
  | none => exact .inr ⟨rfl, by rw [show tget m.now (fileN d).data.toList = none from hg]⟩
  | some i =>
    obtain ⟨-, t, ht, hk, hf⟩ := h.rows _ (tget_mem hg)
    refine .inl ⟨i, t, rfl, ht, (fileK_inj hk).symm, ?_⟩
    rw [show tget m.now (fileN d).data.toList = some i from hg]
    show (m.files[i]!.data, (0 : Int)) = _
    rw [show m.files[i]! = ⟨t, t.size⟩ from hf]
theorem Rest.getM (h : Rest x T m) (d : List UInt8) : (∃ t, (tget m.now (fileK d)).isSome = true ∧ t ∈ T ∧ shaU x t = d ∧ getM m x d = (t, 0)) ∨ (tget m.now (fileK d) = none ∧ Go.Proofs.YtecgikanophonaaGreatDoor.getM m x d = (⟨#[]⟩, 10)) := by
  rcases h.get d with ⟨i, t, h1, h2, h3, h4⟩ | ⟨h1, h2⟩
  · exact .inl ⟨t, by rw [h1]; rfl, h2, h3, getM_of h4 h3⟩
  · exact .inr ⟨h1, getM_none h2⟩
theorem Rest.hasM (h : Rest x T m) (d : List UInt8) : hasM m x d = ((tget m.now (fileK d)).isSome, 0) := by
  unfold Go.Proofs.YtecgikanophonaaGreatDoor.hasM
  rcases h.getM d with ⟨t, h1, -, -, h2⟩ | ⟨h1, h2⟩
  · rw [h2, h1]
    rfl
  · rw [h2, h1]
    rfl
theorem lists_row {m : DM} {s : ByteArray} {hd : ByteArray} (h : s ∈ m.lists hd) : m.off = false ∧ ∃ p ∈ m.now, hasHead hd p = true ∧ s = nameB p := by
  unfold DM.lists at h
  split at h
  · cases h
  · rename_i ho
    obtain ⟨p, hp, rfl⟩ := List.mem_map.1 h
    obtain ⟨h1, h2⟩ := List.mem_filter.1 hp
    exact ⟨by simpa using ho, p, h1, h2, rfl⟩
theorem digOf_file {d : List UInt8} (h : d.length = 32) : digOf (fileN d) = ⟨d, h⟩ := Subtype.ext (by show (namedM (fileN d)).getD zeroD = d; rw [namedM_fileN h]; rfl)
theorem Rest.list (h : Rest x T m) : ∀ e ∈ listM m x, ∃ t ∈ T, Go.Proofs.YtecgikanophonaaGreatDoor.getM m x e.1 = (t, 0) ∧ shaU x t = e.1 := by
  intro e he
  unfold listM at he
  obtain ⟨s, hs, rfl⟩ := List.mem_map.1 he
  obtain ⟨h1, -⟩ := List.mem_filter.1 hs
  obtain ⟨-, p, hp, -, rfl⟩ := lists_row h1
  obtain ⟨-, t, ht, hk, hf⟩ := h.rows p hp
  rw [nameB_of hk, digOf_file (shaU_len x t)]
  rcases h.getM (shaU x t) with ⟨u, -, h2, h3, h4⟩ | ⟨h2, -⟩
  · exact ⟨u, h2, h4, h3⟩
  · exact absurd hk (tget_none.1 h2 p hp)
theorem Rest.sizes (h : Rest x T m) (hd : ByteArray) : ∀ s ∈ m.lists hd, s.size ≤ 200 := by
  intro s hs
  obtain ⟨-, p, hp, -, rfl⟩ := lists_row hs
  obtain ⟨-, t, -, hk, -⟩ := h.rows p hp
  rw [nameB_of hk, fileN_size, shaU_len]
  decide
/-- A text is put in. -/
theorem put_out (h : Rest x T m) (hr : Rising m.now) (t : ByteArray) (ht : t ∈ T) :
    ((putM m x t).2.2 = 0 ∧ Rest x T (putM m x t).1 ∧ Same2 (fileK (shaU x t)) m.now (putM m x t).1.now ∧ (tget (putM m x t).1.now (fileK (shaU x t))).isSome = true) ∨
      ((putM m x t).2.2 = 29 ∧ (putM m x t).1 = m) ∨
      ((putM m x t).2.2 = 27 ∧ Down x T (putM m x t).1 ∧ Same2 (fileK (shaU x t)) m.now (putM m x t).1.now) ∨
      ((putM m x t).2.2 = 28 ∧ (Down x T (putM m x t).1 ∨ Rest x T (putM m x t).1) ∧ Same2 handK m.now (putM m x t).1.now) := by
  unfold putM
  rw [if_neg (by rw [h.on]; decide)]
  cases hrt : rightM m x (fileN (shaU x t)) with
  | some u =>
    obtain ⟨h1, h2⟩ := rightM_inv (shaU_len x t) hrt
    simp only
    by_cases hu : u = t
    · rw [if_pos hu]
      refine .inl ⟨rfl, h, fun _ _ _ => rfl, ?_⟩
      rcases h.get (shaU x t) with ⟨i, s, h3, -⟩ | ⟨-, h4⟩
      · rw [h3]; rfl
      · rw [h1] at h4; cases h4
    · rw [if_neg hu]
      exact .inr (.inl ⟨rfl, rfl⟩)
  | none =>
    simp only
    rcases lay_out h hr t ht with ⟨h1, h2, h3⟩ | ⟨h1, h2, h3⟩ | ⟨h1, h2, h3, h4⟩
    · rw [if_neg (by rw [h1]; decide)]
      exact .inr (.inr (.inl ⟨h1, h2, h3⟩))
    · rw [if_neg (by rw [h1]; decide)]
      exact .inr (.inr (.inr ⟨h1, h2, h3⟩))
    · rw [if_pos h1]
      exact .inl ⟨rfl, h2, h3, h4⟩
theorem hand_head : Lib.hasPrefix handK blobHead = false := by decide
theorem Down.bad (h : Down x T m) : badM m.revive x = if (tget m.now handK).isSome then [handN] else [] := by
  unfold badM
  have h1 : (m.revive.lists ⟨blobHead.toArray⟩).filter (fun n => (rightM m.revive x n).isNone) = [] := by
    refine List.filter_eq_nil_iff.2 fun s hs => ?_
    obtain ⟨-, p, hp, hh, rfl⟩ := lists_row hs
    have hp : p ∈ m.now := hp
    rcases h.rows p hp with hk | ⟨-, t, -, hk, hf⟩
    · exfalso
      have : Lib.hasPrefix p.1 blobHead = true := hh
      rw [hk, hand_head] at this
      cases this
    · rw [nameB_of hk]
      have hg : ∃ j, tget m.now (fileK (shaU x t)) = some j := by
        cases hx : tget m.now (fileK (shaU x t)) with
        | none => exact absurd hk (tget_none.1 hx p hp)
        | some j => exact ⟨j, rfl⟩
      obtain ⟨j, hj⟩ := hg
      rcases h.rows _ (tget_mem hj) with hk2 | ⟨-, u, -, hk2, hf2⟩
      · exact absurd hk2 (fileK_hand _)
      have hu : shaU x u = shaU x t := (fileK_inj hk2).symm
      have hrd : m.revive.reads (fileN (shaU x t)) = (u, 0) := by
        rw [reads_on rfl, show tget m.revive.now (fileN (shaU x t)).data.toList = some j from hj]
        show (m.files[j]!.data, (0 : Int)) = _
        rw [show m.files[j]! = ⟨u, u.size⟩ from hf2]
      rw [rightM_of (shaU_len x t) hrd hu]
      exact fun e => by cases e
  rw [h1, List.append_nil, reads_on rfl]
  have he : tget m.revive.now handN.data.toList = tget m.now handK := rfl
  rw [he]
  cases tget m.now handK with
  | none => exact if_neg (show ¬ (10 : Int) = 0 by decide)
  | some i => exact if_pos rfl
/-- The disk is revived and the store opened anew. -/
theorem open_out (h : Down x T m) (hr : Rising m.now) : (openM m.revive x).2 = 0 ∧ Rest x T (openM m.revive x).1 ∧ Same2 handK m.now (openM m.revive x).1.now ∧ (badM m.revive x).length ≤ 1 ∧ ∀ s ∈ m.revive.lists ⟨blobHead.toArray⟩, s.size ≤ 200 := by
  have hb := h.bad
  have hsz : ∀ s ∈ m.revive.lists ⟨blobHead.toArray⟩, s.size ≤ 200 := fun s hs => by
    obtain ⟨-, p, hp, -, rfl⟩ := lists_row hs
    have hp : p ∈ m.now := hp
    rcases h.rows p hp with hk | ⟨-, t, -, hk, -⟩
    · show p.1.toArray.size ≤ 200
      rw [hk]
      decide
    · rw [nameB_of hk, fileN_size, shaU_len]
      decide
  have hc : m.revive.Calm := ⟨rfl, h.armed⟩
  unfold openM
  rw [if_neg (show ¬ m.revive.off = true from fun e => by cases e)]
  cases hg : tget m.now handK with
  | none =>
    rw [hg] at hb
    rw [hb, show (if (none : Option Nat).isSome = true then [handN] else []) = [] from rfl]
    refine ⟨rfl, ⟨rfl, h.pend, h.eq, fun p hp => ?_⟩, fun _ _ _ => rfl, by decide, hsz⟩
    have hp : p ∈ m.now := hp
    rcases h.rows p hp with hk | hk
    · exact absurd hk (tget_none.1 hg p hp)
    · exact hk
  | some i =>
    rw [hg] at hb
    rw [hb, show (if (some i : Option Nat).isSome = true then [handN] else []) = [handN] from rfl]
    have e1 : m.revive.op (.remove handN) = (m.revive.act (.remove handN), 0) := by
      rw [hc.op_eq]
      have hf : m.revive.refused (.remove handN) = 0 := by
        rw [refused_remove]
        unfold DM.get
        rw [show tget m.revive.now handN.data.toList = some i from hg]
        rfl
      rw [hf]
      rfl
    have e2 : (m.revive.act (.remove handN)).op .flush = ((m.revive.act (.remove handN)).act .flush, 0) := by
      rw [(hc.act _).op_eq]
      rfl
    have e3 : takesM [handN] m.revive = (m.revive.act (.remove handN), 0) := by
      show seqM (m.revive.op (.remove handN)) (takesM []) = _
      rw [seqM_ok _ e1]
      rfl
    rw [seqM_ok _ e3, if_neg (by decide), e2]
    have hn : ((m.revive.act (.remove handN)).act .flush).now = tdel m.now handK := rfl
    refine ⟨rfl, ⟨rfl, rfl, rfl, fun p hp => ?_⟩, fun k h1 _ => ?_, by decide, hsz⟩
    · rw [hn] at hp
      obtain ⟨h1, h2⟩ := tdel_mem.1 hp
      rcases h.rows p h1 with hk | hk
      · exact absurd hk h2
      · exact hk
    · rw [hn, tget_del hr, if_neg h1]
end
/-- What is known of a digest: a text is there; none is. -/
structure Ent where
  dig : Dg
  must : Bool
  gone : Bool
def noteM : List Ent → Dg → Bool → Bool → List Ent
  | [], d, a, g => [⟨d, a, g⟩]
  | e :: r, d, a, g => if e.dig = d then ⟨d, a, g⟩ :: r else e :: noteM r d a g
structure BookOk (m : DM) (b : List Ent) : Prop where
  nodup : (b.map (·.dig)).Nodup
  must : ∀ e ∈ b, e.must = true → (tget m.now (fileK e.dig.1)).isSome = true
  gone : ∀ e ∈ b, e.gone = true → tget m.now (fileK e.dig.1) = none
theorem note_digs : ∀ (b : List Ent) (d : Dg) (a g : Bool), (noteM b d a g).map (·.dig) = if d ∈ b.map (·.dig) then b.map (·.dig) else b.map (·.dig) ++ [d]
  | [], d, a, g => rfl
  | e :: r, d, a, g => by
    unfold noteM
    by_cases h : e.dig = d
    · rw [if_pos h, List.map_cons, List.map_cons, if_pos (by rw [h]; exact List.mem_cons_self), ← h]
    · rw [if_neg h, List.map_cons, note_digs r d a g, List.map_cons]
      by_cases h2 : d ∈ r.map (·.dig)
      · rw [if_pos h2, if_pos (List.mem_cons_of_mem _ h2)]
      · rw [if_neg h2, if_neg (fun h3 => by rcases List.mem_cons.1 h3 with h3 | h3; exact h h3.symm; exact h2 h3)]
        rfl
theorem note_mem : ∀ (b : List Ent) (d : Dg) (a g : Bool), (b.map (·.dig)).Nodup → ∀ e ∈ noteM b d a g, e = ⟨d, a, g⟩ ∨ (e ∈ b ∧ e.dig ≠ d)
  | [], d, a, g, _, e, he => .inl (List.mem_singleton.1 he)
  | f :: r, d, a, g, hn, e, he => by
    unfold noteM at he
    rw [List.map_cons, List.nodup_cons] at hn
    by_cases h : f.dig = d
    · rw [if_pos h] at he
      rcases List.mem_cons.1 he with he | he
      · exact .inl he
      · exact .inr ⟨List.mem_cons_of_mem _ he, fun e2 => hn.1 (by rw [h, ← e2]; exact List.mem_map_of_mem he)⟩
    · rw [if_neg h] at he
      rcases List.mem_cons.1 he with rfl | he
      · exact .inr ⟨List.mem_cons_self, h⟩
      · rcases note_mem r d a g hn.2 e he with h2 | ⟨h2, h3⟩
        · exact .inl h2
        · exact .inr ⟨List.mem_cons_of_mem _ h2, h3⟩
theorem BookOk.same {m m' : DM} {b : List Ent} (h : BookOk m b) (hs : Same2 handK m.now m'.now) : BookOk m' b :=
  ⟨h.nodup, fun e he hm => by rw [hs _ (fileK_hand _) (fileK_hand _)]; exact h.must e he hm, fun e he hm => by rw [hs _ (fileK_hand _) (fileK_hand _)]; exact h.gone e he hm⟩
theorem BookOk.note {m m' : DM} {b : List Ent} {d : Dg} {a g : Bool} (h : BookOk m b) (hs : Same2 (fileK d.1) m.now m'.now) (ha : a = true → (tget m'.now (fileK d.1)).isSome = true) (hg : g = true → tget m'.now (fileK d.1) = none) : BookOk m' (noteM b d a g) := by
  refine ⟨?_, fun e he hm => ?_, fun e he hm => ?_⟩
  · rw [note_digs]
    split
    · exact h.nodup
    · rename_i hd
      exact List.nodup_append.2 ⟨h.nodup, (List.pairwise_singleton _ _), fun x hx y hy => by rw [List.mem_singleton.1 hy]; exact fun e => hd (e ▸ hx)⟩
  · rcases note_mem b d a g h.nodup e he with rfl | ⟨h1, h2⟩
    · exact ha hm
    · rw [hs _ (fileK_hand _) (fun e2 => h2 (Subtype.ext (fileK_inj e2)))]; exact h.must e h1 hm
  · rcases note_mem b d a g h.nodup e he with rfl | ⟨h1, h2⟩
    · exact hg hm
    · rw [hs _ (fileK_hand _) (fun e2 => h2 (Subtype.ext (fileK_inj e2)))]; exact h.gone e h1 hm
end Go.Proofs.YtecgikanophonaaGreatDoor
