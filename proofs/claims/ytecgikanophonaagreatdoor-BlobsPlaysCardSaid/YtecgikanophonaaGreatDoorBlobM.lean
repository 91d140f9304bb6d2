/- Plain: a store of texts under their digests, over a disk. -/
import Derived.Test.YtecgikanophonaaGreatDoorM29
import Derived.Test.YtecgikanophonaaGreatDoorM3
import Derived.Test.YtecgikanophonaaGreatDoorDiskA
import Derived.Test.YtecgikanophonaaGreatDoorM11
set_option maxRecDepth 100000
set_option maxHeartbeats 25600000
namespace Go.Proofs.YtecgikanophonaaGreatDoor
open Go Go.RowKit
def seqM (p:DM × Int) (f:DM→DM × Int):DM × Int:=if p.2=0 then f p.1 else p
theorem seqM_ok {p:DM × Int} {m:DM} (f:DM→DM × Int) (h:p=(m,0)):seqM p f=f m:=by rw [h];rfl
theorem seqM_no {p:DM × Int} {m:DM} {x:Int} (f:DM→DM × Int) (h:p=(m,x)) (hx:x≠0):seqM p f=(m,x):=by rw [h];exact if_neg hx
def blobHead:List UInt8:=[98,108,111,98,115,47]
def handN:ByteArray:=⟨#[116,109,112,47,98,108,111,98]⟩
def fileN (d:List UInt8):ByteArray:=⟨(blobHead ++ hexB d).toArray⟩
def namedM (n:ByteArray):Option (List UInt8):=parseD ⟨(shaHead ++ (if n.data.toList.take 6=blobHead then n.data.toList.drop 6 else n.data.toList)).toArray⟩
def rightM (m:DM) (x:Int) (n:ByteArray):Option ByteArray :=
 match namedM n with
 |none=>none
 |some d=>if (m.reads n).2=0∧shaU x (m.reads n).1=d then some (m.reads n).1 else none
def fixM (p:DM × Int):DM × Int:=if p.2=28 then (((p.1.op (.remove handN)).1.op .flush).1,28) else p
def clearM (m:DM):DM × Int:=if (m.reads handN).2=0 then seqM (m.op (.remove handN)) fun m=>m.op .flush else (m,0)
def layM (m:DM) (name t:ByteArray):DM × Int :=
 seqM (clearM m) fun m=>seqM (m.op (.create handN)) fun m =>
  fixM (seqM (m.op (.write handN t)) fun m=>seqM (m.op (.sync handN)) fun m=>seqM (m.op (.rename handN name)) fun m=>m.op .flush)
def putM (m:DM) (x:Int) (t:ByteArray):DM × (List UInt8 × Int) :=
 if m.off then (m,zeroD,27) else
 match rightM m x (fileN (shaU x t)) with
 |some u=>if u=t then (m,shaU x t,0) else (m,zeroD,29)
 |none=>if (layM m (fileN (shaU x t)) t).2=0 then ((layM m (fileN (shaU x t)) t).1,shaU x t,0) else ((layM m (fileN (shaU x t)) t).1,zeroD,(layM m (fileN (shaU x t)) t).2)
def getM (m:DM) (x:Int) (d:List UInt8):ByteArray × Int :=
 if (m.reads (fileN d)).2≠0 then (⟨#[]⟩,(m.reads (fileN d)).2) else if shaU x (m.reads (fileN d)).1=d then ((m.reads (fileN d)).1,0) else (⟨#[]⟩,30)
def hasM (m:DM) (x:Int) (d:List UInt8):Bool × Int :=
 if (getM m x d).2=10∨(getM m x d).2=30 then (false,0) else ((getM m x d).2=0,(getM m x d).2)
def takeM (m:DM) (d:List UInt8):DM × Int:=seqM (m.op (.remove (fileN d))) fun m=>m.op .flush
def badM (m:DM) (x:Int):List ByteArray:=(if (m.reads handN).2=0 then [handN] else []) ++ (m.lists ⟨blobHead.toArray⟩).filter fun n=>(rightM m x n).isNone
def takesM:List ByteArray→DM→DM × Int
 |[],m=>(m,0)
 |n :: r,m=>seqM (m.op (.remove n)) (takesM r)
def openM (m:DM) (x:Int):DM × Int :=
 if m.off then (m,27) else seqM (takesM (badM m x) m) fun m'=>if badM m x=[] then (m',0) else m'.op .flush
theorem bytes_ne {a b:ByteArray} (h:a≠b):a.data.toList≠b.data.toList:=fun e=>h (by
 cases a;cases b
 exact congrArg ByteArray.mk (Array.toList_inj.1 e))
theorem fileN_size (d:List UInt8):(fileN d).size=6+2 * d.length:=by
 show (blobHead ++ hexB d).length=_
 rw [List.length_append,hexB_len]
 rfl
theorem fileN_list (d:List UInt8):(fileN d).data.toList=blobHead ++ hexB d:=rfl
theorem fileN_inj {d e:List UInt8} (h:fileN d=fileN e):d=e:=by
 have h1:blobHead ++ hexB d=blobHead ++ hexB e:=by rw [← fileN_list,h,fileN_list]
 exact hexB_inj (List.append_cancel_left h1)
theorem fileN_hand (d:List UInt8):fileN d≠handN:=by
 intro h
 have h1:(blobHead ++ hexB d).head?=some 116:=by rw [← fileN_list,h];rfl
 cases h1
theorem fileN_right {d:List UInt8} (h:d.length=32):rightB (fileN d)=true:=by
 unfold rightB
 rw [fileN_size,h]
 rfl
theorem namedM_fileN {d:List UInt8} (h:d.length=32):namedM (fileN d)=some d:=by
 unfold namedM
 have h1:(blobHead ++ hexB d).take 6=blobHead:=by rw [List.take_append_of_le_length (by decide)];rfl
 have h2:(blobHead ++ hexB d).drop 6=hexB d:=by rw [List.drop_append_of_le_length (by decide)];rfl
 rw [fileN_list,if_pos h1,h2]
 exact parseD_textD d h
theorem namedM_inv {n:ByteArray} (hp:n.data.toList.take 6=blobHead) {d:List UInt8} (h:namedM n=some d):n=fileN d∧d.length=32:=by
 unfold namedM at h
 rw [if_pos hp] at h
 obtain ⟨h1,h2⟩:=parseD_inv h
 refine ⟨?_,h2⟩
 have h3:shaHead ++ n.data.toList.drop 6=shaHead ++ hexB d:=by
  have:=congrArg (fun s:ByteArray=>s.data.toList) h1
  exact this
 have h4:=List.append_cancel_left h3
 have h5:n.data.toList=(fileN d).data.toList:=by rw [fileN_list,← h4,← hp];exact (List.take_append_drop 6 _).symm
 exact Classical.byContradiction fun hne=>bytes_ne hne h5
theorem reads_on {m:DM} (h:m.off=false) (n:ByteArray):m.reads n=match tget m.now n.data.toList with | some i=>(m.files[i]!.data,0) | none=>(⟨#[]⟩,10):=by
 unfold DM.reads DM.get
 rw [if_neg (by rw [h];decide)]
 rfl
theorem set_app_last {fs:List Fil} (f g:Fil):(fs ++ [f]).set fs.length g=fs ++ [g]:=by
 rw [List.set_append_right _ _ (Nat.le_refl _),Nat.sub_self]
 rfl
theorem get_app_last {fs:List Fil} (f:Fil):(fs ++ [f])[fs.length]! = f:=by
 rw [getElem!_pos (fs ++ [f]) fs.length (by rw [List.length_append,List.length_singleton];omega),List.getElem_append_right (Nat.le_refl _)]
 simp
theorem get_app_old {fs:List Fil} (f:Fil) {i:Nat} (h:i < fs.length):(fs ++ [f])[i]! = fs[i]!:=by
 rw [getElem!_pos (fs ++ [f]) i (by rw [List.length_append];omega),getElem!_pos fs i h,List.getElem_append_left h]
theorem refused_create (m:DM) (n:ByteArray):m.refused (.create n)=if rightB n then if (m.get n).isSome then 11 else 0 else 8:=rfl
theorem refused_write (m:DM) (n s:ByteArray):m.refused (.write n s)=if (m.get n).isSome then if m.used+s.size > m.room then 28 else 0 else 10:=rfl
theorem refused_sync (m:DM) (n:ByteArray):m.refused (.sync n)=if (m.get n).isSome then 0 else 10:=rfl
theorem refused_rename (m:DM) (o n:ByteArray):m.refused (.rename o n)=if (m.get o).isSome then if rightB n then 0 else 8 else 10:=rfl
theorem refused_remove (m:DM) (n:ByteArray):m.refused (.remove n)=if (m.get n).isSome then 0 else 10:=rfl
theorem dact_write (m:DM) (n s:ByteArray):m.act (.write n s)=match m.get n with | some i=>{ m with files:=m.files.set i ⟨m.files[i]!.data ++ s,m.files[i]!.safe⟩ } | none=>m:=rfl
theorem dact_sync (m:DM) (n:ByteArray):m.act (.sync n)=match m.get n with | some i=>{ m with files:=m.files.set i ⟨m.files[i]!.data,m.files[i]!.data.size⟩ } | none=>m:=rfl
theorem dact_rename (m:DM) (o n:ByteArray):m.act (.rename o n)=m.names (.rename o n):=rfl
theorem hand_right:rightB handN=true:=by decide
theorem lay_calm {m:DM} (hc:m.Calm) (hr:Rising m.now) (hi:∀ p∈m.now,p.2 < m.files.length) (hh:m.get handN=none) (name t:ByteArray) (hn:rightB name=true) (hne:name≠handN) :
  (layM m name t).1.Calm∧(layM m name t).1.get handN=none∧(∀ n,n≠handN→n≠name→(layM m name t).1.reads n=m.reads n) ∧
   (((layM m name t).2=0∧(layM m name t).1.reads name=(t,0))∨((layM m name t).2=28∧(layM m name t).1.reads name=m.reads name∧m.room < sizeOfTab (m.files ++ [⟨⟨#[]⟩,0⟩]) (tput m.now handN.data.toList m.files.length)+t.size)):=by
 obtain ⟨off,room,files,now,safe,pend,armed,keep⟩:=m
 obtain ⟨h1,h2⟩:=hc
 simp only at h1 h2 hr hi
 subst h1 h2
 have hg:tget now handN.data.toList=none:=hh
 have e0:clearM ⟨false,room,files,now,safe,pend,0,keep⟩=(⟨false,room,files,now,safe,pend,0,keep⟩,0):=by
  unfold clearM
  rw [reads_on rfl]
  simp only
  rw [hg]
  rfl
 obtain ⟨m1,hm1⟩:∃ x:DM,x=⟨false,room,files ++ [⟨⟨#[]⟩,0⟩],tput now handN.data.toList files.length,safe,pend ++ [.create handN files.length],0,keep⟩:=⟨_,rfl⟩
 have e1:(⟨false,room,files,now,safe,pend,0,keep⟩:DM).op (.create handN)=(m1,0):=by
  rw [DM.Calm.op_eq ⟨rfl,rfl⟩]
  have hf:(⟨false,room,files,now,safe,pend,0,keep⟩:DM).refused (.create handN)=0:=by
   rw [refused_create]
   rw [if_pos hand_right,hh]
   rfl
  rw [hf,if_neg (by decide),hm1]
  rfl
 have hr1:Rising (tput now handN.data.toList files.length):=tput_rising hr
 have hg1:tget (tput now handN.data.toList files.length) handN.data.toList=some files.length:=by rw [tget_put hr,if_pos rfl]
 have c1:m1.Calm:=by rw [hm1];exact ⟨rfl,rfl⟩
 have g1:m1.get handN=some files.length:=by rw [hm1];exact hg1
 have hmap:∀ (fs':List Fil) (x:Fil),fs'=files ++ [x]→∀ i,tget now i=none∨∃ j,tget now i=some j∧fs'[j]! = files[j]!:=fun fs' x hfs i=>by
  cases hj:tget now i with
  |none=>exact .inl rfl
  |some j=>exact .inr ⟨j,rfl,by rw [hfs];exact get_app_old _ (hi _ (tget_mem hj))⟩
 unfold layM
 rw [seqM_ok _ e0,seqM_ok _ e1]
 by_cases hfull:m1.used+t.size > m1.room
 ·have e2:m1.op (.write handN t)=(m1,28):=by
   rw [c1.op_eq]
   have hf:m1.refused (.write handN t)=28:=by
    rw [refused_write]
    rw [g1]
    exact (if_pos rfl).trans (if_pos hfull)
   rw [hf]
   rfl
  obtain ⟨m2,hm2⟩:∃ x:DM,x=⟨false,room,files ++ [⟨⟨#[]⟩,0⟩],tdel (tput now handN.data.toList files.length) handN.data.toList,safe,pend ++ [.create handN files.length] ++ [.remove handN],0,keep⟩:=⟨_,rfl⟩
  have e3:m1.op (.remove handN)=(m2,0):=by
   rw [c1.op_eq]
   have hf:m1.refused (.remove handN)=0:=by
    rw [refused_remove]
    rw [g1]
    rfl
   rw [hf,if_neg (by decide),hm1,hm2]
   rfl
  have c2:m2.Calm:=by rw [hm2];exact ⟨rfl,rfl⟩
  have e4:m2.op .flush=(m2.act .flush,0):=by rw [c2.op_eq];rfl
  have e5:fixM (m1,28)=(m2.act .flush,28):=by
   unfold fixM
   rw [if_pos rfl]
   show ((((m1.op (.remove handN)).1.op .flush).1,28):DM × Int)=_
   rw [e3,e4]
  rw [seqM_no _ e2 (by decide),e5]
  have hnow:(m2.act .flush).now=tdel (tput now handN.data.toList files.length) handN.data.toList:=by rw [hm2];rfl
  have hfil:(m2.act .flush).files=files ++ [⟨⟨#[]⟩,0⟩]:=by rw [hm2];rfl
  have hsame:∀ n,n≠handN→(m2.act .flush).reads n=(⟨false,room,files,now,safe,pend,0,keep⟩:DM).reads n:=fun n h=>by
   rw [reads_on (c2.act .flush).1,reads_on rfl,hnow,hfil,tget_del hr1,if_neg (bytes_ne h),tget_put hr,if_neg (bytes_ne h)]
   simp only
   rcases hmap _ _ rfl n.data.toList with hx | ⟨j,hx,hy⟩
   ·rw [hx]
   ·rw [hx];simp only;rw [hy]
  have hbig:room < sizeOfTab (files ++ [⟨⟨#[]⟩,0⟩]) (tput now handN.data.toList files.length)+t.size:=by
   rw [hm1] at hfull
   exact hfull
  refine ⟨c2.act .flush,?_,fun n h _=>hsame n h,.inr ⟨rfl,hsame _ hne,hbig⟩⟩
  show tget (m2.act .flush).now _=none
  rw [hnow,tget_del hr1,if_pos rfl]
 ·obtain ⟨m2,hm2⟩:∃ x:DM,x=⟨false,room,files ++ [⟨⟨#[]⟩ ++ t,0⟩],tput now handN.data.toList files.length,safe,pend ++ [.create handN files.length],0,keep⟩:=⟨_,rfl⟩
  have e2:m1.op (.write handN t)=(m2,0):=by
   rw [c1.op_eq]
   have hf:m1.refused (.write handN t)=0:=by
    rw [refused_write]
    rw [g1]
    exact (if_pos rfl).trans (if_neg hfull)
   rw [hf,if_neg (by decide)]
   rw [dact_write,g1]
   show ((_:DM),(0:Int))=_
   rw [hm1,hm2]
   refine congrArg (fun fs=>((⟨false,room,fs,tput now handN.data.toList files.length,safe,pend ++ [.create handN files.length],0,keep⟩:DM),(0:Int))) ?_
   rw [set_app_last,get_app_last]
  have g2:m2.get handN=some files.length:=by rw [hm2];exact hg1
  have c2:m2.Calm:=by rw [hm2];exact ⟨rfl,rfl⟩
  obtain ⟨m3,hm3⟩:∃ x:DM,x=⟨false,room,files ++ [⟨⟨#[]⟩ ++ t,(⟨#[]⟩ ++ t:ByteArray).size⟩],tput now handN.data.toList files.length,safe,pend ++ [.create handN files.length],0,keep⟩:=⟨_,rfl⟩
  have e3:m2.op (.sync handN)=(m3,0):=by
   rw [c2.op_eq]
   have hf:m2.refused (.sync handN)=0:=by
    rw [refused_sync]
    rw [g2]
    rfl
   rw [hf,if_neg (by decide)]
   rw [dact_sync,g2]
   show ((_:DM),(0:Int))=_
   rw [hm2,hm3]
   refine congrArg (fun fs=>((⟨false,room,fs,tput now handN.data.toList files.length,safe,pend ++ [.create handN files.length],0,keep⟩:DM),(0:Int))) ?_
   rw [set_app_last,get_app_last]
  have g3:m3.get handN=some files.length:=by rw [hm3];exact hg1
  have c3:m3.Calm:=by rw [hm3];exact ⟨rfl,rfl⟩
  obtain ⟨m4,hm4⟩:∃ x:DM,x=⟨false,room,files ++ [⟨⟨#[]⟩ ++ t,(⟨#[]⟩ ++ t:ByteArray).size⟩],tput (tdel (tput now handN.data.toList files.length) handN.data.toList) name.data.toList files.length,safe,pend ++ [.create handN files.length] ++ [.rename handN name],0,keep⟩:=⟨_,rfl⟩
  have e4:m3.op (.rename handN name)=(m4,0):=by
   rw [c3.op_eq]
   have hf:m3.refused (.rename handN name)=0:=by
    rw [refused_rename]
    rw [g3]
    exact (if_pos rfl).trans (if_pos hn)
   rw [hf,if_neg (by decide),hm3,hm4]
   rw [dact_rename]
   unfold DM.names DOp.act
   show ((_:DM),(0:Int))=_
   simp only [hg1]
  have c4:m4.Calm:=by rw [hm4];exact ⟨rfl,rfl⟩
  have e5:m4.op .flush=(m4.act .flush,0):=by rw [c4.op_eq];rfl
  rw [seqM_ok _ e2,seqM_ok _ e3,seqM_ok _ e4,e5]
  have hnow:(m4.act .flush).now=tput (tdel (tput now handN.data.toList files.length) handN.data.toList) name.data.toList files.length:=by rw [hm4];rfl
  have hfil:(m4.act .flush).files=files ++ [⟨⟨#[]⟩ ++ t,(⟨#[]⟩ ++ t:ByteArray).size⟩]:=by rw [hm4];rfl
  have hr2:=tdel_rising (k:=handN.data.toList) hr1
  have hf0:fixM (m4.act .flush,0)=(m4.act .flush,0):=rfl
  rw [hf0]
  refine ⟨c4.act .flush,?_,fun n h h'=>?_,.inl ⟨rfl,?_⟩⟩
  ·show tget (m4.act .flush).now _=none
   rw [hnow,tget_put hr2,if_neg (bytes_ne hne.symm),tget_del hr1,if_pos rfl]
  ·rw [reads_on (c4.act .flush).1,reads_on rfl,hnow,hfil,tget_put hr2,if_neg (bytes_ne h'),tget_del hr1,if_neg (bytes_ne h),tget_put hr,if_neg (bytes_ne h)]
   simp only
   rcases hmap _ _ rfl n.data.toList with hx | ⟨j,hx,hy⟩
   ·rw [hx]
   ·rw [hx];simp only;rw [hy]
  ·rw [reads_on (c4.act .flush).1,hnow,hfil,tget_put hr2,if_pos rfl]
   show ((files ++ [_])[files.length]!.data,(0:Int))=_
   rw [get_app_last]
   refine congrArg (fun x=>(x,(0:Int))) ?_
   show (⟨#[]⟩ ++ t:ByteArray)=t
   exact ByteArray.empty_append
theorem getM_of {m:DM} {x:Int} {d:List UInt8} {t:ByteArray} (h:m.reads (fileN d)=(t,0)) (hs:shaU x t=d):getM m x d=(t,0):=by
 unfold getM
 rw [h]
 show (if (0:Int)≠0 then _ else if shaU x t=d then (t,0) else _)=_
 rw [if_neg (fun e=>e rfl),if_pos hs]
theorem rightM_of {m:DM} {x:Int} {d:List UInt8} {t:ByteArray} (hd:d.length=32) (h:m.reads (fileN d)=(t,0)) (hs:shaU x t=d):rightM m x (fileN d)=some t:=by
 unfold rightM
 rw [namedM_fileN hd,h]
 exact if_pos ⟨rfl,hs⟩
theorem rightM_inv {m:DM} {x:Int} {d:List UInt8} {t:ByteArray} (hd:d.length=32) (h:rightM m x (fileN d)=some t):m.reads (fileN d)=(t,0)∧shaU x t=d:=by
 unfold rightM at h
 rw [namedM_fileN hd] at h
 simp only at h
 split at h
 ·rename_i hc
  have:=Option.some.inj h
  exact ⟨Prod.ext this hc.1,this ▸ hc.2⟩
 ·cases h
structure Calmly (m:DM):Prop where
 calm:m.Calm
 now:Rising m.now
 ids:∀ p∈m.now,p.2 < m.files.length
 hand:m.get handN=none
theorem put_calm {m:DM} (hc:Calmly m) (x:Int) (t:ByteArray) :
  (putM m x t).1.Calm∧(putM m x t).1.get handN=none ∧
   (((putM m x t).2=(shaU x t,0)∧(putM m x t).1.reads (fileN (shaU x t))=(t,0)∧(∀ d,d≠shaU x t→(putM m x t).1.reads (fileN d)=m.reads (fileN d))∧(∀ u,m.reads (fileN (shaU x t))=(u,0)→shaU x u=shaU x t→u=t)) ∨
    (((putM m x t).2=(zeroD,29)∨(putM m x t).2=(zeroD,28)∧m.room < sizeOfTab (m.files ++ [⟨⟨#[]⟩,0⟩]) (tput m.now handN.data.toList m.files.length)+t.size)∧∀ d,(putM m x t).1.reads (fileN d)=m.reads (fileN d))):=by
 have hl:=shaU_len x t
 unfold putM
 rw [if_neg (by rw [hc.calm.1];decide)]
 cases hr:rightM m x (fileN (shaU x t)) with
 |some u =>
  obtain ⟨h1,h2⟩:=rightM_inv hl hr
  simp only
  by_cases hu:u=t
  ·rw [if_pos hu]
   subst hu
   exact ⟨hc.calm,hc.hand,.inl ⟨rfl,h1,fun _ _=>rfl,fun v hv _=>by rw [h1] at hv;exact (Prod.mk.inj hv).1.symm⟩⟩
  ·rw [if_neg hu]
   exact ⟨hc.calm,hc.hand,.inr ⟨.inl rfl,fun _=>rfl⟩⟩
 |none =>
  simp only
  obtain ⟨h1,h2,h3,h4⟩:=lay_calm hc.calm hc.now hc.ids hc.hand (fileN (shaU x t)) t (fileN_right hl) (fileN_hand _)
  rcases h4 with ⟨h5,h6⟩ | ⟨h5,h6,h7⟩
  ·rw [if_pos h5]
   refine ⟨h1,h2,.inl ⟨rfl,h6,fun d hd=>h3 _ (fileN_hand _) (fun e=>hd (fileN_inj e)),fun u hu hs=>?_⟩⟩
   rw [rightM_of hl hu hs] at hr
   cases hr
  ·rw [h5,if_neg (by decide)]
   refine ⟨h1,h2,.inr ⟨.inr ⟨rfl,h7⟩,fun d=>?_⟩⟩
   by_cases hd:d=shaU x t
   ·rw [hd];exact h6
   ·exact h3 _ (fileN_hand _) (fun e=>hd (fileN_inj e))
theorem getM_none {m:DM} {x:Int} {d:List UInt8} (h:m.reads (fileN d)=(⟨#[]⟩,10)):getM m x d=(⟨#[]⟩,10):=by
 unfold getM
 rw [h]
 exact if_pos (by decide)
theorem calm_new (r:Int):Calmly (DM.new r):=⟨⟨rfl,rfl⟩,List.Pairwise.nil,fun _ h=>(by cases h),rfl⟩
theorem open_new (r:Int) (x:Int):openM (DM.new r) x=(DM.new r,0)∧badM (DM.new r) x=[]:=by
 have h:badM (DM.new r) x=[]:=rfl
 refine ⟨?_,h⟩
 unfold openM
 rw [h]
 rfl
end Go.Proofs.YtecgikanophonaaGreatDoor
