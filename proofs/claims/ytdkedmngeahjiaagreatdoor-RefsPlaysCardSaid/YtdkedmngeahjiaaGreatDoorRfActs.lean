/- Acts on names among the arguments; stratalaw24.few. -/
import Derived.Test.YtdkedmngeahjiaaGreatDoorDigB
import Derived.Test.YtdkedmngeahjiaaGreatDoorM7
import Derived.Deep.QuietTactic
import Derived.BigQuiet
set_option maxRecDepth 100000
set_option maxHeartbeats 25600000
namespace Go.Proofs.YtdkedmngeahjiaaGreatDoor
open Go Go.RowKit
structure ActR where
 name:ByteArray
 dig:List UInt8
 del:Bool
 num:Int
 keep:List Int
def ActR.cells (m:ActR) (kv:Value):List Value:=.string m.name :: (m.dig.map byteV ++ [.bool m.del,.int .i64 m.num,kv])
def bigI (x:Int):Prop:=-9223372036854775808≤x∧x≤9223372036854775807
def ActR.Fits (m:ActR):Prop:=m.dig.length=32∧bigI m.num∧m.name.size≤140737488351232∧m.keep.length * 8≤140737488351232
def IntsIn (w:World) (kv:Value) (ks:List Int):Prop:=IntsRd (fun _=>False) w kv ks
theorem IntsIn.rd {w w1:World} {kv:Value} {ks:List Int} (h:IntsIn w kv ks) (hb:Below w.heap.size w w1) {S:Nat→Prop} (hS:∀ b,S b→w.heap.size≤b):IntsRd S w1 kv ks:=by
 obtain ⟨p,cap,h1,h2,h3⟩:=h
 refine ⟨p,cap,h1,h2,fun j k hj=>?_⟩
 obtain ⟨h4,b,off,h5,h6,h7,-⟩:=h3 j k hj
 exact ⟨h4,b,off,h5,(hb.cell (p:=⟨b,off+j,none⟩) h7).trans h6,Nat.lt_of_lt_of_le h7 hb.size,.inl (fun hs=>by have:=hS b hs;omega)⟩
theorem IntsIn.bounds {w:World} {kv:Value} {ks:List Int} (h:IntsIn w kv ks):∀ k∈ks,-9223372036854775808≤k∧k≤9223372036854775807:=fun k hk=>by
 obtain ⟨j,hj,hjk⟩:=List.getElem_of_mem hk
 obtain ⟨p,cap,-,-,h3⟩:=h
 exact (h3 j k (by rw [List.getElem?_eq_getElem hj,hjk])).1
def ActsR (w:World) (v:Value) (l:List ActR):Prop :=
 ∃ p cap,v=.slice p l.length cap∧∀ i m,l[i]?=some m→∃ b off kv,p=some ⟨b,off,none⟩∧b < w.heap.size∧(∀ j,j < 36→w.cell? ⟨b,off+(i * 36+j),none⟩=(m.cells kv)[j]?)∧IntsIn w kv m.keep
section
variable {m:ActR} {kv:Value}
theorem ActR.len (h:m.dig.length=32):(m.cells kv).length=36:=by
 unfold ActR.cells
 rw [List.length_cons,List.length_append,List.length_map,h]
 rfl
theorem ActR.c33 (h:m.dig.length=32):(m.cells kv)[33]?=some (.bool m.del):=by
 unfold ActR.cells
 rw [List.getElem?_cons_succ,List.getElem?_append_right (by rw [List.length_map,h];decide),List.length_map,h]
 rfl
theorem ActR.c34 (h:m.dig.length=32):(m.cells kv)[34]?=some (.int .i64 m.num):=by
 unfold ActR.cells
 rw [List.getElem?_cons_succ,List.getElem?_append_right (by rw [List.length_map,h];decide),List.length_map,h]
 rfl
theorem ActR.c35 (h:m.dig.length=32):(m.cells kv)[35]?=some kv:=by
 unfold ActR.cells
 rw [List.getElem?_cons_succ,List.getElem?_append_right (by rw [List.length_map,h];decide),List.length_map,h]
 rfl
theorem ActR.cd {j:Nat} (h:m.dig.length=32) (hj:j < 32):(m.cells kv)[1+j]?=(m.dig.map byteV)[j]?:=by
 unfold ActR.cells
 rw [Nat.add_comm 1 j,List.getElem?_cons_succ,List.getElem?_append_left (by rw [List.length_map,h];exact hj)]
theorem ActR.one (hk:kv.oneCell'=true):(m.cells kv).toArray.all (·.oneCell')=true:=by
 refine all_oneCell_toArray fun v hv=>?_
 unfold ActR.cells at hv
 rcases List.mem_cons.1 hv with rfl | hv
 ·rfl
 ·rcases List.mem_append.1 hv with hv | hv
  ·obtain ⟨x,-,rfl⟩:=List.mem_map.1 hv
   rfl
  ·rcases List.mem_cons.1 hv with rfl | hv
   ·rfl
   ·rcases List.mem_cons.1 hv with rfl | hv
    ·rfl
    ·rw [List.mem_singleton.1 hv]
     exact hk
theorem act_info (h:m.dig.length=32):(Tryz.prog.info? 59).map (·.size)=some (m.cells kv).length:=by rw [ActR.len h];kernel_rfl
theorem act_info2 (h:m.dig.length=32):(Tryz.prog.info? 59).map (·.size)=some (m.cells kv).toArray.size:=by rw [List.size_toArray];exact act_info h
end
def FewPost (w:World) (n:Nat) (e:Ending) (w':World):Prop:=∃ b,e=.returned (.bool b)∧(b=true→n≤100)∧Below w.heap.size w w'
theorem few_any (w:World) (p:Option Addr) (cap:Nat) (l:List ActR) (hv:ActsR w (.slice p l.length cap) l) (hl:l.length≤8800000000000) (hs:∀ a∈l,a.Fits) :
  Calls Tryz.prog 22 #[.slice p l.length cap] w (FewPost w l.length):=by
 have HV:=hZ hv
 have HSZ:=hZ hs
 obtain ⟨L,hL⟩:∃ L,l.length=L:=⟨_,rfl⟩
 rw [hL] at HV hl ⊢
 have HL:=hZ hL
 have hli:(L:Int)≤8800000000000:=by omega
 clear hv hs hL
 go_enter Tryz.func22,Tryz.ntmps22
 go_wp2_with fail
 go_loopw [3,4] (fun nv iv wr=>∃ (i c:Nat),(i:Int)≤L∧iv=.int .i64 i∧nv=.int .i64 c∧(c:Int)≤422212465053696∧Hid (Below w.heap.size w wr)) (fun _ iv _=>L - (intOf iv).toNat)
 case atStart=>exact ⟨0,0,by omega,rfl,rfl,by omega,hZ (Below.refl _ _)⟩
 case round =>
  obtain ⟨i,c,hi,rfl,rfl,hc,HB⟩:=hrel
  by_cases hgo:(i:Int) < L∧(c:Int)≤65536
  ·obtain ⟨hlt,hc6⟩:=hgo
   have hil:i < l.length:=by rw [HL.out];omega
   obtain ⟨act,ha⟩:∃ act,l[i]?=some act:=⟨_,List.getElem?_eq_getElem hil⟩
   obtain ⟨hd,-,hnm,hkp⟩:=HSZ.out act (List.mem_of_getElem? ha)
   obtain ⟨p',cap',he,hvv⟩:=HV.out
   obtain ⟨vb,vo,kv,hvp,hvl,hvc,hki⟩:=hvv i act ha
   have hpe:p=some ⟨vb,vo,none⟩:=by cases he;exact hvp
   subst hpe
   obtain ⟨kp,kc,rfl,-,-⟩:=hki
   have hcel:∀ (W:World),Below w.heap.size w W→∀ j,j < 36→W.cell? ⟨vb,vo+(i * 36+j),none⟩=(act.cells (.slice kp act.keep.length kc))[j]?:=fun W hb j hj=>(hb.cell (p:=⟨vb,vo+(i * 36+j),none⟩) hvl).trans (hvc j hj)
   have c0:∀ n:Nat,(wr.drewN n).cell? ⟨vb,vo+i * 36,none⟩=some (.string act.name):=fun n=>hcel _ (below_drewN HB.out n) 0 (by decide)
   have c35:∀ n:Nat,(wr.drewN n).cell? ⟨vb,vo+i * 36+35,none⟩=some (.slice kp act.keep.length kc):=fun n=>by rw [Nat.add_assoc];exact (hcel _ (below_drewN HB.out n) 35 (by decide)).trans (ActR.c35 hd)
   obtain ⟨nm,hnm2⟩:∃ nm,act.name=nm:=⟨_,rfl⟩
   obtain ⟨kl,hkl⟩:∃ kl,act.keep.length=kl:=⟨_,rfl⟩
   rw [hnm2] at hnm c0
   rw [hkl] at hkp c35
   have hn2:(nm.size:Int)≤140737488351232:=by omega
   have hk2:(kl:Int)≤140737488351232:=by omega
   have hi0:(0:Int)≤(i:Int):=by omega
   have hw1:IntKind.i64.wrap ((c:Int)+(nm.size:Int))=(c:Int)+(nm.size:Int):=wrapD (by omega) (by omega)
   have hw2:IntKind.i64.wrap ((c:Int)+(nm.size:Int)+(kl:Int))=(c:Int)+(nm.size:Int)+(kl:Int):=wrapD (by omega) (by omega)
   clear hcel hil ha he hvv hvp hvl hvc hnm2 hkl hnm hkp hd
   go_wp2_with fail
   go_quiet (fail)
   rename_i nq
   obtain ⟨W,hW⟩:∃ W,wr.drewN nq=W:=⟨_,rfl⟩
   rw [hW]
   have HB4:=hZ (show Below w.heap.size w W by rw [← hW];exact below_drewN HB.out nq)
   clear hW
   go_wp2_with fail
   exact ⟨⟨i+1,c+nm.size+kl,by omega,by rw [Int.natCast_add];rfl,by rw [Int.natCast_add,Int.natCast_add],by omega,HB4⟩,by simp [intOf];omega⟩
  ·rcases (show (L:Int)≤i∨((i:Int) < L∧65536 < (c:Int)) by omega) with h1 | ⟨h1,h2⟩ <;> rcases (show 100 < (L:Int)∨((L:Int)≤100∧65536 < (c:Int))∨((L:Int)≤100∧(c:Int)≤65536) by omega) with h3 | ⟨h3,h4⟩ | ⟨h3,h4⟩
   all_goals first
    |(exfalso;omega)
    |(go_wp2_with fail
      go_ret
      first | exact ⟨false,rfl,(fun h=>by cases h),HB.out⟩ | exact ⟨_,rfl,(fun _=>by omega),HB.out⟩)
end Go.Proofs.YtdkedmngeahjiaaGreatDoor
