/- Closing steps that are named often. -/
import Derived.WalkKit
namespace Go.Proofs.YtdkedmngeahjiaaGreatDoor
theorem aA{p:Prop}(h:p:=by decide):p:=h
theorem aC{p:Prop}(h:p:=by omega):p:=h
theorem aD{p:Prop}(h:p:=by go_simp<;>rfl):p:=h
theorem aE{p:Prop}(h:p:=by kernel_rfl):p:=h
theorem aG{p:Prop}(h:p:=by rw[Int.natCast_add];rfl):p:=h
theorem aK{p:Prop}(h:p:=by cases h):p:=h
theorem aM{p:Prop}(h:p:=by rw[←hW5];exact(Below.refl _ _).alloc (Nat.le_refl _) _):p:=h
theorem aN{p:Prop}(h:p:=by rw[←hW0];exact(Below.refl _ _).alloc (Nat.le_refl _) _):p:=h
theorem aO{p:Prop}(h:p:=by cases e):p:=h
theorem aP{p:Prop}(h:p:=by rw[←hKs];simp[KS]):p:=h
theorem aQ{p:Prop}(h:p:=by rw[←hW1];exact(Below.refl _ _).alloc (Nat.le_refl _) _):p:=h
theorem aV{p:Prop}(h:p:=by go_simp;rfl):p:=h
theorem aZ{p:Prop}(h:p:=by exact nU _ (show oI BD m=(mj,y) by rw[HTM2.out,nU _ HOP.out HY.out]) HY.out):p:=h
theorem bA{p:Prop}(h:p:=by rw[HN.out];exact Nat.le_refl _):p:=h
theorem bB{p:Prop}(h:p:=by rw[←hW4];exact(Below.refl _ _).alloc (Nat.le_refl _) _):p:=h
theorem bC{p:Prop}(h:p:=by rw[HTM.out,List.drop_of_length_le (by rw[HMM.out];exact Nat.le_refl _)];rfl):p:=h
theorem bD{p:Prop}(h:p:=by rw[World.size_setCell];exact Nat.le_refl _):p:=h
theorem bE{p:Prop}(h:p:=by rw[←hW2];exact(Below.refl _ _).alloc (Nat.le_refl _) _):p:=h
theorem bF{p:Prop}(h:p:=by rw[←hW0,←hob];exact lP _ _):p:=h
theorem bG{p:Prop}(h:p:=by rw[←hKs];exact List.mem_cons_of_mem _ hq):p:=h
theorem bH{p:Prop}(h:p:=by rw[List.take_zero,List.filter_nil,List.append_nil];exact HR9.out):p:=h
theorem bJ{p:Prop}(h:p:=by rw[←hKs];exact List.mem_cons_self ..):p:=h
theorem bM{p:Prop}(h:p:=by simpa using hc):p:=h
theorem bN{p:Prop}(h:p:=by rw[hob];exact Nat.le_refl _):p:=h
theorem bP{p:Prop}(h:p:=by exact⟨rfl,(Below.refl _ _).alloc (Nat.le_refl _) _⟩):p:=h
theorem bU{p:Prop}(h:p:=by rw[←hyy]):p:=h
theorem bW{p:Prop}(h:p:=by rw[List.getElem?_map,hj];rfl):p:=h
theorem bX{p:Prop}(h:p:=by exact HSH.out s (List.mem_of_mem_take (List.mem_filter.1 hs).1)):p:=h
theorem bY{p:Prop}(h:p:=by obtain⟨x,_,rfl⟩:=List.mem_map.1 hv;rfl):p:=h
theorem cB{p:Prop}(h:p:=by rw[←hW1];exact lP _ _):p:=h
theorem cC{p:Prop}(h:p:=by rw[←hy]):p:=h
theorem cD{p:Prop}(h:p:=by unfold oD at hk8;rw[lF hk8];rfl):p:=h
theorem cF{p:Prop}(h:p:=by exact⟨rfl,rfl⟩):p:=h
theorem cI{p:Prop}(h:p:=by unfold oD at hk8;exact lI hk8):p:=h
theorem cJ{p:Prop}(h:p:=by rw[←hW5];exact lP _ _):p:=h
theorem cK{p:Prop}(h:p:=by rw[←hW3];exact(Below.refl _ _).alloc (Nat.le_refl _) _):p:=h
theorem cL{p:Prop}(h:p:=by unfold DM.reads DM.get;rw[ho,hg];rfl):p:=h
theorem cM{p:Prop}(h:p:=by exact flS rfl aD (hW) rfl):p:=h
theorem cN{p:Prop}(h:p:=by simp[intOf];omega):p:=h
theorem cO{p:Prop}(h:p:=by rw[World.size_alloc];omega):p:=h
theorem cR{p:Prop}(h:p:=by have:=HNK.out;omega):p:=h
theorem cS{p:Prop}(h:p:=by subst e;rw[hL]at hj;cases hj):p:=h
theorem cT{p:Prop}(h:p:=by unfold maxLen;omega):p:=h
theorem cW{p:Prop}(h:p:=by rw[World.size_alloc];have:=HB.out.size;omega):p:=h
theorem cX{p:Prop}(h:p:=by rw[HK.out];have:=HQL.out;have:=HNN.out;omega):p:=h
theorem cY{p:Prop}(h:p:=by rw[List.length_append,List.length_singleton];omega):p:=h
theorem cZ{p:Prop}(h:p:=by have hff:=hf 49;clear hf;go_simp<;>rfl):p:=h
theorem dC{p:Prop}(h:p:=by rw[World.size_setCell];omega):p:=h
theorem dE{p:Prop}(h:p:=by rw[HMM.out];omega):p:=h
theorem dG{p:Prop}(h:p:=by have:=HBL.out;omega):p:=h
theorem dJ{p:Prop}(h:p:=by as_aux_lemma=>kernel_rfl):p:=h
theorem dL{p:Prop}(h:p:=by rw[IntKind.wrap_i64];omega):p:=h
theorem dN{p:Prop}(h:p:=by cases he;exact hvp):p:=h
theorem dQ{p:Prop}(h:p:=by rw[ha];decide):p:=h
theorem dR{p:Prop}(h:p:=by show((u.length:Nat):Int)≤96;omega):p:=h
theorem dU{p:Prop}(h:p:=by rw[List.length_map,h];decide):p:=h
theorem dX{p:Prop}(h:p:=by decide+kernel):p:=h
theorem eB{p:Prop}(h:p:=by have:=HN.out;omega):p:=h
theorem eD{p:Prop}(h:p:=by rw[e];rfl):p:=h
theorem eN{p:Prop}(h:p:=by exact flS rfl aD (hW.upd 12 aA hd) rfl):p:=h
theorem eP{p:Prop}(h:p:=by exact⟨vs,uK h1 h3 (fun b _ hS _=>hb b hS),h2.keep (fun b _ _ hS _ _=>hb b hS) (fun _ x=>x) (fun _ _ _=>rfl),h3⟩):p:=h
theorem eQ{p:Prop}(h:p:=by exact flS rfl aD (hW.upd 7 aA hd) rfl):p:=h
theorem eS{p:Prop}(h:p:=by exact flS rfl aD (hW.upd 5 aA hd) rfl):p:=h
theorem eU{p:Prop}(h:p:=by exact flS rfl aD (hW.upd 4 aA hd) rfl):p:=h
theorem eV{p:Prop}(h:p:=by exact flS rfl aD (hW.upd 3 aA hd) rfl):p:=h
theorem eW{p:Prop}(h:p:=by exact flS rfl aD (hW.upd 2 aA hd) rfl):p:=h
theorem eX{p:Prop}(h:p:=by rw[HK.out];have:=HQL.out;have:=HNN.out;unfold maxLen;omega):p:=h
theorem eY{p:Prop}(h:p:=by have:=HNN.out;omega):p:=h
theorem eZ{p:Prop}(h:p:=by simp):p:=h
theorem fJ{p:Prop}(h:p:=by exact flS rfl aD (hW.upd 1 aA hd) rfl):p:=h
theorem fK{p:Prop}(h:p:=by exact flS rfl aD (hW.upd 0 aA hd) rfl):p:=h
theorem fO{p:Prop}(h:p:=by have:=HNN.out;have:=HBL.out;omega):p:=h
theorem fP{p:Prop}(h:p:=by rw[List.length_take];exact Nat.min_le_left _ _):p:=h
theorem fS{p:Prop}(h:p:=by rw[BV];omega):p:=h
theorem fU{p:Prop}(h:p:=by rw[HDR.out,nL,if_pos hrs,hT];cases nI T<;>cases nL m (L.drop (k+1))<;>rfl):p:=h
theorem fX{p:Prop}(h:p:=by rw[List.take_add_one,hs];rfl):p:=h
theorem gA{p:Prop}(h:p:=by rw[←hW2];exact lP _ _):p:=h
theorem gF{p:Prop}(h:p:=by unfold DM.lists;rw[ho];rfl):p:=h
theorem gH{p:Prop}(h:p:=by exact Nat.zero_le _):p:=h
theorem gI{p:Prop}(h:p:=by rw[HLM.out,HOFF.out];rfl):p:=h
theorem gJ{p:Prop}(h:p:=by unfold DM.used;rw[ho];rfl):p:=h
theorem gK{p:Prop}(h:p:=by rw[HNM.out,List.drop_of_length_le bA];exact congrArg some (List.append_nil l)):p:=h
theorem gM{p:Prop}(h:p:=by exact flS rfl aD (hW.upd 11 aA hd) rfl):p:=h
theorem gN{p:Prop}(h:p:=by exact flS rfl aD (hW.upd 10 aA hd) rfl):p:=h
theorem gQ{p:Prop}(h:p:=by rw[pA];exact Nat.le_refl _):p:=h
theorem gR{p:Prop}(h:p:=by rw[HN.out];omega):p:=h
theorem gT{p:Prop}(h:p:=by exact⟨rfl,HB2.out⟩):p:=h
theorem gV{p:Prop}(h:p:=by exact flS rfl aD (hW.upd 8 aA hd) rfl):p:=h
theorem gX{p:Prop}(h:p:=by exact⟨⟨k+1,K,l,aC,aC,aG,⟨_,_,rfl⟩,HK,hZ (by rw[HNM.out,HNX.out]),HR5,HB5⟩,cN⟩):p:=h
theorem gZ{p:Prop}(h:p:=by rw[World.size_alloc];have:=(Below.refl w2.heap.size w2).size;omega):p:=h
theorem iD{p:Prop}(h:p:=by have hff:=hf 15;clear hf;go_simp<;>rfl):p:=h
theorem iE{p:Prop}(h:p:=by simp;omega):p:=h
theorem iH{p:Prop}(h:p:=by simp[Value.oneCell']):p:=h
theorem iM{p:Prop}(h:p:=by rw[List.getElem?_append_right (Nat.le_refl _),Nat.sub_self];rfl):p:=h
theorem iN{p:Prop}(h:p:=by cases hk):p:=h
theorem iR{p:Prop}(h:p:=by exact(show [handR]++L.filter _=qG m by unfold qG;rw[if_pos HY0.out,HL.out])):p:=h
theorem iV{p:Prop}(h:p:=by rw[hl];omega):p:=h
theorem iX{p:Prop}(h:p:=by rw[List.take_add_one,hx];rfl):p:=h
theorem jD{p:Prop}(h:p:=by rw[HTM.out,hdr];rfl):p:=h
theorem jE{p:Prop}(h:p:=by rw[←hW4];exact lP _ _):p:=h
theorem jF{p:Prop}(h:p:=by rw[←hW8];exact(Below.refl _ _).alloc (Nat.le_refl _) _):p:=h
theorem jG{p:Prop}(h:p:=by rw[List.size_toArray,List.length_map];exact HDL.out):p:=h
theorem jO{p:Prop}(h:p:=by have h:=hG.2;rw[World.size_alloc];show 0<_;omega):p:=h
theorem jQ{p:Prop}(h:p:=by exact List.take_succ_eq_append_getElem h1):p:=h
theorem jU{p:Prop}(h:p:=by rw[HL.out];omega):p:=h
theorem kN{p:Prop}(h:p:=by cases hp):p:=h
theorem kO{p:Prop}(h:p:=by cases ho):p:=h
theorem kS{p:Prop}(h:p:=by rw[Nat.mul_comm];exact(Nat.div_add_mod j sz).symm):p:=h
theorem kU{p:Prop}(h:p:=by exact .inr ⟨g,cap,cur,h1,h2,(hb.block g (lH h3)).trans h3,h4⟩):p:=h
theorem kW{p:Prop}(h:p:=by rw[hnx];cases nL m (L.drop (k+1))<;>rfl):p:=h
theorem kY{p:Prop}(h:p:=by rw[Array.length_toList,hc,Nat.succ_mul];omega):p:=h
theorem lB{p:Prop}(h:p:=by have:=HB.out.size;omega):p:=h
theorem lC{p:Prop}(h:p:=by have c:=hI.c1;go_simp;rfl):p:=h
theorem lD{p:Prop}(h:p:=by have:=(Below.refl w2.heap.size w2).size;omega):p:=h
end Go.Proofs.YtdkedmngeahjiaaGreatDoor
