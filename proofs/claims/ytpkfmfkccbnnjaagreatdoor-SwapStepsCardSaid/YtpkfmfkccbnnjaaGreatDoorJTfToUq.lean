/-
  The lists of Go that chains need: finding steps, copying issues, striking out of lists in place.
-/
import Derived.Test.YtpkfmfkccbnnjaaGreatDoorJRcTToEc
import Derived.Test.YtpkfmfkccbnnjaaGreatDoorJSfToTe
import Derived.Test.YtpkfmfkccbnnjaaGreatDoorJAmPToAmR
import Derived.Test.YtpkfmfkccbnnjaaGreatDoorJEdToNl
import Derived.Test.YtpkfmfkccbnnjaaGreatDoorProg
import Derived.Test.YtpkfmfkccbnnjaaGreatDoorJAmHToAmO
import Derived.Test.YtpkfmfkccbnnjaaGreatDoorJOpenToOpen
import Derived.Test.YtpkfmfkccbnnjaaGreatDoorJRowToRow
set_option linter.all false
set_option linter.unusedSimpArgs false
set_option linter.unusedVariables false
set_option linter.unusedSectionVars false
namespace Go.Proofs.YtpkfmfkccbnnjaaGreatDoor
open Go.RowKit
def dlK {α:Type} (p:α→Bool) (l:List α) (j:Nat):List α:=(l.take j).filter fun x=>!p x
def dlS {α:Type} (p:α→Bool) (l:List α) (j:Nat):List α:=dlK p l j++l.drop (dlK p l j).length
section
variable {α:Type} {p:α→Bool} {l:List α} {j:Nat}
theorem Zl2:(dlK p l j).length≤j:=Nat.le_trans (List.length_filter_le _ _) (by simp;omega)
theorem Zl3:dlK p l l.length=l.filter fun x=>!p x:=by rw [dlK,List.take_length]
theorem Zl4 (h:j<l.length):dlK p l (j+1)=if p l[j]=true then dlK p l j else dlK p l j++[l[j]]:=by
 unfold dlK
 rw [List.take_succ_eq_append_getElem h,List.filter_append]
 split
 · rename_i e;rw [List.filter_cons_of_neg (by simp [e]),List.filter_nil,List.append_nil]
 · rename_i e;rw [List.filter_cons_of_pos (by simpa using e)];rfl
theorem Zl5 (h:∀ i (hi:i<l.length),i<j→p l[i]=false) (hj:j≤l.length):dlK p l j=l.take j:=by
 unfold dlK
 rw [List.filter_eq_self]
 intro x hx
 obtain ⟨i,hi,rfl⟩:=List.mem_take_iff_getElem.1 hx
 simp [h i (by omega) (by omega)]
theorem Zl6 (h:j≤l.length):(dlS p l j).length=l.length:=by
 have:=Zl2 (p:=p) (l:=l) (j:=j)
 simp [dlS];omega
theorem Zl7 (h:j<l.length):(dlS p l j)[j]? = some l[j]:=by
 have:=Zl2 (p:=p) (l:=l) (j:=j)
 unfold dlS
 rw [List.getElem?_append_right this,List.getElem?_drop,show (dlK p l j).length+(j-(dlK p l j).length)=j by omega,List.getElem?_eq_getElem h]
theorem Zl8 (h:j<l.length) (hp:p l[j]=true):dlS p l (j+1)=dlS p l j:=by unfold dlS;rw [Zl4 h,if_pos hp]
theorem Zl9 (h:j<l.length) (hp:p l[j]=false):dlS p l (j+1)=(dlS p l j).set (dlK p l j).length l[j]:=by
 have hk:=Zl2 (p:=p) (l:=l) (j:=j)
 unfold dlS
 rw [Zl4 h,if_neg (by simp [hp]),List.set_append_right _ _ (Nat.le_refl _),Nat.sub_self,List.drop_eq_getElem_cons (by omega:(dlK p l j).length<l.length),List.set_cons_zero,List.length_append,List.append_assoc]
 rfl
end
def zrF:List AV:=[.int .i64 0,.int .i64 0]
def dlO (p:Rf→Bool) (l:List Rf):List (List AV):=if l.any p=true then (l.filter fun x=>!p x).map ita++List.replicate (l.length-(l.filter fun x=>!p x).length) zrF else l.map ita
def dlV (κ:Nat) (p:Rf→Bool) (l:List Rf):AV:=if l.any p=true then .oss κ l.length 0 (l.filter fun x=>!p x).length else .osl κ l.length
theorem Zla (ok:Nat→Bool) (st:St) (l:List Rf):frzO ok st (.row 2 (l.map ita)) = .row 2 (l.map ita):=by
 simp only [frzO,List.map_map]
 congr 2
 funext p;simp [ita,frzA,frz,AV.keys]
theorem Zlb (ok:Nat→Bool) (st:St) (p:Rf→Bool) (l:List Rf):frzO ok st (.row 2 (dlO p l)) = .row 2 (dlO p l):=by
 unfold dlO
 split
 · simp only [frzO,List.map_append,List.map_map,List.map_replicate]
   congr 3
   · funext p;simp [ita,frzA,frz,AV.keys]
   · simp [zrF,frzA,frz,AV.keys]
 · exact Zla ok st l
section
variable {G:Nat→Option (List AV)}
theorem Zlc (g:Nat) (caps:List AV) (p:Rf→Bool) (l:List Rf) (hc:caps.all AV.pure=true) (hl:Sml l)
  (hg:∀ x∈l,PC Tryz.prog G g (.agg (ita x)::caps) (.bool (p x))) :
  PC Tryz.prog G 134 [.vsl (l.map ita),.func (.func g) [] caps] (.int .i64 (fstOf p l)):=by
 (refine Z6E rfl fun R hG hrd=>GO_AR mixed 1000 ?_;subst hG)
 unfold Sml at hl
 have hc2:∀ x∈caps,x.pure=true:=List.all_eq_true.1 hc
 simp -implicitDefEqProofs [Z6C,Z6D]
 refine Zb2 (fun i=>⟨[(8,.int .i64 i),(7,.int .i64 l.length),(0,.vsl (l.map ita)),(1,.func (.func g) [] caps)],[]⟩) (fun i=>∀ j (h:j<l.length),j<i→p l[j]=false) l.length (by (first|exact Weak.tm (by simp [lk])|exact Weak.sub (by simp [lk,keptA,AV.keys]) (by simp [lk,keptO,keptA,AV.keys]))) (by simp) ?_ ?_
 · intro i hi he
   refine GO_AR mixed 1000 ?_
   have w1:IntKind.i64.wrap ((i:Int)+1)=((i+1:Nat):Int):=wrapI (by omega) (by omega)
   have hgi:=hg _ (List.getElem_mem hi)
   have hln:(ita l[i]).length=2:=rfl
   have htk:(ita l[i]).take 2=ita l[i]:=rfl
   simp -implicitDefEqProofs [hi,hln,htk]
   refine CallK.of hgi (by simpa [AV.pure,ita] using hc2) ?_
   cases h3:p l[i]
   · simp -implicitDefEqProofs [w1]
     refine ⟨(by (first|exact Weak.tm (by simp [lk])|exact Weak.sub (by simp [lk,keptA,AV.keys]) (by simp [lk,keptO,keptA,AV.keys]))),fun j q1 q2=>?_⟩
     by_cases e:j=i
     · subst e;exact h3
     · exact he j q1 (by omega)
   · simp -implicitDefEqProofs
     refine Z2N mixed 1000 ?_
     simp -implicitDefEqProofs [ZbT hi h3 he]
 · intro he
   refine GO_AR mixed 1000 ?_
   simp -implicitDefEqProofs []
   refine Z2N mixed 1000 ?_
   simp -implicitDefEqProofs [ZbU (p:=p) (l:=l) (fun j hj=>he j hj hj)]
theorem Zld (g:Nat) (caps:List AV) (p:Stq→Bool) (l:List Stq) (hc:caps.all AV.pure=true) (hl:Sml l)
  (hg:∀ x∈l,PC Tryz.prog G g (.agg (sa x)::caps) (.bool (p x))) :
  PC Tryz.prog G 96 [.vsl (l.map sa),.func (.func g) [] caps] (.int .i64 (fstOf p l)):=by
 (refine Z6h rfl fun R hG hrd=>GO_AR mixed 1000 ?_;subst hG)
 unfold Sml at hl
 have hc2:∀ x∈caps,x.pure=true:=List.all_eq_true.1 hc
 simp -implicitDefEqProofs [Z6f,Z6g]
 refine Zb2 (fun i=>⟨[(8,.int .i64 i),(7,.int .i64 l.length),(0,.vsl (l.map sa)),(1,.func (.func g) [] caps)],[]⟩) (fun i=>∀ j (h:j<l.length),j<i→p l[j]=false) l.length (by (first|exact Weak.tm (by simp [lk])|exact Weak.sub (by simp [lk,keptA,AV.keys]) (by simp [lk,keptO,keptA,AV.keys]))) (by simp) ?_ ?_
 · intro i hi he
   refine GO_AR mixed 1000 ?_
   have w1:IntKind.i64.wrap ((i:Int)+1)=((i+1:Nat):Int):=wrapI (by omega) (by omega)
   have hgi:=hg _ (List.getElem_mem hi)
   have hln:(sa l[i]).length=6:=rfl
   have htk:(sa l[i]).take 6=sa l[i]:=rfl
   simp -implicitDefEqProofs [hi,hln,htk]
   refine CallK.of hgi (by simpa [AV.pure,sa] using hc2) ?_
   cases h3:p l[i]
   · simp -implicitDefEqProofs [w1]
     refine ⟨(by (first|exact Weak.tm (by simp [lk])|exact Weak.sub (by simp [lk,keptA,AV.keys]) (by simp [lk,keptO,keptA,AV.keys]))),fun j q1 q2=>?_⟩
     by_cases e:j=i
     · subst e;exact h3
     · exact he j q1 (by omega)
   · simp -implicitDefEqProofs
     refine Z2N mixed 1000 ?_
     simp -implicitDefEqProofs [ZbT hi h3 he]
 · intro he
   refine GO_AR mixed 1000 ?_
   simp -implicitDefEqProofs []
   refine Z2N mixed 1000 ?_
   simp -implicitDefEqProofs [ZbU (p:=p) (l:=l) (fun j hj=>he j hj hj)]
theorem Zle (g:Nat) (caps:List AV) (p:Stq→Bool) (l:List Stq) (hc:caps.all AV.pure=true) (hl:Sml l)
  (hg:∀ x∈l,PC Tryz.prog G g (.agg (sa x)::caps) (.bool (p x))) :
  PC Tryz.prog G 60 [.vsl (l.map sa),.func (.func g) [] caps] (.int .i64 (fstOf p l)):=by
 (refine Z6e rfl fun R hG hrd=>GO_AR mixed 1000 ?_;subst hG)
 simp -implicitDefEqProofs [Z6c,Z6d]
 have hc2:∀ x∈caps,x.pure=true:=List.all_eq_true.1 hc
 refine CallK.of (Zld g caps p l hc hl hg) (by simpa [AV.pure] using hc2) ?_
 simp -implicitDefEqProofs []
def clK (k:Nat):Bool:=decide (k<1000) && !(k == 5)
theorem Zlf (l:List Rf) (hne:l≠[]) (hl:Sml l):PB Tryz.prog G 99 [] [.vsl (l.map ita)] (.osl 5 l.length) [(5,.row 2 (l.map ita))]:=by
 refine Z5e clK (by intro k hk;simp [clK]at hk;omega) Tryz.func99 rfl (by kernel_rfl) (rc:=Z6o) (by kernel_rfl) (rs:=Z6p) (by kernel_rfl) (Nat.le_of_ble_eq_true rfl) fun R _ hG hrd=>GO_AR mixed 1000 ?_
 subst hG
 unfold Sml at hl
 have b1:l.length*16≤70368744177664:=by omega
 have h0:¬l.length=0:=fun e=>hne (List.length_eq_zero_iff.1 e)
 have k1:(l.map ita).all (fun r=>r.length == 2)=true:=by simp [ita]
 have k2:(l.map ita).all (fun r=>r.all AV.one)=true:=by simp [ita,AV.one]
 simp -implicitDefEqProofs [Z6o,Z6p,h0,hne,b1,k1,k2]
 simp -implicitDefEqProofs [FinO,frzSt,clK,Zla,frzA,frz,AV.keys]
set_option maxHeartbeats 2000000 in
theorem Zlg (g:Nat) (cs:List AV) (p:Rf→Bool) (l:List Rf) (hc:(AV.vptr cs 0).pure=true) (hk:(AV.vptr cs 0).keys=[]) (hl:l.length≤1000)
  (hg:∀ x∈l,PC Tryz.prog G g [.agg (ita x),.vptr cs 0] (.bool (p x))) :
  PB Tryz.prog G 98 [(1000,.row 2 (l.map ita))] [.osl 1000 l.length,.func (.func g) [] [.vptr cs 0]] (dlV 1000 p l) [(1000,.row 2 (dlO p l))]:=by
 have hx:=Zlc (G:=G) g [.vptr cs 0] p l (by simpa using hc) (by unfold Sml;omega) hg
 (refine Z6s (Nat.le_of_ble_eq_true rfl) fun R hG hrd=>GO_AR mixed 1000 ?_;subst hG)
 obtain ⟨C,hC⟩ : ∃ C,C=AV.vptr cs 0:=⟨_,rfl⟩
 have sC:∀ ok st n,snapF ok st n C=some C:=fun ok st n=>by cases n <;> simp [hC,snapF,hc]
 rw [← hC]at hx hc hk hg ⊢
 have k5:(l.map ita).all (fun r=>r.all AV.pure)=true:=by simp [ita,AV.pure]
 simp -implicitDefEqProofs [Z6q,Z6r]
 refine CallK.flat hx (by simp [AV.flat]) (by simp [snapL,snap,snapF,sC,okAll,St.get,lk,k5,ita,AV.pure]) ?_
 cases q:l.findIdx? p with
 | none =>
   have hf:fstOf p l = -1:=by unfold fstOf;rw [q]
   have ha:l.any p=false:=by
    rw [List.findIdx?_eq_none_iff]at q
    rw [List.any_eq_false]
    intro x hx;simp [q x hx]
   simp -implicitDefEqProofs [hf]
   refine ⟨[.osl 1000 l.length],?_,?_,?_⟩
   · simp [Z29,evRes,frzSt,newK,frzA,frz,AV.keys,lk,St.tmp,Z6r]
   · simp [dlV,ha,tupV]
   · simp [frzSt,newK,Zla,dlO,ha]
 | some i0 =>
   have hf:fstOf p l=(i0:Int):=by unfold fstOf;rw [q]
   obtain ⟨hi0,hp0,hb0⟩:=List.findIdx?_eq_some_iff_getElem.1 q
   have ha:l.any p=true:=List.any_eq_true.2 ⟨_,List.getElem_mem hi0,hp0⟩
   have hne:¬(i0:Int) = -1:=by omega
   have w0:IntKind.i64.wrap ((i0:Int)+1)=(i0:Int)+1:=wrapI (by omega) (by omega)
   have k0:dlK p l i0=l.take i0:=Zl5 (fun i hi hlt=>by simpa using hb0 i hlt) (by omega)
   have k1:dlK p l (i0+1)=l.take i0:=by rw [Zl4 hi0,if_pos hp0,k0]
   have k2:(dlK p l (i0+1)).length=i0:=by rw [k1];simp;omega
   have s1:dlS p l (i0+1)=l:=by rw [dlS,k2,k1,List.take_append_drop]
   simp -implicitDefEqProofs [hf,hne,w0]
   refine Z1Q (fun j:Nat=>⟨[(6,.int .i64 (j:Int)),(5,.int .i64 ((dlK p l j).length:Int)),(0,.osl 1000 l.length),(1,.func (.func g) [] [C])],[(1000,.row 2 ((dlS p l j).map ita))]⟩) (fun j=>i0+1≤j∧j≤l.length) (fun j=>l.length-j) (i0+1) ?_ ⟨Nat.le_refl _,hi0⟩ ?_
   · rw [s1,k2]
     ((try simp only [hk]);refine Weak.sub (by simp [lk,keptA,AV.keys,hk]) ?_;simp only [hk,Wkl,Zkd,and_true];(try simp [lk,keptO,keptA,AV.keys,hk]))
   rintro j ⟨hj1,hj2⟩
   have kl:=Zl2 (p:=p) (l:=l) (j:=j)
   have sl:=Zl6 (p:=p) hj2
   refine GO_AR mixed 1000 ?_
   rcases Nat.lt_or_ge j l.length with h5|h5
   · have hgj:=hg _ (List.getElem_mem h5)
     obtain ⟨q1,g1⟩:=List.getElem?_eq_some_iff.1 (Zl7 (p:=p) h5)
     have hhit:=Zl8 (p:=p) h5
     have hmis:=Zl9 (p:=p) h5
     have hks:=Zl4 (p:=p) h5
     have w1:IntKind.i64.wrap ((j:Int)+1)=(j:Int)+1:=wrapI (by omega) (by omega)
     have w2:IntKind.i64.wrap (((dlK p l j).length:Int)+1)=((dlK p l j).length:Int)+1:=wrapI (by omega) (by omega)
     have kn:(dlK p l j).length<l.length:=by omega
     generalize dlS p l j=Q at *
     have e1:∀ x:Rf,ita x=[.int .i64 x.1,.int .i64 x.2]:=fun _=>rfl
     rw [e1]at hgj
     simp -implicitDefEqProofs [h5,sl,g1,e1]
     refine CallK.of hgj (by simpa [AV.pure] using hc) ?_
     cases h3:p l[j]
     · rw [h3]at hks
       simp only [Bool.false_eq_true,if_false]at hks
       simp -implicitDefEqProofs [w1,w2,sl,kn,e1]
       refine ⟨j+1,?_,⟨by omega,h5⟩,(by show l.length-(j+1)<l.length-j;omega)⟩
       rw [← e1,← List.map_set,← hmis h3]
       simp only [hks,List.length_append,List.length_cons,List.length_nil,Nat.zero_add,Int.natCast_add,Int.cast_ofNat_Int]
       ((try simp only [hk]);refine Weak.sub (by simp [lk,keptA,AV.keys,hk]) ?_;simp only [hk,Wkl,Zkd,and_true];(try simp [lk,keptO,keptA,AV.keys,hk]))
     · rw [h3]at hks
       simp only [if_true]at hks
       simp -implicitDefEqProofs [w1]
       refine ⟨j+1,?_,⟨by omega,h5⟩,(by show l.length-(j+1)<l.length-j;omega)⟩
       simp only [hhit h3,hks]
       ((try simp only [hk]);refine Weak.sub (by simp [lk,keptA,AV.keys,hk]) ?_;simp only [hk,Wkl,Zkd,and_true];(try simp [lk,keptO,keptA,AV.keys,hk]))
   · obtain rfl:j=l.length:=by omega
     have n2:(dlK p l l.length).length≤l.length:=by omega
     simp -implicitDefEqProofs [sl]
     refine Z2N mixed 1000 ?_
     simp -implicitDefEqProofs [sl,n2]
     refine ⟨[.oss 1000 l.length 0 (dlK p l l.length).length],?_,?_,?_⟩
     · simp [Z29,evRes,frzSt,newK,frzA,frz,AV.keys,lk,St.tmp]
     · rw [dlV,if_pos ha,← Zl3];rfl
     · have t1:List.take (dlK p l l.length).length ((dlS p l l.length).map ita)=(dlK p l l.length).map ita:=by rw [← List.map_take,dlS,List.take_left'];rfl
       have t2:List.drop l.length ((dlS p l l.length).map ita)=[]:=List.drop_of_length_le (by simp [sl])
       have hz:List.map ita (dlK p l l.length)++List.replicate (l.length-(dlK p l l.length).length) [AV.int .i64 0,AV.int .i64 0]=dlO p l:=by rw [dlO,if_pos ha,← Zl3];rfl
       rw [t1,t2,List.append_nil,hz]
       simp [frzSt,newK,Zlb]
end
def IterG (P:Program) (G:Nat→Option (List AV)) (gf:Nat) (caps els:List AV):Prop :=
 entB P gf=true∧∀ (n l:Nat) (lb:Array Value) (J:Nat→(Nat→Prop)→World→Prop) (K:World→Prop) (M:Nat→Prop) (W:World),2≤n→(∀ k M A B,J k M A→Ext A B→J k M B)→(∀ A B,K A→Ext A B→K B) →
  (∀ k M A,J k M A→∀ b,M b→b<A.heap.size)→(∀ k M A,J k M A→GR G M A)→CP M W caps lb →
  (∀ (k:Nat) (x:AV) (u:Value) (M:Nat→Prop) (A:World),J k M A→els[k]? = some x→PV M A x u →
   YieldAt Fence.wide (n-1) P l #[u] A fun e A'=>(e = .returned (.bool true)∧∃ M',J (k+1) M' A'∧Since M A M' A')∨(e = .returned (.bool false)∧K A')) →
  J 0 M W→CallsIn Fence.wide n P gf (#[.func (.yield l) #[] #[]]++lb) W fun e W'=>(∃ v,e = .returned v)∧((∃ M,J els.length M W')∨K W')
theorem Zlh {n:Nat} {P:Program} {g:Operand} {p:Nat} {assign body:Code} {Q:Exit→Act→World→Prop} {a:Act} {w:World}
  {gf:Nat} {lb:Array Value} {caps els:List AV} (hg:a.eval g = .func (.func gf) #[] lb) {G:Nat→Option (List AV)} (hit:IterG P G gf caps els) (hn:3≤n)
  (I:Nat→(Nat→Prop)→World→Prop) (K:World→Prop) (M0:Nat→Prop) (hIe:∀ k M A B,I k M A→Ext A B→I k M B) (hKe:∀ A B,K A→Ext A B→K B)
  (hIo:∀ (k l:Nat) (M:Nat→Prop) (W:World) (r r':Loop),w.heap.size≤l→I k M W→W.heap[l]? = some (.loop r)→I k M (W.putObj l (.loop r')))
  (hKo:∀ (l:Nat) (W:World) (r r':Loop),w.heap.size≤l→K W→W.heap[l]? = some (.loop r)→K (W.putObj l (.loop r')))
  (hIM:∀ k M A,I k M A→(∀ b,M b→b<A.heap.size)∧∀ (b:Nat) (o:Obj),w.heap.size≤b→A.heap[b]? = some o→Odd o→¬M b)
  (hIG:∀ k M A,I k M A→GR G M A) (hcaps:CP M0 w caps lb) (h0:I 0 M0 w)
  (hround:∀ (l k m:Nat) (x:AV) (u:Value) (M:Nat→Prop) (W:World) (lr:Loop),w.heap.size≤l→I k M W→W.heap[l]? = some (.loop lr)→els[k]? = some x→PV M W x u →
   assign.wpIn (FW (some l)) m P (Exit.then (fun a1 W1=>(∀ (b:Nat) (o:Obj),W.heap[b]? = some o→Odd o→W1.heap[b]? = some o) ∧
     body.wpIn (FW (some l)) m P (fun e _ W'=>((∀ (b:Nat) (o:Obj),W.heap[b]? = some o→Odd o→b≠l→W'.heap[b]? = some o)∧W'.heap[l]? = some (.loop { lr with state:=.busy })) ∧
      ((e = .normal∧∃ M',I (k+1) M' W'∧W.heap.size≤W'.heap.size∧∀ b,b<W.heap.size→¬M b→¬M' b∧(b≠l→W'.heap[b]? = W.heap[b]?))∨(e = .ret∧K W'))) a1 (W1.putObj l (.loop { lr with state:=.busy }))) (fun _ _ _=>False))
    { tmps:=a.tmps.setIfInBounds p u,defers:=[] } W)
  (hdone:∀ (D:Nat) (M:Nat→Prop) (W:World),w.heap.size≤D→I els.length M W→W.heap[D]? = some (.deferred (some []))→Q .normal { a with defers:=coll D::a.defers } W)
  (hstop:∀ (D:Nat) (W:World),w.heap.size≤D→K W→W.heap[D]? = some (.deferred (some []))→Q .ret { a with defers:=coll D::a.defers } W) :
  (Code.rangeFunc g #[p] assign body).wpIn (FW none) n P Q a w:=by
 refine wpIn_rangeFunc ?_
 intro fn hfn
 obtain ⟨rec,hrec⟩ : ∃ rec:LoopState→Option Code→Loop,rec=fun st pe=>{ state:=st,pending:=pe,fn,tmps:=a.tmps,params:=#[p],assign,body,defers:=w.heap.size }:=⟨_,rfl⟩
 obtain ⟨W1,hW1⟩ : ∃ W1,(w.alloc (.deferred (some []))).alloc (.loop (rec .ready none))=W1:=⟨_,rfl⟩
 have hE1:Ext w W1:=by rw [← hW1];exact (Ext.refl w).al.al
 have hL1:W1.heap[w.heap.size+1]? = some (.loop (rec .ready none)):=by
  rw [← hW1];have:=World.alloc_heap_new (w.alloc (.deferred (some []))) (.loop (rec .ready none));rwa [World.size_alloc]at this
 have hK1:W1.heap[w.heap.size]? = some (.deferred (some [])):=by
  rw [← hW1];exact (Below.heap_alloc _ _ _ (by simp)).trans (World.alloc_heap_new w _)
 have hI1:I 0 M0 W1:=hIe _ _ _ _ h0 hE1
 have hC1:CP M0 W1 caps lb:=⟨hcaps.1,fun i x u hx hu=>(hcaps.2 i x u hx hu).mono (fun b hb hM=>⟨hM,hE1.block b hb⟩) hE1.size⟩
 refine ⟨w.heap.size+1,[{ target:=.collected w.heap.size,args:=#[] }],W1,{ target:=.fn (.func gf) lb,args:=#[.func (.yield (w.heap.size+1)) #[] #[]] },W1,gf,
  #[.func (.yield (w.heap.size+1)) #[] #[]]++lb,W1,?_,?_,fun _ _=>trivial,?_,Z24,?_⟩
 · rw [← hW1,hrec];exact run_enterLoop_outer _ _ _ _ _
 · simp only [resolve,hg]
   simp [go_sem]
 · simp [invoke,go_sem,Z1W hit.1]
 · have stay : ∀ {A B:World} {b:Nat} {o:Obj},Ext A B→A.heap[b]? = some o→B.heap[b]? = some o:=fun h hb=>(h.block _ (Array.getElem?_eq_some_iff.1 hb).1).trans hb
   refine (hit.2 (n-1) (w.heap.size+1) lb
    (fun k M W=>I k M W∧W.heap[w.heap.size+1]? = some (.loop (rec .ready none))∧W.heap[w.heap.size]? = some (.deferred (some [])))
    (fun W=>K W∧W.heap[w.heap.size+1]? = some (.loop (rec .done (some .ret)))∧W.heap[w.heap.size]? = some (.deferred (some [])))
    M0 W1 (by omega) (fun k M A B h e=>⟨hIe k M A B h.1 e,stay e h.2.1,stay e h.2.2⟩) (fun A B h e=>⟨hKe A B h.1 e,stay e h.2.1,stay e h.2.2⟩) (fun k M A h=>(hIM k M A h.1).1) (fun k M A h=>hIG k M A h.1) hC1 ?_ ⟨hI1,hL1,hK1⟩).mono ?_
   · rintro k x u M W ⟨hi,hl,hk⟩ hr hus
     have hls:w.heap.size+1<W.heap.size:=(Array.getElem?_eq_some_iff.1 hl).1
     have hy:=run_yield (P:=P) (args:=#[u]) hl (by rw [hrec];rfl)
     rw [hrec]at hy
     have hfold:(#[p].zip #[u]).foldl (fun t (x:Nat×Value)=>match x with|(p,v)=>t.setIfInBounds p v) a.tmps=a.tmps.setIfInBounds p u:=by
      rw [← Array.foldl_toList,Array.toList_zip];rfl
     have hy:(Instr.yield (w.heap.size+1) #[u]).run P W = .ok (.round (w.heap.size+1) fn (a.tmps.setIfInBounds p u) assign body) W:=by rw [← hfold];exact hy
     refine ⟨fn,_,assign,body,hy,roundIn_of_wpIn hfn (wpIn_mono (hround (w.heap.size+1) k _ x u M W _ (by omega) hi hl hr hus) ?_)⟩
     rintro e a1 W2 hp
     cases e with
     | normal =>
       obtain ⟨hodd0,hp⟩:=hp
       have hl2:=hodd0 _ _ hl trivial
       have hk2:=hodd0 _ _ hk trivial
       have hls2:w.heap.size+1<W2.heap.size:=(Array.getElem?_eq_some_iff.1 hl2).1
       refine ⟨_,run_beginRound hl2 (by rw [hrec]),wpIn_mono hp ?_⟩
       rintro e a3 W3 ⟨⟨hodd,hl3⟩,hp3⟩
       have hd3:=hodd _ _ hk trivial (by omega)
       have hls3:=(Array.getElem?_eq_some_iff.1 hl3).1
       have fin:∀ jump:Option Code,(W3.putObj (w.heap.size+1) (.loop (rec (if jump.isNone then .ready else .done) jump))).heap[w.heap.size+1]? = some (.loop (rec (if jump.isNone then .ready else .done) jump)) ∧
         (W3.putObj (w.heap.size+1) (.loop (rec (if jump.isNone then .ready else .done) jump))).heap[w.heap.size]? = some (.deferred (some [])):=fun jump =>
        ⟨World.putObj_heap_same hls3,(World.putObj_heap_other (by omega)).trans hd3⟩
       rcases hp3 with ⟨rfl,M',hi3,hsz3,hs3⟩ | ⟨rfl,hk3⟩
       · have hr3:=run_endRound (P:=P) none hl3
         have f1:=fin none
         rw [hrec]at hr3 f1
         refine ⟨_,_,hr3,.inl ⟨rfl,M',⟨hIo _ _ _ _ _ _ (by omega) hi3 hl3,?_,f1.2⟩,by simpa using hsz3,fun b hb hM=>⟨(hs3 b hb hM).1,?_⟩⟩⟩
         · rw [hrec];exact f1.1
         · by_cases e:b=w.heap.size+1
           · subst e
             rw [hl,hrec];exact f1.1
           · rw [World.putObj_heap_other e];exact (hs3 b hb hM).2 e
       · have hr3:=run_endRound (P:=P) (some .ret) hl3
         have f1:=fin (some .ret)
         rw [hrec]at hr3 f1
         refine ⟨_,_,hr3,.inr ⟨rfl,hKo _ _ _ _ (by omega) hk3 hl3,?_,f1.2⟩⟩
         rw [hrec];exact f1.1
     |_=>exact hp.elim
   · rintro e W2 ⟨⟨v,rfl⟩,⟨M,hi,hl,hk⟩ | ⟨hi,hl,hk⟩⟩
     · exact ⟨none,_,by have:=run_endLoop (P:=P) hl (by rw [hrec];simp);rw [hrec]at this;exact this,hdone _ M _ (Nat.le_refl _) (hIo _ _ _ _ _ _ (by omega) hi hl) ((World.putObj_heap_other (by omega)).trans hk)⟩
     · exact ⟨some .ret,_,by have:=run_endLoop (P:=P) hl (by rw [hrec];simp);rw [hrec]at this;exact this,wpIn_ret (hstop _ _ (Nat.le_refl _) (hKo _ _ _ _ (by omega) hi hl) ((World.putObj_heap_other (by omega)).trans hk))⟩
section
variable {P:Program} {R:Run} {st:St} {a:Act} {W:World} {κ:Nat→Option (Nat×Nat)}
theorem Zli {g:RA} {p gf:Nat} {assign body:RCode} {Φ:Exit→St→Prop} {caps els:List AV} (hrd:R.Top) (hit:IterG P R.G gf caps els) (hg:evA R.G st g = .func (.func gf) [] caps) (hp:caps.all AV.pure=true)
  (ok:Nat→Bool) (hok:∀ k,ok k=true→k<1000) (ρ:Nat→Nat) (t0:List (Nat×AV)) (objs outs:Nat→List (Nat×AObj)) (Iv:Nat→Prop) (hI0:Iv 0) (hK:∀ k,∀ q∈objs k,1000≤q.1) (hinj:∀ k,((objs k).map fun q=>ρ q.1).Nodup) (hinj2:∀ k,((outs k).map fun q=>ρ q.1).Nodup)
  (hsub:∀ k,∀ q∈objs k,isK (outs k) q.1=true) (hnew:∀ k,∀ q∈outs k,isK (objs k) q.1=true∨(setsB ρ (objs k) st).get (ρ q.1)=none) (hnext:∀ k,setsB ρ (outs k) st=setsB ρ (objs (k+1)) st)
  (h0:setsB ρ (objs 0) st=st) (hin:∀ k,∀ q∈objs k,keptO (objs k) q.2=true)
  (ht0:∀ q∈t0,lk st.t q.1=some (q.2.ren ρ)∧q.1≠p∧∀ j,∀ k∈q.2.keys,isK (objs j) k=true)
  (hround:∀ (k:Nat) (x:AV),els[k]? = some x→Iv k→∀ R':Run,R'.G=R.G→R'.N=R.N→AR P R' assign ⟨(p,x)::t0,objs k⟩ fun e s1=>e = .normal∧∀ R'':Run,R''.G=R.G→R''.N=R.N →
   AR P R'' body s1 (fun e s2=>e = .normal∧(frzSt ok s2).o=outs k∧Iv (k+1)))
  (hdone:Iv els.length→Φ .normal (setsB ρ (objs els.length) st)):AR P R (.rngf g [p] assign body) st Φ:=by
 intro c hc m a W hs
 cases c <;> simp only [Z1A,Bool.false_eq_true,Bool.and_eq_true,beq_iff_eq]at hc
 rename_i g' ps' ca cb
 obtain ⟨⟨⟨⟨hcg,hps⟩,hpn⟩,hca⟩,hcb⟩:=hc
 have hpn:p<R.N:=by simpa using hpn
 obtain rfl:ps' = #[p]:=by rw [← Array.toList_inj];exact hps
 rw [hrd.1]
 refine wpFW.2 ((wpFW (n:=3)).1 ?_)
 obtain ⟨κ0,hs⟩:=hs
 obtain ⟨S,hS⟩ : ∃ S:Nat→St,S=fun k=>setsB ρ (objs k) st:=⟨_,rfl⟩
 have hSt:∀ k,(S k).t=st.t:=fun k=>by rw [hS];exact Z4Y ρ _ _
 have nod:∀ k,((objs k).map fun p=>ρ p.1).Nodup:=hinj
 have memK:∀ {o:List (Nat×AObj)} {q:Nat},isK o q=true→∃ x,(q,x)∈o:=fun {o q} h=>by
  obtain ⟨x,h1⟩:=Option.isSome_iff_exists.1 h
  exact ⟨x,Z4F h1⟩
 have injK:∀ {o:List (Nat×AObj)},(o.map fun p=>ρ p.1).Nodup→∀ q q',isK o q=true→isK o q'=true→ρ q=ρ q'→q=q':=fun {o} hn q q' h1 h2 e=>by
  have m1:=Z51.1 h1
  have m2:=Z51.1 h2
  have:(o.map (·.1)).map ρ=o.map (fun p=>ρ p.1):=by simp [List.map_map,Function.comp_def]
  rw [← this]at hn
  exact Z52 hn m1 m2 e
 have hevg:∀ k,evA R.G (S k) g = .func (.func gf) [] caps:=fun k=>by
  rw [← hg]
  cases g <;> simp only [evA,St.tmp,hSt]
 have hv0:=hs.ev hcg
 rw [hg]at hv0
 obtain ⟨us0,lb,hav,hus0,hlb0⟩:=hv0.func_inv
 obtain rfl:us0 = #[]:=by
  have:=hus0.1
  rw [← Array.toList_inj]
  exact List.length_eq_zero_iff.1 (by simpa using this)
 have hcaps:∀ k W κ,SK R (S k) a W κ→CP ((S k).env R.M κ).M W caps lb:=fun k W κ h=>by
  have h1:=h.ev hcg
  rw [hevg,hav]at h1
  obtain ⟨us1,lb1,h2,-,h3⟩:=h1.func_inv
  simp only [Value.func.injEq]at h2
  obtain ⟨-,-,rfl⟩:=h2
  exact ⟨by simpa using h3.1,fun i x u hx hu=>(h3.2 i x u hx (by simpa using hu)).toPV (List.all_eq_true.1 hp x (List.mem_of_getElem? hx))⟩
 obtain ⟨cs0,e0,nd0,hc0,-⟩:=hs.defers
 have marks:∀ (D:Nat) (st1:St) (W1:World) (κ1:Nat→Option (Nat×Nat)),W.heap.size≤D→SK R st1 a W1 κ1→W1.heap[D]? = some (.deferred (some []))→SK R st1 { a with defers:=coll D::a.defers } W1 κ1:=fun D st1 W1 κ1 hD h hd=>by
  obtain ⟨cs1,e1,nd1,hc1,-⟩:=h.defers
  obtain rfl:cs1=cs0:=Z54 (List.append_cancel_right (e1.symm.trans e0))
  refine h.odd ⟨rfl,fun b=>.inl rfl⟩ rfl rfl rfl (fun b _=>rfl) rfl ⟨D::cs1,by simp [e1],List.nodup_cons.2 ⟨fun hm=>?_,nd1⟩,fun c hm=>?_,fun e=>by rw [hrd.2]at e;cases e⟩
  · have:=(Array.getElem?_eq_some_iff.1 (hc0 D hm).2).1;omega
  · rcases List.mem_cons.1 hm with rfl|hm
    · exact ⟨Nat.le_trans hs.kp.size hD,hd⟩
    · exact hc1 c hm
 have put:∀ (l:Nat) (st1:St) (W1:World) (κ1:Nat→Option (Nat×Nat)) (r r':Loop),W.heap.size≤l→SK R st1 a W1 κ1→W1.heap[l]? = some (.loop r)→SK R st1 a (W1.putObj l (.loop r')) κ1:=fun l st1 W1 κ1 r r' hl h hr=>by
  obtain ⟨cs1,e1,nd1,hc1,hz1⟩:=h.defers
  have:=hs.kp.size
  refine h.odd (.put hr trivial) rfl rfl rfl (fun b hb=>World.putObj_heap_other (by omega)) rfl ⟨cs1,e1,nd1,fun c hm=>⟨(hc1 c hm).1,?_⟩,hz1⟩
  rw [World.putObj_heap_other (by rintro rfl;have:=(hc1 _ hm).2;rw [hr]at this;cases this)]
  exact (hc1 c hm).2
 have hs0:SK R (S 0) a W κ0:=by rw [hS];show SK R (setsB ρ (objs 0) st) a W κ0;rw [h0];exact hs
 refine Zlh (I:=fun k M W'=>∃ κ,(M=((S k).env R.M κ).M∧Iv k)∧SK R (S k) a W' κ) (K:=fun W'=>∃ s κ,Φ .ret s∧SK R s a W' κ) (M0:=((S 0).env R.M κ0).M) (caps:=caps) (els:=els) hav hit (by omega) (fun k M A B h e=>h.imp fun κ h=>⟨h.1,h.2.grow e⟩) (fun A B ⟨s,κ,h1,h2⟩ e=>⟨s,κ,h1,h2.grow e⟩)
  (fun k l M W' r r' hl ⟨κ,hM,h⟩ hr=>⟨κ,hM,put l _ _ _ r r' hl h hr⟩) (fun l W' r r' hl ⟨s,κ,h1,h⟩ hr=>⟨s,κ,h1,put l _ _ _ r r' hl h hr⟩) (fun k M A ⟨κ,⟨hM,_⟩,h⟩=>?_) (fun k M A ⟨κ,⟨hM,_⟩,h⟩=>hM ▸ h.gr) (hcaps 0 W κ0 hs0) ⟨κ0,⟨rfl,hI0⟩,hs0⟩ ?_ ?_ ?_
 · subst hM
   refine ⟨fun b hb=>h.owned_lt hb,fun b o hb ho hodd hM=>?_⟩
   rcases hM with hM | ⟨q,s,hq⟩
   · have:=h.low b hM
     have:=hs.kp.size
     omega
   · exact h.notOdd hq ho hodd
 · intro l k m x u M W1 lr hl hI hlr hx hxu
   obtain ⟨κ,⟨rfl,hIk⟩,h⟩:=hI
   have enterAt:∀ W',SK R (S k) a W' κ→SK (rC (objs k) ρ R (S k) κ W') (obSt (objs k)) noAct W' (kC (objs k) ρ κ)∧∀ (x:AV) (v:Value),inK (objs k) x→VR ((S k).env R.M κ) W' (x.ren ρ) v→VR ((obSt (objs k)).env (mC (objs k) ρ R (S k) κ) (kC (objs k) ρ κ)) W' x v:=fun W' h =>
    Z4V h (fun q hq=>by obtain ⟨x,hx⟩:=memK hq;exact hK k _ hx) (injK (hinj k)) (fun q o hq=>by rw [hS];exact Z50 ρ _ _ q o (nod k) hq)
     (fun q o hq=>by
      have h2:=hin k (q,o) (Z4F hq)
      have kept:∀ x,keptA (objs k) x=true→inK (objs k) x:=fun x hx k' hk'=>List.all_eq_true.1 hx k' hk'
      cases o with
      |box cells=>exact fun x hx=>kept x (List.all_eq_true.1 h2 x hx)
      |row sz rows=>exact fun r hr x hx=>kept x (List.all_eq_true.1 (List.all_eq_true.1 h2 r hr) x hx)
      | mp kvs =>
        intro p hp
        have:=List.all_eq_true.1 h2 p hp
        simp only [Bool.and_eq_true]at this
        exact ⟨kept _ this.1,kept _ this.2⟩)
   obtain ⟨h1,conv⟩:=enterAt W1 h
   have hXo:∀ W',SK R (S k) a W' κ→∀ b,(rC (objs k) ρ R (S k) κ W').X b→∀ o,W'.heap[b]? = some o→¬Odd o:=fun W' h b ⟨q,s,hq⟩ o ho hodd=>by
    simp only [kC]at hq
    split at hq
    · exact h.notOdd hq ho hodd
    · cases hq
   have hMM:∀ b,((obSt (objs k)).env (mC (objs k) ρ R (S k) κ) (kC (objs k) ρ κ)).M b→((S k).env R.M κ).M b:=fun b hb=>by
    rcases hb with hb | ⟨q,s,hq⟩
    · exact hb.1
    · simp only [kC]at hq
      split at hq
      · exact .inr ⟨ρ q,s,hq⟩
      · cases hq
   let R1:Run:={ rC (objs k) ρ R (S k) κ W1 with N:=R.N,rd:=some l }
   have hN:R.N=a.tmps.size:=h.size.symm
   have start:SK R1 ⟨(p,x)::t0,objs k⟩ { tmps:=a.tmps.setIfInBounds p u,defers:=[] } W1 (kC (objs k) ρ κ):=by
    refine ⟨.nil _ _ _ _,by show (a.tmps.setIfInBounds p u).size=R.N;simp [hN],fun n y hy=>?_,h1.obj,h1.dom,h1.inj,h1.low,h1.apart,h1.kp,h1.gr,h1.mono,h1.ent⟩
    have hy:lk ((p,x)::t0) n=some y:=hy
    show VR ((obSt (objs k)).env (mC (objs k) ρ R (S k) κ) (kC (objs k) ρ κ)) W1 y ((a.tmps.setIfInBounds p u).getD n Go.undef)
    simp only [lk]at hy
    split at hy
    · rename_i e
      subst e
      obtain rfl:x=y:=by simpa using hy
      have hlt:p<a.tmps.size:=by rw [← hN];exact hpn
      have e:(a.tmps.setIfInBounds p u).getD p Go.undef=u:=by simp [Array.getD,hlt]
      rw [e]
      exact .pv (hxu.mono (fun b _ hb=>⟨fun hb'=>hb (hMM b hb'),rfl⟩) (Nat.le_refl _))
    · rename_i e
      have e2:(a.tmps.setIfInBounds p u).getD n Go.undef=a.tmps.getD n Go.undef:=by
       simp only [Array.getD_eq_getD_getElem?,Array.getElem?_setIfInBounds,if_neg e]
      rw [e2]
      obtain ⟨g1,g2,g3⟩:=ht0 (n,y) (Z4F hy)
      have g4:=h.tm n (y.ren ρ) (by show lk (S k).t n=_;rw [hSt];exact g1)
      exact conv y _ (fun q hq=>g3 k q hq) g4
   refine wpIn_mono (hround k x hx hIk R1 rfl rfl ca hca m _ W1 ⟨_,start⟩) ?_
   rintro e a1 W2 ⟨s1,⟨rfl,hbody⟩,κ1,h2⟩
   refine ⟨fun b o hb ho=>h2.keepOdd (hXo W1 h) hb ho,?_⟩
   have hl2:W2.heap[l]? = some (.loop lr):=h2.keepOdd (hXo W1 h) hlr trivial
   have h3:=SK.both rfl h2 (o':=.loop { lr with state:=.busy }) hl2 hlr
   have hb:=put l _ W1 κ lr { lr with state:=.busy } hl h hlr
   refine wpIn_mono (hbody { R1 with W0:=W1.putObj l (.loop { lr with state:=.busy }) } rfl rfl cb hcb m _ _ ⟨_,h3⟩) ?_
   rintro e a2 W3 ⟨s2,hrnd,hs2⟩
   have hodd:∀ κ2,SK { R1 with W0:=W1.putObj l (.loop { lr with state:=.busy }) } s2 a2 W3 κ2→(∀ (b:Nat) (o:Obj),W1.heap[b]? = some o→Odd o→b≠l→W3.heap[b]? = some o)∧W3.heap[l]? = some (.loop { lr with state:=.busy }):=fun κ2 h4 =>
    ⟨fun b o hb1 ho hne=>h4.keepOdd (hXo _ hb) ((World.putObj_heap_other hne).trans hb1) ho,
     h4.keepOdd (hXo _ hb) (o:=.loop { lr with state:=.busy }) (World.putObj_heap_same (Array.getElem?_eq_some_iff.1 hlr).1) trivial⟩
   have leave:(frzSt ok s2).o=outs k→∃ κ3,SK R (setsB ρ (outs k) st) a W3 κ3∧Mono ((S k).env R.M κ) (W1.putObj l (.loop { lr with state:=.busy })) ((setsB ρ (outs k) st).env R.M κ3) W3:=fun he=>by
    obtain ⟨κ2,h4⟩:=Weak.frz ok s2 (fun k hk=>by
     cases e:ok k
     · rfl
     · have:=hok k e;omega) _ a2 W3 hs2
    have g:=h4.sub (t':=[]) (fun n x hx=>by simp [lk]at hx)
    have e:({ frzSt ok s2 with t:=[] }:St)=obSt (outs k):=by rw [← he];rfl
    rw [e]at g
    have g2:SK (rC (objs k) ρ R (S k) κ (W1.putObj l (.loop { lr with state:=.busy }))) (obSt (outs k)) noAct W3 κ2 :=
     ⟨.nil _ _ _ _,rfl,fun n x hx=>by simp [obSt,St.tmp,lk]at hx,g.obj,g.dom,g.inj,g.low,g.apart,g.kp,g.gr,g.mono,g.ent⟩
    obtain ⟨κ3,h5,h6,-⟩:=Z5f hb (objs':=outs k) (st1:=setsB ρ (outs k) st) (injK (hinj2 k)) (fun q o hq=>by rw [hS];exact Z50 ρ _ _ q o (nod k) hq)
     (fun q hq=>by obtain ⟨x,hx⟩:=memK hq;exact hsub k _ hx)
     (fun q h1 h2=>by
      obtain ⟨x,hx⟩:=memK h1
      rcases hnew k _ hx with h3|h3
      · rw [h2]at h3;cases h3
      · rw [hS];exact h3) g2 ((Z4Y ρ _ _).trans (hSt k).symm) (fun q o hq=>Z50 ρ _ _ q o (hinj2 k) hq)
     (fun j hj=>by
      have o1:(setsB ρ (outs k) st).get j=st.get j:=Z4Z ρ j _ _ fun q hq=>hj q.1 (Z51.2 (List.mem_map.2 ⟨q,hq,rfl⟩))
      have o2:(setsB ρ (objs k) st).get j=st.get j:=Z4Z ρ j _ _ fun q hq=>hj q.1 (hsub k q hq)
      rw [hS]
      exact o1.trans o2.symm)
    exact ⟨κ3,h5,h6⟩
   obtain ⟨κ2,h4⟩:=id hs2
   refine ⟨hodd κ2 h4,?_⟩
   obtain ⟨rfl,hro,hri⟩:=hrnd
   obtain ⟨κ3,h5,h6⟩:=leave hro
   rw [hnext k]at h5 h6
   refine .inl ⟨rfl,_,⟨κ3,⟨rfl,hri⟩,by rw [hS];exact h5⟩,by have:=h6.size;simpa using this,fun b hb1 hM=>?_⟩
   obtain ⟨g1,g2⟩:=h6.imm b (by simpa using hb1) hM
   exact ⟨by rw [hS];exact g1,fun hne=>g2.trans (World.putObj_heap_other hne)⟩
 · rintro D M W1 hD ⟨κ,⟨-,hIk⟩,h⟩ hd
   refine ⟨_,?_,κ,marks D _ _ _ hD h hd⟩
   rw [hS]
   exact hdone hIk
 · rintro D W1 hD ⟨s,κ,h1,h⟩ hd
   exact ⟨s,h1,κ,marks D _ _ _ hD h hd⟩
end
def aqR (k:Nat):Nat:=if 1000≤k then k-1000 else k
def slT (L:List Stq) (k:Nat):List (List AV):=(L.take k).map sa
def aqB (L:List Stq) (k:Nat):List (Nat×AObj):=if k=0 then [(1002,.box [.nils])] else [(1002,.box [.osl 1011 k]),(1011,.row 6 (slT L k))]
def aqU (L:List Stq) (k:Nat):List (Nat×AObj):=if k=0 then [(1002,.box [.osl 11 1]),(11,.row 6 (slT L 1))] else [(1002,.box [.osl 1011 (k+1)]),(1011,.row 6 (slT L (k+1)))]
theorem Zlj (ρ:Nat→Nat) (L:List Stq):(AObj.row 6 (L.map sa)).ren ρ = .row 6 (L.map sa):=by
 simp only [AObj.ren,List.map_map]
 congr 2
 funext p;simp [sa,AV.ren]
theorem Zlk (ρ:Nat→Nat) (xs:List AV):(AObj.box xs).ren ρ = .box (xs.map (AV.ren ρ)):=rfl
theorem Zll (ok:Nat→Bool) (st:St) (L:List Stq):frzO ok st (.row 6 (L.map sa)) = .row 6 (L.map sa):=by
 simp only [frzO,List.map_map]
 congr 2
 funext p;simp [sa,frzA,frz,AV.keys]
theorem Zlm (ρ:Nat→Nat) (L:List Stq) (k:Nat):(AObj.row 6 (slT L k)).ren ρ = .row 6 (slT L k):=Zlj ρ _
theorem Zln (ok:Nat→Bool) (st:St) (L:List Stq) (k:Nat):frzO ok st (.row 6 (slT L k)) = .row 6 (slT L k):=Zll ok st _
theorem Zlo (o:List (Nat×AObj)) (L:List Stq) (k:Nat):keptO o (.row 6 (slT L k))=true:=ZiY o _
theorem Zlp {L:List Stq} {k:Nat} (h:k≤L.length):(slT L k).length=k:=by simp [slT];omega
section
variable {G:Nat→Option (List AV)}
set_option maxHeartbeats 1000000 in
theorem Zlq (gf:Nat) (caps:List AV) (L:List Stq) (hp:caps.all AV.pure=true) (hit:IterG Tryz.prog G gf caps (L.map fun x=>.agg (sa x))) (hl:L.length≤100) :
  PC Tryz.prog G 80 [.nils,.func (.func gf) [] caps] (orNil (L.map sa)):=by
 refine Z7A rfl fun R hG hrd=>?_
 subst hG
 refine GO_AR mixed 1000 ?_
 simp -implicitDefEqProofs [Z7y,Z7z]
 have tl:∀ k,k≤L.length→(L.take k).length=k:=fun k h=>by simp;omega
 refine Zli hrd hit (by simp [evA,St.tmp,lk]) hp (fun k=>k == 5) (by intro k hk;simp at hk;omega) aqR [(2,.ptr 1002 0)] (aqB L) (aqU L) (fun k=>k≤L.length) (Nat.zero_le _)
  ?_ ?_ ?_ ?_ ?_ ?_ ?_ ?_ ?_ ?_ ?_
 · intro k q hq
   unfold aqB at hq
   split at hq <;> simp at hq <;> (try rcases hq with rfl|rfl) <;> simp_all
 · intro k
   unfold aqB
   split <;> simp [aqR]
 · intro k
   unfold aqU
   split <;> simp [aqR]
 · intro k q hq
   unfold aqB at hq
   unfold aqU
   by_cases c:k=0
   · rw [if_pos c]at hq ⊢
     simp at hq
     subst hq
     simp [isK,lk]
   · rw [if_neg c]at hq ⊢
     simp at hq
     rcases hq with rfl|rfl <;> simp [isK,lk]
 · intro k q hq
   unfold aqU at hq
   unfold aqB
   by_cases c:k=0
   · rw [if_pos c]at hq ⊢
     simp at hq
     rcases hq with rfl|rfl
     · exact .inl (by simp [isK,lk])
     · exact .inr (by simp [setsB,aqR,St.get,St.set,putO,lk])
   · rw [if_neg c]at hq ⊢
     simp at hq
     rcases hq with rfl|rfl <;> exact .inl (by simp [isK,lk])
 · intro k
   unfold aqU aqB
   by_cases c:k=0
   · subst c
     simp [setsB,aqR,Zlk,Zlm,AV.ren]
   · rw [if_neg c,if_neg (by omega)]
 · simp [aqB,setsB,aqR,St.set,putO,AObj.ren,AV.ren]
 · intro k q hq
   unfold aqB at hq ⊢
   by_cases c:k=0
   · rw [if_pos c]at hq ⊢
     simp at hq
     subst hq
     simp [keptO,keptA,AV.keys]
   · rw [if_neg c]at hq ⊢
     simp at hq
     rcases hq with rfl|rfl
     · simp [keptO,keptA,AV.keys,lk]
     · exact Zlo _ _ _
 · intro q hq
   simp at hq
   subst hq
   refine ⟨by simp [lk,AV.ren,aqR],by simp,fun j k hk=>?_⟩
   simp [AV.keys]at hk
   subst hk
   unfold aqB
   split <;> simp [isK,lk]
 · intro k x hx hk R' hG hN
   obtain ⟨hkl,hxe⟩:=List.getElem?_eq_some_iff.1 hx
   have hkl:k<L.length:=by simpa using hkl
   have hxe:x = .agg (sa L[k]):=by rw [← hxe];simp
   subst hxe
   have tk:=List.take_succ_eq_append_getElem hkl
   have tlk:=Zlp (L:=L) (k:=k) (by omega)
   have bb:=sixB k (by omega)
   have hsa:sa L[k]=[.int .i64 L[k].fd,.int .i64 L[k].fl,.int .i64 L[k].td,.int .i64 L[k].tl,.int .i64 L[k].nu,.bool L[k].nt]:=rfl
   have e1:slT L (k+1)=slT L k++[[.int .i64 L[k].fd,.int .i64 L[k].fl,.int .i64 L[k].td,.int .i64 L[k].tl,.int .i64 L[k].nu,.bool L[k].nt]]:=by unfold slT;rw [tk,List.map_append];rfl
   refine GO_AR mixed 1000 ?_
   by_cases c:k=0
   · subst c
     simp only [aqB,aqU,if_true]
     simp -implicitDefEqProofs [hsa]
     intro R'' hG'' hN''
     refine GO_AR mixed 1000 ?_
     simp -implicitDefEqProofs [hsa]
     have e0:slT L 1=[[.int .i64 L[0].fd,.int .i64 L[0].fl,.int .i64 L[0].td,.int .i64 L[0].tl,.int .i64 L[0].nu,.bool L[0].nt]]:=by rw [show slT L 0=[] from rfl,List.nil_append]at e1;exact e1
     refine ⟨?_,by omega⟩
     rw [e0]
     simp [frzSt,frzO,frzA,frz,AV.keys]
   · simp only [aqB,aqU,c,if_false]
     simp -implicitDefEqProofs [hsa]
     intro R'' hG'' hN''
     refine GO_AR mixed 1000 ?_
     simp -implicitDefEqProofs [hsa,tlk,bb]
     refine ⟨?_,by omega⟩
     rw [← e1]
     simp [frzSt,ZhS,Zln,frzA,frz,AV.keys]
 · intro _
   have hll:(List.map (fun x=>AV.agg (sa x)) L).length=L.length:=by simp
   rw [hll]
   unfold aqB
   by_cases c:L.length=0
   · have e:L=[]:=List.length_eq_zero_iff.1 c
     rw [if_pos c]
     simp -implicitDefEqProofs [setsB,AObj.ren,AV.ren,aqR]
     refine Z2N mixed 1000 ?_
     simp -implicitDefEqProofs [e,orNil]
   · have e:¬L=[]:=fun h=>c (by rw [h];rfl)
     have eL:slT L L.length=L.map sa:=by unfold slT;rw [List.take_length]
     rw [if_neg c,eL]
     simp -implicitDefEqProofs [setsB,Zlj,Zlk,AV.ren,aqR]
     refine Z2N mixed 1000 ?_
     simp -implicitDefEqProofs [e,orNil,sa]
end
section
variable {G:Nat→Option (List AV)}
theorem Zlr (gf:Nat) (caps:List AV) (L:List Stq) (hp:caps.all AV.pure=true) (hit:IterG Tryz.prog G gf caps (L.map fun x=>.agg (sa x))) (hl:L.length≤100) :
  PC Tryz.prog G 46 [.func (.func gf) [] caps] (orNil (L.map sa)):=by
 have ha:=Zlq (G:=G) gf caps L hp hit hl
 have pL:=Zfm (l:=L.map sa) (by simp [sa,AV.pure])
 have sL:=fun ok st n=>Zfo (L.map sa) ok st n
 generalize orNil (L.map sa)=V at *
 (refine Z7x rfl fun R hG hrd=>GO_AR mixed 1000 ?_;subst hG)
 have hp2:∀ x∈caps,x.pure=true:=List.all_eq_true.1 hp
 simp -implicitDefEqProofs [Z7v,Z7w]
 refine CallK.of ha (by simpa [AV.pure] using hp2) ?_
 simp -implicitDefEqProofs [pL,sL]
theorem Zls (r:List Iss) (l:List Nte) (q:List Rul) (s:List Int) (m day:Int):PC Tryz.prog G 47 [.agg (moC r l q s m day)] (.func (.func 81) [] [.vptr (moC r l q s m day) 0]):=by
 have pS:(shopA r l q).pure=true:=by unfold shopA rfA;split <;> simp [AV.pure,isa,na,ra,rfa]
 obtain ⟨cs,eS⟩ : ∃ cs,shopA r l q = .vptr cs 0:=⟨_,rfl⟩
 rw [eS]at pS
 unfold moC
 rw [eS]
 (refine Z7n rfl fun R hG hrd=>GO_AR mixed 1000 ?_;subst hG)
 simp -implicitDefEqProofs [Z7l,Z7m,pS]
theorem Zlt (hG:GC G) (hN:GN G) (r:List Iss) (l:List Nte) (q:List Rul) (s:List Int) (m day:Int) (hw:WfN l) (hr:Wf r) (hq:Sml q) (hs:Sml s)
  (hit:chS r l q=0→truB l s=true→IterG Tryz.prog G 81 [.vptr (moC r l q s m day) 0] ((st5 r l q s m day).map fun x=>.agg (sa x))) (hl:chS r l q=0→(st5 r l q s m day).length≤100) :
  PC Tryz.prog G 11 [swa r l q,.vsl (s.map ia),.int .i64 m,.int .i64 day] (stA r l q s m day):=by
 have ha:=ZjG hG hN r l q s m day day hw hr hq hs
 unfold moA swa at ha
 (refine Z7G rfl fun R hG hrd=>GO_AR mixed 1000 ?_;subst hG)
 unfold stA stE
 by_cases h0:aqN r l q s m day day=0
 · have hz:=Zj3 h0
   have pS:(shopA r l q).pure=true:=by unfold shopA rfA;split <;> simp [AV.pure,isa,na,ra,rfa]
   have pM:(AV.vptr (moC r l q s m day) 0).pure=true:=by simp [AV.pure,moC,pS]
   have hc:=Zlr (G:=R.G) _ _ _ (by simpa using pM) (hit hz.1 hz.2.1) (hl hz.1)
   have hf:=Zls (G:=R.G) r l q s m day
   have sS:=fun ok st n=>Zfo ((st5 r l q s m day).map sa) ok st n
   rw [if_pos h0,h0]at ha
   rw [if_pos h0]
   have pS2:=pS
   obtain ⟨cs,eS⟩ : ∃ cs,shopA r l q = .vptr cs 0:=⟨_,rfl⟩
   unfold moC at *
   rw [eS]at ha hc hf pS pM
   simp -implicitDefEqProofs [Z7E,Z7F,swa]
   (first|refine CallK.of (ha) (by simp) ?_|refine CallD.of (ha) (by simp) ?_)
   simp -implicitDefEqProofs []
   refine CallK.of hf (by simp [AV.pure]at pS ⊢;try simp [pS]) ?_
   simp -implicitDefEqProofs []
   refine CallK.of hc (by simp [AV.pure]at pS ⊢;try simp [pS]) ?_
   simp -implicitDefEqProofs [sS]
 · rw [if_neg h0]at ha
   rw [if_neg h0]
   simp -implicitDefEqProofs [Z7E,Z7F,swa]
   (first|refine CallK.of (ha) (by simp) ?_|refine CallD.of (ha) (by simp) ?_)
   simp -implicitDefEqProofs [h0,orNil]
end
def Zlu (G:Nat→Option (List AV)) (M:Nat→Prop) (W:World) (N:Nat) (rd:Option Nat):Run :=
 { G:=G,M:=M,X:=fun _=>False,W0:=W,N:=N,E0:={ M:=M,loc:=fun _=>none,row:=fun _=>none },rd:=rd,nm:=true }
theorem Zlv {G:Nat→Option (List AV)} {M:Nat→Prop} {W:World} {N:Nat} {rd:Option Nat} {t:List (Nat×AV)} {a:Act} (hgr:GR G M W) (hM:∀ b,M b→b<W.heap.size) (hd:a.defers=[]) (hN:a.tmps.size=N) (ht:TT' M W t a):SR (Zlu G M W N rd) ⟨t,[]⟩ a W:=by
 have hGM:∀ b,b<W.heap.size→¬M b→¬((⟨t,[]⟩ : St).env M (fun _=>none)).M b∧W.heap[b]? = W.heap[b]?:=fun b _ h1=>⟨(by rintro (h2 | ⟨k,s,h2⟩) <;> first|exact h1 h2|cases h2),rfl⟩
 refine ⟨fun _=>none,⟨[],by simp [hd,Zlu],.nil,by simp,fun _=>rfl⟩,hN,fun n x hx=>.pv ((ht n x hx).mono hGM (Nat.le_refl _)),(fun k o ho=>by simp [St.get,lk]at ho),(fun k p hk=>by cases hk),(fun k k' b s s' hk=>by cases hk),hM,fun _ _ h=>h,Kp.refl _ _,(hgr.mono hGM (Nat.le_refl _)),⟨Nat.le_refl _,hGM,fun k p hk=>(by cases hk),fun k sz m hk=>(by cases hk)⟩,fun _ _=>⟨rfl,rfl⟩⟩
theorem endG {G:Nat→Option (List AV)} {M:Nat→Prop} {W W':World} {N:Nat} {rd:Option Nat} {st:St} {a:Act} (h:SR (Zlu G M W N rd) st a W') {t:List (Nat×AV)} (hw:Weak st ⟨t,[]⟩) (hp:∀ q∈t,q.2.pure=true) :
  a.defers=[]∧a.tmps.size=N∧TT' M W' t a∧Ext W W':=by
 obtain ⟨κ,hk⟩:=hw _ _ _ h
 obtain ⟨cs,e,-,-,hz⟩:=hk.defers
 have hκ:∀ k,κ k=none:=fun k=>by
  cases e:κ k with
  |none=>rfl
  |some p=>obtain ⟨o,ho⟩:=hk.dom k p e;simp [St.get,lk]at ho
 refine ⟨by rw [e,hz rfl];rfl,hk.size,fun n x hx=>?_,⟨hk.kp.os,hk.kp.tape,hk.kp.output,hk.kp.size,fun i hi=>hk.kp.block i hi (fun h=>h)⟩⟩
 refine ((hk.tm n x hx).toPV (hp (n,x) (Z4F hx))).mono (fun b _ hb=>⟨fun h=>hb (.inl h),rfl⟩) (Nat.le_refl _)
def lpB:RCode→RCode
 |.loop b=>b
 |c=>c
def K2s:List AV:=[.func (.func 191) [] [],.func (.func 192) [] []]
def GQ (G:Nat→Option (List AV)):Prop:=G 0=some K2s
def ouT (mo:List AV) (l i:Nat):List (Nat×AV):=[(8,.int .i64 i),(7,.agg K2s),(1,.vptr mo 0),(0,.func (.yield l) [] [])]
def inT (mo:List AV) (L:List Stq) (l i j:Nat):List (Nat×AV):=(16,.int .i64 j)::(15,.int .i64 L.length)::(14,orNil (L.map sa))::ouT mo l i
def rcO:RCode:=lpB (issBk (ZcC Z7o))
def rcO3:RCode:=ZcC (ZcC rcO)
def rcB1:RCode:=issBk (issA rcO3)
def rcI:RCode:=lpB (issBk (ZcC (ZcC rcB1)))
def rcI3:RCode:=ZcC (ZcC rcI)
def rcB3:RCode:=issBk (issA rcI3)
section
variable {G:Nat→Option (List AV)}
set_option maxHeartbeats 2000000 in
theorem Zlw (hQ:GQ G) (mo:List AV) (hmo:∀ x∈mo,x.pure=true) (hml:mo.length=4) (Ls:Nat→List Stq) (hl:∀ i,(Ls i).length≤100)
  (h0:PC Tryz.prog G 191 [.agg mo] (orNil ((Ls 0).map sa))) (h1:PC Tryz.prog G 192 [.agg mo] (orNil ((Ls 1).map sa))) :
  IterG Tryz.prog G 81 [.vptr mo 0] ((Ls 0++Ls 1).map fun x=>.agg (sa x)):=by
 refine ⟨by kernel_rfl,?_⟩
 intro n' l lb J K M W hn hJe hKe hJM hJG hC hY hJ0
 obtain ⟨off,hoff⟩ : ∃ off:Nat→Nat,off=fun i=>if i=0 then 0 else if i=1 then (Ls 0).length else (Ls 0).length+(Ls 1).length:=⟨_,rfl⟩
 obtain ⟨c,hc,hok⟩ : ∃ c,Tryz.f81.body=some c∧Z1A Tryz.prog Tryz.f81.ntmps c Z7o=true:=⟨_,rfl,by kernel_rfl⟩
 obtain ⟨N,hN⟩ : ∃ N,N=Tryz.f81.ntmps:=⟨_,rfl⟩
 have hN3:3≤N:=by rw [hN];decide
 rw [← hN]at hok
 refine callsIn_of_wp (F:=Fence.wide) Tryz.func81 hc trivial ?_ rfl
 have hres:∀ (tm:Array Value) (W':World),(results Tryz.f81 tm).run Tryz.prog W' = .ok (.tuple #[]) W':=fun tm W'=>by
  have e:Tryz.f81.results = #[]:=rfl
  simp [results,e,Sem.run_bind]
 obtain ⟨tot,htot⟩ : ∃ tot,tot=((Ls 0++Ls 1).map fun x=>AV.agg (sa x)).length:=⟨_,rfl⟩
 rw [← htot]
 have htot2:tot=(Ls 0).length+(Ls 1).length:=by rw [htot];simp
 obtain ⟨Q,hQd⟩ : ∃ Q,Q=bodyPost Tryz.prog Tryz.f81 (fun e W'=>(∃ v,e = .returned v)∧((∃ M,J tot M W')∨K W')):=⟨_,rfl⟩
 have hfin:∀ (a:Act) (W':World),a.defers=[]→((∃ M,J tot M W')∨K W')→Q .ret a W'∧Q .normal a W':=fun a W' hd h=>by
  rw [hQd];exact ⟨⟨hd,_,hres _ _,⟨_,rfl⟩,h⟩,⟨hd,_,hres _ _,⟨_,rfl⟩,h⟩⟩
 rw [← hQd]
 have hwide:Fence.wide=FW none:=rfl
 rw [hwide]
 obtain ⟨cA,c1,rfl,okA',ok1⟩:=Zco (a:=issA Z7o) (b:=ZcC Z7o) hok
 obtain ⟨c3,rfl,ok3⟩:=Zcp (id:=0) (a:=issBk (ZcC Z7o)) ok1
 obtain ⟨c4,rfl,ok4⟩:=Zcq (a:=rcO) ok3
 have hv:∃ v1,lb = #[v1]∧PV M W (.vptr mo 0) v1:=by
  obtain ⟨q1,q2⟩:=hC
  match lb,q1,q2 with
  | ⟨[v1]⟩,_,q2=>exact ⟨v1,rfl,q2 0 _ v1 rfl rfl⟩
 obtain ⟨v1,rfl,hv1⟩:=hv
 have start:SR (Zlu G M W N none) ⟨[(1,.vptr mo 0),(0,.func (.yield l) [] [])],[]⟩ { tmps:=(#[.func (.yield l) #[] #[]] ++ #[v1]:Array Value)++Array.replicate (N-2) Go.undef,defers:=[] } W:=by
  refine Zlv (hJG 0 M W hJ0) (hJM 0 M W hJ0) rfl (by simp;omega) fun k x hx=>?_
  have g0:((#[.func (.yield l) #[] #[]] ++ #[v1]:Array Value)++Array.replicate (N-2) Go.undef).getD 0 Go.undef = .func (.yield l) #[] #[]:=by simp [Array.getD]
  have g1:((#[.func (.yield l) #[] #[]] ++ #[v1]:Array Value)++Array.replicate (N-2) Go.undef).getD 1 Go.undef=v1:=by simp [Array.getD];omega
  simp only [lk]at hx
  split at hx
  · rename_i e;subst e;cases hx;rw [g1];exact hv1
  · split at hx
    · rename_i e;subst e;cases hx;rw [g0];exact .func _ [] [] #[] #[] rfl rfl (by simp) (by simp)
    · cases hx
 have hact:({ tmps:=(#[.func (.yield l) #[] #[]] ++ #[v1]:Array Value)++Array.replicate (Tryz.f81.ntmps-(#[.func (.yield l) #[] #[]] ++ #[v1]:Array Value).size) Go.undef,defers:=[] }:Act)={ tmps:=(#[.func (.yield l) #[] #[]] ++ #[v1]:Array Value)++Array.replicate (N-2) Go.undef,defers:=[] }:=by rw [hN];rfl
 rw [hact]
 have pm:(AV.vptr mo 0).pure=true:=by simp [AV.pure]
 have arA:AR Tryz.prog (Zlu G M W N none) (issA Z7o) ⟨[(1,.vptr mo 0),(0,.func (.yield l) [] [])],[]⟩ (fun e s=>e = .normal∧Weak s ⟨ouT mo l 0,[]⟩):=by
  refine GO_AR mixed 1000 ?_
  unfold GQ at hQ
  simp -implicitDefEqProofs [issA,Z7o,Zlu,hQ,K2s,ouT]
  exact (by (first|exact Weak.tm (by simp [lk])|exact Weak.sub (by simp [lk,keptA,AV.keys]) (by simp [lk,keptO,keptA,AV.keys])))
 refine wpIn_seq (wpIn_mono (arA cA okA' _ _ W start) ?_)
 rintro e a2 W2 ⟨s2,⟨rfl,hw2⟩,hs2⟩
 obtain ⟨d2,n2,t2,e2⟩:=endG hs2 hw2 (by simp [ouT,K2s,AV.pure])
 have hJ2:=hJe _ _ _ _ hJ0 e2
 refine wpIn_block ?_
 refine wpIn_loop_ghost (fun m a A=>∃ i M,i≤2∧m=2-i∧J (off i) M A∧a.defers=[]∧a.tmps.size=N∧TT' M A (ouT mo l i) a) 2 ⟨0,M,by omega,rfl,by rw [hoff];exact hJ2,d2,n2,t2⟩ ?_
 rintro m a A ⟨i,M,hi,rfl,hJ,hd,hn2,ht⟩
 have hfr:SR (Zlu G M A N none) ⟨ouT mo l i,[]⟩ a A:=Zlv (hJG _ M A hJ) (hJM _ M A hJ) hd hn2 ht
 have kO:off 2=tot:=by rw [hoff,htot2];simp
 by_cases hlt:i<2
 case neg =>
  obtain rfl:i=2:=by omega
  have ar:AR Tryz.prog (Zlu G M A N none) rcO ⟨ouT mo l 2,[]⟩ (fun e s=>e = .exit 0∧Weak s ⟨[],[]⟩):=by
   refine GO_AR mixed 1000 ?_
   simp -implicitDefEqProofs [rcO,lpB,issBk,ZcC,Z7o,ouT]
   exact (by (first|exact Weak.tm (by simp [lk])|exact Weak.sub (by simp [lk,keptA,AV.keys]) (by simp [lk,keptO,keptA,AV.keys])))
  refine wpIn_mono (ar c4 ok4 _ a A hfr) ?_
  rintro e a3 A3 ⟨s3,⟨rfl,hw3⟩,hs3⟩
  obtain ⟨d3,-,-,e3⟩:=endG hs3 hw3 (by simp)
  refine (hfin a3 A3 d3 (.inl ⟨M,?_⟩)).2
  rw [← kO];exact hJe _ _ _ _ hJ e3
 obtain ⟨r1,q1,rfl,okr1,okq1⟩:=Zco (a:=issA rcO) (b:=ZcC rcO) ok4
 obtain ⟨k1,q2,rfl,okk1,okq2⟩:=Zco (a:=issA (ZcC rcO)) (b:=rcO3) okq1
 obtain ⟨q3,r8,rfl,okq3,okr8⟩:=Zco (a:=issA rcO3) (b:=ZcC rcO3) okq2
 obtain ⟨q4,rfl,okq4⟩:=Zcp (id:=1) (a:=rcB1) okq3
 obtain ⟨r2,q5,rfl,okr2,okq5⟩:=Zco (a:=issA rcB1) (b:=ZcC rcB1) okq4
 obtain ⟨r3,q6,rfl,okr3,okq6⟩:=Zco (a:=issA (ZcC rcB1)) (b:=ZcC (ZcC rcB1)) okq5
 obtain ⟨q7,rfl,okq7⟩:=Zcp (id:=2) (a:=issBk (ZcC (ZcC rcB1))) okq6
 obtain ⟨cI,rfl,okI⟩:=Zcq (a:=rcI) okq7
 have i01:i=0∨i=1:=by omega
 have ar1:AR Tryz.prog (Zlu G M A N none) (issA rcO) ⟨ouT mo l i,[]⟩ (fun e s=>e = .normal∧Weak s ⟨(9,.bool true)::ouT mo l i,[]⟩):=by
  have:(i:Int)<2:=by omega
  refine GO_AR mixed 1000 ?_
  simp -implicitDefEqProofs [rcO,lpB,issA,issBk,ZcC,Z7o,ouT,this]
  exact (by (first|exact Weak.tm (by simp [lk,K2s])|exact Weak.sub (by simp [lk,keptA,AV.keys,K2s]) (by simp [lk,keptO,keptA,AV.keys,K2s])))
 refine wpIn_seq (wpIn_mono (ar1 r1 okr1 _ a A hfr) ?_)
 rintro e b1 B1 ⟨s1,⟨rfl,w1⟩,hs1⟩
 have ark:AR Tryz.prog (Zlu G M A N none) (issA (ZcC rcO)) ⟨(9,.bool true)::ouT mo l i,[]⟩ (fun e s=>e = .normal∧Weak s ⟨ouT mo l i,[]⟩):=by
  refine GO_AR mixed 1000 ?_
  simp -implicitDefEqProofs [rcO,lpB,issA,issBk,ZcC,Z7o,ouT]
  exact (by (first|exact Weak.tm (by simp [lk,K2s])|exact Weak.sub (by simp [lk,keptA,AV.keys,K2s]) (by simp [lk,keptO,keptA,AV.keys,K2s])))
 refine wpIn_seq (wpIn_mono (ark k1 okk1 _ b1 B1 (w1 _ _ _ hs1)) ?_)
 rintro e b2 B2 ⟨s2,⟨rfl,w2⟩,hs2⟩
 refine wpIn_seq (wpIn_block ?_)
 have ar2:AR Tryz.prog (Zlu G M A N none) (issA rcB1) ⟨ouT mo l i,[]⟩ (fun e s=>e = .normal∧Weak s ⟨(4,.ptr 4 0)::ouT mo l i,[(4,.box [K2s.getD i .nilf])]⟩):=by
  refine GO_AR mixed 1000 ?_
  rcases i01 with rfl|rfl
  all_goals
   simp -implicitDefEqProofs [rcB1,rcO3,rcO,lpB,issA,issBk,ZcC,Z7o,ouT,K2s]
   exact (by (first|exact Weak.tm (by simp [lk])|exact Weak.sub (by simp [lk,keptA,AV.keys]) (by simp [lk,keptO,keptA,AV.keys])))
 refine wpIn_seq (wpIn_mono (ar2 r2 okr2 _ b2 B2 (w2 _ _ _ hs2)) ?_)
 rintro e b3 B3 ⟨s3,⟨rfl,w3⟩,hs3⟩
 have ar3:AR Tryz.prog (Zlu G M A N none) (issA (ZcC rcB1)) ⟨(4,.ptr 4 0)::ouT mo l i,[(4,.box [K2s.getD i .nilf])]⟩ (fun e s=>e = .normal∧Weak s ⟨inT mo (Ls i) l i 0,[]⟩):=by
  have pL:=Zfm (l:=(Ls i).map sa) (by simp [sa,AV.pure])
  have kL:=Zfn ((Ls i).map sa)
  refine GO_AR mixed 1000 ?_
  match mo,hml,hmo with
  | [x1,x2,x3,x4],_,hmo =>
    rcases i01 with rfl|rfl
    · simp -implicitDefEqProofs [rcB1,rcO3,rcO,lpB,issA,issBk,ZcC,Z7o,ouT,K2s,Zlu]
      refine CallK.of h0 (by simpa [AV.pure] using hmo) ?_
      by_cases c:Ls 0=[]
      · simp -implicitDefEqProofs [orNil,c]
        simp only [inT,ouT,orNil,c]
        ((try simp only [K2s]);refine Weak.sub (by simp [lk,keptA,AV.keys,K2s]) ?_;simp only [K2s,Wkl,and_true];(try simp [lk,keptO,keptA,AV.keys,K2s]))
      · have ev:orNil ((Ls 0).map sa) = .vsl ((Ls 0).map sa):=by simp [orNil,c]
        simp -implicitDefEqProofs [ev]
        simp only [inT,ouT,ev]
        ((try simp only [K2s]);refine Weak.sub (by simp [lk,keptA,AV.keys,K2s]) ?_;simp only [K2s,Wkl,and_true];(try simp [lk,keptO,keptA,AV.keys,K2s]))
    · simp -implicitDefEqProofs [rcB1,rcO3,rcO,lpB,issA,issBk,ZcC,Z7o,ouT,K2s,Zlu]
      refine CallK.of h1 (by simpa [AV.pure] using hmo) ?_
      by_cases c:Ls 1=[]
      · simp -implicitDefEqProofs [orNil,c]
        simp only [inT,ouT,orNil,c]
        ((try simp only [K2s]);refine Weak.sub (by simp [lk,keptA,AV.keys,K2s]) ?_;simp only [K2s,Wkl,and_true];(try simp [lk,keptO,keptA,AV.keys,K2s]))
      · have ev:orNil ((Ls 1).map sa) = .vsl ((Ls 1).map sa):=by simp [orNil,c]
        simp -implicitDefEqProofs [ev]
        simp only [inT,ouT,ev]
        ((try simp only [K2s]);refine Weak.sub (by simp [lk,keptA,AV.keys,K2s]) ?_;simp only [K2s,Wkl,and_true];(try simp [lk,keptO,keptA,AV.keys,K2s]))
 refine wpIn_seq (wpIn_mono (ar3 r3 okr3 _ b3 B3 (w3 _ _ _ hs3)) ?_)
 rintro e b4 B4 ⟨s4,⟨rfl,w4⟩,hs4⟩
 have pI:∀ j,∀ p∈inT mo (Ls i) l i j,p.2.pure=true:=fun j p hp=>by
  have pL:=Zfm (l:=(Ls i).map sa) (by simp [sa,AV.pure])
  simp only [inT,ouT,List.mem_cons,List.not_mem_nil,or_false]at hp
  rcases hp with rfl|rfl|rfl|rfl|rfl|rfl|rfl <;> simp [AV.pure,pL,K2s]
 obtain ⟨d4,n4,t4,e4⟩:=endG hs4 w4 (pI 0)
 have hJ4:=hJe _ _ _ _ hJ e4
 clear hs1 hs2 hs3 hs4 w1 w2 w3 w4 ar1 ar2 ar3 ark start hact
 refine wpIn_block ?_
 refine wpIn_loop_ghost (fun m a A=>∃ j M,j≤(Ls i).length∧m=(Ls i).length-j∧J (off i+j) M A∧a.defers=[]∧a.tmps.size=N∧TT' M A (inT mo (Ls i) l i j) a) (Ls i).length ⟨0,M,Nat.zero_le _,rfl,hJ4,d4,n4,t4⟩ ?_
 clear hJ4 d4 n4 t4 e4
 rintro m5 a5 A5 ⟨j,M5,hj,rfl,hJ5,hd5,hn5,ht5⟩
 have hfr5:SR (Zlu G M5 A5 N none) ⟨inT mo (Ls i) l i j,[]⟩ a5 A5:=Zlv (hJG _ M5 A5 hJ5) (hJM _ M5 A5 hJ5) hd5 hn5 ht5
 have kN:off i+(Ls i).length=off (i+1):=by rw [hoff];rcases i01 with rfl|rfl <;> simp
 by_cases hj2:j<(Ls i).length
 case neg =>
  obtain rfl:j=(Ls i).length:=by omega
  have ar:AR Tryz.prog (Zlu G M5 A5 N none) rcI ⟨inT mo (Ls i) l i (Ls i).length,[]⟩ (fun e s=>e = .exit 2∧Weak s ⟨ouT mo l i,[]⟩):=by
   refine GO_AR mixed 1000 ?_
   simp -implicitDefEqProofs [rcI,rcB1,rcO3,rcO,lpB,issA,issBk,ZcC,Z7o,inT,ouT]
   exact (by (first|exact Weak.tm (by simp [lk,K2s])|exact Weak.sub (by simp [lk,keptA,AV.keys,K2s]) (by simp [lk,keptO,keptA,AV.keys,K2s])))
  refine wpIn_mono (ar cI okI _ a5 A5 hfr5) ?_
  rintro e a6 A6 ⟨s6,⟨rfl,w6⟩,hs6⟩
  have ar8:AR Tryz.prog (Zlu G M5 A5 N none) (ZcC rcO3) ⟨ouT mo l i,[]⟩ (fun e s=>e = .normal∧Weak s ⟨ouT mo l (i+1),[]⟩):=by
   have w1:IntKind.i64.wrap ((i:Int)+1)=((i+1:Nat):Int):=wrapI (by omega) (by omega)
   refine GO_AR mixed 1000 ?_
   simp -implicitDefEqProofs [rcO3,rcO,lpB,issA,issBk,ZcC,Z7o,ouT,w1]
   exact (by (first|exact Weak.tm (by simp [lk,K2s])|exact Weak.sub (by simp [lk,keptA,AV.keys,K2s]) (by simp [lk,keptO,keptA,AV.keys,K2s])))
  refine wpIn_mono (ar8 r8 okr8 _ a6 A6 (w6 _ _ _ hs6)) ?_
  rintro e a7 A7 ⟨s7,⟨rfl,w7⟩,hs7⟩
  obtain ⟨d7,n7,t7,e7⟩:=endG hs7 w7 (by simp [ouT,K2s,AV.pure])
  rw [kN]at hJ5
  exact ⟨2-(i+1),by omega,i+1,M5,by omega,rfl,hJe _ _ _ _ hJ5 e7,d7,n7,t7⟩
 obtain ⟨x,hx⟩ : ∃ x,x=(Ls i)[j]:=⟨_,rfl⟩
 have hLj:(Ls i)[j]=x:=hx.symm
 have hne:¬Ls i=[]:=fun h=>by rw [h]at hj2;simp at hj2
 have ev:orNil ((Ls i).map sa) = .vsl ((Ls i).map sa):=by simp [orNil,hne]
 have hsa:sa x=[.int .i64 x.fd,.int .i64 x.fl,.int .i64 x.td,.int .i64 x.tl,.int .i64 x.nu,.bool x.nt]:=rfl
 have helt:((Ls 0++Ls 1).map fun x=>AV.agg (sa x))[off i+j]? = some (.agg (sa x)):=by
  rw [hoff]
  rcases i01 with rfl|rfl
  · simp only [if_true,Nat.zero_add,List.getElem?_map]
    rw [List.getElem?_append_left hj2,List.getElem?_eq_getElem hj2,hLj];rfl
  · have eo:(if (1:Nat)=0 then 0 else if (1:Nat)=1 then (Ls 0).length else (Ls 0).length+(Ls 1).length)=(Ls 0).length:=rfl
    show (List.map (fun x=>AV.agg (sa x)) (Ls 0++Ls 1))[(if (1:Nat)=0 then 0 else if (1:Nat)=1 then (Ls 0).length else (Ls 0).length+(Ls 1).length)+j]? = _
    rw [eo,List.getElem?_map,List.getElem?_append_right (by omega),Nat.add_sub_cancel_left,List.getElem?_eq_getElem hj2,hLj];rfl
 obtain ⟨p1,u1,rfl,okp1,oku1⟩:=Zco (a:=issA rcI) (b:=ZcC rcI) okI
 obtain ⟨kk,u2,rfl,okkk,oku2⟩:=Zco (a:=issA (ZcC rcI)) (b:=rcI3) oku1
 obtain ⟨u3,r7,rfl,oku3,okr7⟩:=Zco (a:=issA rcI3) (b:=ZcC rcI3) oku2
 obtain ⟨u4,rfl,oku4⟩:=Zcp (id:=3) (a:=rcB3) oku3
 obtain ⟨r5,u5,rfl,okr5,oku5⟩:=Zco (a:=issA rcB3) (b:=ZcC rcB3) oku4
 obtain ⟨r6,k2,rfl,okr6,okk2⟩:=Zco (a:=issA (ZcC rcB3)) (b:=ZcC (ZcC rcB3)) oku5
 obtain ⟨ops,rfl,hops⟩:=Zcr (id:=6) (rs:=ZcD (issA (ZcC rcB3))) okr6
 obtain ⟨hol,hoo⟩:=Zc hops
 have hol:ops.size=4:=hol
 have ar4:AR Tryz.prog (Zlu G M5 A5 N none) (issA rcI) ⟨inT mo (Ls i) l i j,[]⟩ (fun e s=>e = .normal∧Weak s ⟨(17,.bool true)::inT mo (Ls i) l i j,[]⟩):=by
  refine GO_AR mixed 1000 ?_
  simp -implicitDefEqProofs [rcB3,rcI3,rcI,rcB1,rcO3,rcO,lpB,issA,issBk,ZcC,Z7o,inT,ouT,ev,hj2]
  exact (by (first|exact Weak.tm (by simp [lk,K2s])|exact Weak.sub (by simp [lk,keptA,AV.keys,K2s]) (by simp [lk,keptO,keptA,AV.keys,K2s])))
 refine wpIn_seq (wpIn_mono (ar4 p1 okp1 _ a5 A5 hfr5) ?_)
 rintro e b1 B1 ⟨s1,⟨rfl,w1⟩,hs1⟩
 have ark:AR Tryz.prog (Zlu G M5 A5 N none) (issA (ZcC rcI)) ⟨(17,.bool true)::inT mo (Ls i) l i j,[]⟩ (fun e s=>e = .normal∧Weak s ⟨inT mo (Ls i) l i j,[]⟩):=by
  refine GO_AR mixed 1000 ?_
  simp -implicitDefEqProofs [rcB3,rcI3,rcI,rcB1,rcO3,rcO,lpB,issA,issBk,ZcC,Z7o,inT,ouT,ev]
  exact (by (first|exact Weak.tm (by simp [lk,K2s])|exact Weak.sub (by simp [lk,keptA,AV.keys,K2s]) (by simp [lk,keptO,keptA,AV.keys,K2s])))
 refine wpIn_seq (wpIn_mono (ark kk okkk _ b1 B1 (w1 _ _ _ hs1)) ?_)
 rintro e b2 B2 ⟨s2,⟨rfl,w2⟩,hs2⟩
 refine wpIn_seq (wpIn_block ?_)
 have ar5:AR Tryz.prog (Zlu G M5 A5 N none) (issA rcB3) ⟨inT mo (Ls i) l i j,[]⟩ (fun e s=>e = .normal∧Weak s ⟨(6,.ptr 6 0)::inT mo (Ls i) l i j,[(6,.box (sa x))]⟩):=by
  refine GO_AR mixed 1000 ?_
  simp -implicitDefEqProofs [rcB3,rcI3,rcI,rcB1,rcO3,rcO,lpB,issA,issBk,ZcC,Z7o,inT,ouT,ev,hj2,hLj,hsa]
  exact (by (first|exact Weak.tm (by simp [lk,K2s])|exact Weak.sub (by simp [lk,keptA,AV.keys,K2s]) (by simp [lk,keptO,keptA,AV.keys,K2s])))
 refine wpIn_seq (wpIn_mono (ar5 r5 okr5 _ b2 B2 (w2 _ _ _ hs2)) ?_)
 rintro e b3 B3 ⟨s3,⟨rfl,w3⟩,hs3⟩
 have hs3:=w3 _ _ _ hs3
 clear hs1 hs2 w1 w2 w3 ar4 ark ar5
 refine wpIn_seq (wpIn_region ?_)
 have hrg:List.range ops.size=[0,1]++[2,3]:=by rw [hol];rfl
 rw [hrg]
 have okAt:∀ (k:Nat) (r:ROper),(ZcD (issA (ZcC rcB3)))[k]? = some r→∃ o,ops[k]? = some o∧Z1z Tryz.prog N ops o r=true:=fun k r hk=>by
  have hlt:k<ops.size:=by
   have:=(List.getElem?_eq_some_iff.1 hk).1
   rw [hol];exact this
  exact ⟨ops[k],by simp [hlt],hoo k _ r (by simp [hlt]) hk⟩
 refine Zcs (R:=Zlu G M5 A5 N none) [2,3] _ ((ZcD (issA (ZcC rcB3))).take 2) ⟨(6,.ptr 6 0)::inT mo (Ls i) l i j,[(6,.box (sa x))]⟩
  (fun s=>Weak s ⟨(21,.agg (sa x))::(20,.func (.yield l) [] [])::inT mo (Ls i) l i j,[]⟩) b3 B3 ?_ rfl ?_ ?_ hs3
 · intro k r hk
   rw [List.getElem?_take]at hk
   split at hk
   · rename_i h7
     obtain ⟨o,h1,h2⟩:=okAt k r hk
     refine ⟨k,o,?_,h1,h2⟩
     match k,h7 with
     |0,_|1,_=>rfl
   · cases hk
 · intro s4 b4 B4 w4 hs4
   obtain ⟨κ4,hk4⟩:=w4 _ _ _ hs4
   obtain ⟨d4,n4,t4,e4⟩:=endG hs4 w4 (fun p hp=>by
    rcases List.mem_cons.1 hp with rfl|hp
    · simp [AV.pure,sa]
    · rcases List.mem_cons.1 hp with rfl|hp
      · simp [AV.pure]
      · exact pI j p hp)
   obtain ⟨o2,ho2,hk2⟩:=okAt 2 _ rfl
   rw [wpOpsIn_cons]
   refine Zcw (R:=Zlu G M5 A5 N none) (l:=l) (f:=.t 20) (y:=.t 21) rfl (by simp [evA,St.tmp,lk]) (by simp [wants]) ho2 hk2 hk4 fun u hu=>?_
   have hpu:PV M5 B4 (.agg (sa x)) u:=by
    have h21:evA (Zlu G M5 A5 N none).G ⟨(21,.agg (sa x))::(20,.func (.yield l) [] [])::inT mo (Ls i) l i j,[]⟩ (.t 21) = .agg (sa x):=by simp [evA,St.tmp,lk]
    rw [h21]at hu
    exact (hu.toPV (by simp [AV.pure,sa])).mono (fun b _ hb=>⟨fun h=>hb (.inl h),rfl⟩) (Nat.le_refl _)
   have hdst:o2.dst=some 22:=by
    simp only [Z1z,Bool.and_eq_true,decide_eq_true_eq]at hk2
    exact hk2.1.1.1
   have suffix:∀ (b:Bool) (T:List (Nat×AV)) (G':Nat→Option (List AV)) (M':Nat→Prop) (A':World),GR G' M' A'→(T=inT mo (Ls i) l i j∨T=[])→(∀ x,M' x→x<A'.heap.size)→TT' M' A' T b4→∀ (Qx:Exit→Act→World→Prop),
     (∀ a5 A5,SR (Zlu G' M' A' N none) ⟨(23,.bool (!b))::T,[]⟩ a5 A5→Qx .normal a5 A5)→wpOpsIn (FW none) n' Tryz.prog ops Qx [3] (b4.put (some 22) (.bool b)) A':=by
    intro b T G' M' A' hGR hTT hM' hT Qx hQx
    have n22:22<N:=by rw [hN];decide
    have hsr:SR (Zlu G' M' A' N none) ⟨(22,.bool b)::T,[]⟩ (b4.put (some 22) (.bool b)) A':=by
     refine Zlv hGR hM' d4 (by simpa [Act.put] using n4) fun k x hx=>?_
     show PV M' A' x ((b4.tmps.setIfInBounds 22 (.bool b)).getD k Go.undef)
     simp only [lk]at hx
     split at hx
     · rename_i e
       subst e
       cases hx
       have:(b4.tmps.setIfInBounds 22 (.bool b)).getD 22 Go.undef = .bool b:=by simp [Array.getD,n4,n22]
       rw [this];exact .bool b
     · rename_i e
       have h3:(b4.tmps.setIfInBounds 22 (.bool b)).getD k Go.undef=b4.tmps.getD k Go.undef:=by
        simp only [Array.getD_eq_getD_getElem?,Array.getElem?_setIfInBounds,if_neg e]
       rw [h3]
       exact hT k x hx
    refine Z27 (R:=Zlu G' M' A' N none) [3] ((ZcD (issA (ZcC rcB3))).drop 3) ⟨(22,.bool b)::T,[]⟩
     (fun e s=>e = .normal∧Weak s ⟨(23,.bool (!b))::T,[]⟩) Qx _ A' ?_ rfl ?_ ?_ hsr
    · intro k r hk
      rw [List.getElem?_drop]at hk
      obtain ⟨o,h1,h2⟩:=okAt (3+k) r hk
      have h7:k<1:=by
       have:=(List.getElem?_eq_some_iff.1 hk).1
       have e:(ZcD (issA (ZcC rcB3))).length=4:=rfl
       omega
      refine ⟨3+k,o,?_,h1,h2⟩
      match k,h7 with
      |0,_=>rfl
    · rintro e s5 a5 A5 ⟨rfl,w5⟩ hs5
      exact hQx a5 A5 (w5 _ _ _ hs5)
    · rcases hTT with rfl|rfl <;> cases b
      all_goals
       simp -implicitDefEqProofs [rcB3,rcI3,rcI,rcB1,rcO3,rcO,lpB,issA,issBk,ZcC,Z7o,inT,ouT,ZcD,ev]
       exact (by (first|exact Weak.tm (by simp [lk,K2s])|exact Weak.sub (by simp [lk,keptA,AV.keys,K2s]) (by simp [lk,keptO,keptA,AV.keys,K2s])))
   obtain ⟨fn,tm,asg,bo,y1,y2⟩:=hY (off i+j) _ u M5 B4 (hJe _ _ _ _ hJ5 e4) helt hpu
   refine ⟨fn,tm,asg,bo,y1,y2.mono ?_⟩
   rintro e A' (⟨rfl,M',hJ',hSi⟩ | ⟨rfl,hK'⟩)
   · show wpOpsIn (FW none) n' Tryz.prog ops _ [3] (b4.put o2.dst (.bool true)) A'
     rw [hdst]
     have hT':TT' M' A' (inT mo (Ls i) l i j) b4:=fun k x hx=>by
      refine (t4 k x ?_).mono hSi.2 hSi.1
      simp only [lk]
      rw [if_neg (by rintro rfl;simp [inT,ouT,lk]at hx),if_neg (by rintro rfl;simp [inT,ouT,lk]at hx)]
      exact hx
     refine suffix true _ G M' A' (hJG _ _ _ hJ') (.inl rfl) (hJM _ _ _ hJ') hT' _ fun a5 A5 h5=>?_
     have ark2:AR Tryz.prog (Zlu G M' A' N none) (ZcC (ZcC rcB3)) ⟨(23,.bool (!true))::inT mo (Ls i) l i j,[]⟩ (fun e s=>e = .normal∧Weak s ⟨inT mo (Ls i) l i j,[]⟩):=by
      refine GO_AR mixed 1000 ?_
      simp -implicitDefEqProofs [rcB3,rcI3,rcI,rcB1,rcO3,rcO,lpB,issA,issBk,ZcC,Z7o,inT,ouT,ev]
      exact (by (first|exact Weak.tm (by simp [lk,K2s])|exact Weak.sub (by simp [lk,keptA,AV.keys,K2s]) (by simp [lk,keptO,keptA,AV.keys,K2s])))
     refine wpIn_mono (ark2 k2 okk2 _ a5 A5 h5) ?_
     rintro e b6 B6 ⟨s6,⟨rfl,w6⟩,hs6⟩
     have ar7:AR Tryz.prog (Zlu G M' A' N none) (ZcC rcI3) ⟨inT mo (Ls i) l i j,[]⟩ (fun e s=>e = .normal∧Weak s ⟨inT mo (Ls i) l i (j+1),[]⟩):=by
      have hli:=hl i
      have w1:IntKind.i64.wrap ((j:Int)+1)=((j+1:Nat):Int):=wrapI (by omega) (by omega)
      refine GO_AR mixed 1000 ?_
      simp -implicitDefEqProofs [rcB3,rcI3,rcI,rcB1,rcO3,rcO,lpB,issA,issBk,ZcC,Z7o,inT,ouT,ev,w1]
      exact (by (first|exact Weak.tm (by simp [lk,K2s])|exact Weak.sub (by simp [lk,keptA,AV.keys,K2s]) (by simp [lk,keptO,keptA,AV.keys,K2s])))
     refine wpIn_mono (ar7 r7 okr7 _ b6 B6 (w6 _ _ _ hs6)) ?_
     rintro e b7 B7 ⟨s7,⟨rfl,w7⟩,hs7⟩
     obtain ⟨d7,n7,t7,e7⟩:=endG hs7 w7 (pI (j+1))
     exact ⟨(Ls i).length-(j+1),by omega,j+1,M',by omega,rfl,hJe _ _ _ _ hJ' e7,d7,n7,t7⟩
   · show wpOpsIn (FW none) n' Tryz.prog ops _ [3] (b4.put o2.dst (.bool false)) A'
     rw [hdst]
     refine suffix false [] (fun _=>none) (fun _=>False) A' (fun g cs hg=>by cases hg) (.inr rfl) (fun _ h=>h.elim) (fun k x hx=>by simp [lk]at hx) _ fun a5 A5 h5=>?_
     have ark2:AR Tryz.prog (Zlu (fun _=>none) (fun _=>False) A' N none) (ZcC (ZcC rcB3)) ⟨[(23,.bool (!false))],[]⟩ (fun e s=>e = .ret∧Weak s ⟨[],[]⟩):=by
      refine GO_AR mixed 1000 ?_
      simp -implicitDefEqProofs [rcB3,rcI3,rcI,rcB1,rcO3,rcO,lpB,issA,issBk,ZcC,Z7o,inT,ouT]
      exact (by (first|exact Weak.tm (by simp [lk])|exact Weak.sub (by simp [lk,keptA,AV.keys]) (by simp [lk,keptO,keptA,AV.keys])))
     refine wpIn_mono (ark2 k2 okk2 _ a5 A5 h5) ?_
     rintro e b6 B6 ⟨s6,⟨rfl,w6⟩,hs6⟩
     obtain ⟨d6,-,-,e6⟩:=endG hs6 w6 (by simp)
     exact (hfin b6 B6 d6 (.inr (hKe _ _ hK' e6))).1
 · simp -implicitDefEqProofs [rcB3,rcI3,rcI,rcB1,rcO3,rcO,lpB,issA,issBk,ZcC,Z7o,inT,ouT,ZcD,ev,hsa]
   exact (by (first|exact Weak.tm (by simp [lk,K2s])|exact Weak.sub (by simp [lk,keptA,AV.keys,K2s]) (by simp [lk,keptO,keptA,AV.keys,K2s])))
end
theorem Zlx {r:List Iss} {l:List Nte} {q:List Rul} {s:List Int} {m day:Int} (h:chS r l q=0):(st5 r l q s m day).length≤100:=by
 obtain ⟨hN,hR⟩:=ZiF h
 have h1:=Zil (Zij hN)
 have h2:=ZiG hR
 have h3:=ZiW (stF r l s m day) (dyN day l) (dyN day l).length (Nat.le_refl _)
 have h4:=ZiX day q q.length (Nat.le_refl _)
 have h5:=ZiJ day l
 unfold st5
 rw [List.length_append]
 omega
section
variable {G:Nat→Option (List AV)}
theorem Zly (hG:GC G) (hN:GN G) (hQ:GQ G) (r:List Iss) (l:List Nte) (q:List Rul) (s:List Int) (m day:Int) (hw:WfN l) (hr:Wf r) (hq:Sml q) (hs:Sml s) :
  PC Tryz.prog G 11 [swa r l q,.vsl (s.map ia),.int .i64 m,.int .i64 day] (stA r l q s m day):=by
 refine Zlt hG hN r l q s m day hw hr hq hs (fun h ht=>?_) Zlx
 obtain ⟨hN0,hR⟩:=ZiF h
 have hB:=Zij hN0
 have h12:=Zil hB
 have h16:=ZiG hR
 have pS:(shopA r l q).pure=true:=by unfold shopA rfA;split <;> simp [AV.pure,isa,na,ra,rfa]
 have hn:=ZjA hG hN r l q s m day hw hr h12 hs (dyK day l) (ZjN day l) ZjP (fun h=>ZjQ h)
 have hru:=ZjE (G:=G) r l q s m day h16
 have e:=ZjX (m:=m) (day:=day) h ht
 have l1:=Zjs (fcE r (l.take (dyK day l)) (sortI (tnN l s (dyK day l))) m).1 (l.take (dyK day l)) (l.take (dyK day l)).length (Nat.le_refl _)
 have l2:=ZjD day q q.length (Nat.le_refl _)
 have l3:(l.take (dyK day l)).length≤12:=by simp;omega
 rw [← e]
 generalize nsP (fcE r (l.take (dyK day l)) (sortI (tnN l s (dyK day l))) m).1 (l.take (dyK day l)) (l.take (dyK day l)).length=A at *
 generalize rsP day q q.length=B at *
 exact Zlw hQ (moC r l q s m day) (by simp [moC,pS,AV.pure]) rfl (fun i=>if i=0 then A else B) (fun i=>by show (if i=0 then A else B).length≤100;split <;> omega) hn hru
end
theorem Zlz (E:List (Rf×Rf)) (y:Rf):(lnC E y).pure=true:=by simp [lnC,AV.pure,knA]
theorem ZlA (E:List (Rf×Rf)) (y:Rf):(lnC E y).keys=[]:=by simp [lnC,AV.keys]
def puN (r:List Iss) (l:List Nte) (q:List Rul) (s:List Int) (m d:Int) (a b:Rf):Int:=if aqN r l q s m d d=0 then if (knB r a.1 a.2&&knB r b.1 b.2)=true then 0 else 6 else aqN r l q s m d d
theorem ZlB {r:List Iss} {l:List Nte} {q:List Rul} {s:List Int} {m d:Int} {a b:Rf} (h:puN r l q s m d a b=0):aqN r l q s m d d=0∧knB r a.1 a.2=true∧knB r b.1 b.2=true:=by
 unfold puN at h
 split at h
 · rename_i h0
   split at h
   · rename_i h1
     rw [Bool.and_eq_true]at h1
     exact ⟨h0,h1⟩
   · cases h
 · rename_i h0;exact absurd h h0
def rcL (r:List Iss) (L:List Stq) (t:Bool) (x:Rf):List Rf:=(rfs r).filter fun y=>!decide (diV (edT t L) x y=1048576)
theorem dlO_V (κ:Nat) (p:Rf→Bool) (l:List Rf) (ok:Nat→Bool) (st:St) (hg:st.get κ=some (.row 2 (dlO p l))) (hk:ok κ=true):snapF ok st 6 (dlV κ p l)=some (.vsl ((l.filter fun x=>!p x).map ita)):=by
 have hp:∀ l:List Rf,(l.map ita).all (fun r=>r.all AV.pure)=true:=fun l=>by simp [ita,AV.pure]
 have hfl:(l.filter fun x=>!p x).length≤l.length:=List.length_filter_le _ _
 unfold dlV dlO at *
 cases ha:l.any p with
 | true =>
   rw [ha]at hg
   simp only [if_true]at hg ⊢
   have hlen:((l.filter fun x=>!p x).map ita++List.replicate (l.length-(l.filter fun x=>!p x).length) zrF).length=l.length:=by simp;omega
   have ht:List.take (l.filter fun x=>!p x).length ((l.filter fun x=>!p x).map ita++List.replicate (l.length-(l.filter fun x=>!p x).length) zrF)=(l.filter fun x=>!p x).map ita:=List.take_left' (by simp)
   simp only [snapF,hg,hk,hlen,and_self,if_true,ht,List.drop_zero,hp]
 | false =>
   rw [ha]at hg
   simp only [Bool.false_eq_true,if_false]at hg ⊢
   have e:(l.filter fun x=>!p x)=l:=by
    rw [List.filter_eq_self]
    intro x hx
    rw [List.any_eq_false]at ha
    simpa using ha x hx
   simp only [snapF,hg,hk,List.length_map,and_self,if_true,hp,e]
section
variable {G:Nat→Option (List AV)}
theorem ZlC (hG:GC G) (hN:GN G) (hQ:GQ G) (r:List Iss) (l:List Nte) (q:List Rul) (s:List Int) (m day:Int) (hw:WfN l) (hr:Wf r) (hq:Sml q) (hs:Sml s) (h:chS r l q=0) (ht:truB l s=true) :
  IterG Tryz.prog G 81 [.vptr (moC r l q s m day) 0] ((st5 r l q s m day).map fun x=>.agg (sa x)):=by
 obtain ⟨hN0,hR⟩:=ZiF h
 have hB:=Zij hN0
 have h12:=Zil hB
 have h16:=ZiG hR
 have pS:(shopA r l q).pure=true:=by unfold shopA rfA;split <;> simp [AV.pure,isa,na,ra,rfa]
 have hn:=ZjA hG hN r l q s m day hw hr h12 hs (dyK day l) (ZjN day l) ZjP (fun h=>ZjQ h)
 have hru:=ZjE (G:=G) r l q s m day h16
 have e:=ZjX (m:=m) (day:=day) h ht
 have l1:=Zjs (fcE r (l.take (dyK day l)) (sortI (tnN l s (dyK day l))) m).1 (l.take (dyK day l)) (l.take (dyK day l)).length (Nat.le_refl _)
 have l2:=ZjD day q q.length (Nat.le_refl _)
 have l3:(l.take (dyK day l)).length≤12:=by simp;omega
 rw [← e]
 generalize nsP (fcE r (l.take (dyK day l)) (sortI (tnN l s (dyK day l))) m).1 (l.take (dyK day l)) (l.take (dyK day l)).length=A at *
 generalize rsP day q q.length=B at *
 exact Zlw hQ (moC r l q s m day) (by simp [moC,pS,AV.pure]) rfl (fun i=>if i=0 then A else B) (fun i=>by show (if i=0 then A else B).length≤100;split <;> omega) hn hru
theorem ZlD (hG:GC G) (hN:GN G) (r:List Iss) (l:List Nte) (q:List Rul) (s:List Int) (m day a1 a2 b1 b2:Int) (hw:WfN l) (hr:Wf r) (hq:Sml q) (hs:Sml s) :
  PC Tryz.prog G 53 [swa r l q,.vsl (s.map ia),.int .i64 m,.int .i64 day,.agg [.int .i64 a1,.int .i64 a2],.agg [.int .i64 b1,.int .i64 b2]]
   (.tup [.agg (if puN r l q s m day (a1,a2) (b1,b2)=0 then moC r l q s m day else [.nilp,.nils,.int .i64 0,.int .i64 0]),.int .i64 (puN r l q s m day (a1,a2) (b1,b2))]):=by
 have ha:=ZjG hG hN r l q s m day day hw hr hq hs
 have h1:=Zjh (G:=G) r l q a1 a2 hr.1.1
 have h2:=Zjh (G:=G) r l q b1 b2 hr.1.1
 have pS:(shopA r l q).pure=true:=by unfold shopA rfA;split <;> simp [AV.pure,isa,na,ra,rfa]
 have kS:(shopA r l q).keys=[]:=by unfold shopA;simp [AV.keys]
 unfold moA swa at ha
 (refine Z5T rfl fun R hG hrd=>GO_AR mixed 1000 ?_;subst hG)
 unfold puN
 by_cases h0:aqN r l q s m day day=0
 · rw [if_pos h0,h0]at ha
   rw [if_pos h0]
   obtain ⟨cs,eS⟩ : ∃ cs,shopA r l q = .vptr cs 0:=⟨_,rfl⟩
   unfold moC at *
   rw [eS]at ha h1 h2 pS kS ⊢
   simp -implicitDefEqProofs [Z5R,Z5S,swa]
   (first|refine CallK.of (ha) (by simp) ?_|refine CallD.of (ha) (by simp) ?_)
   simp -implicitDefEqProofs []
   refine CallK.of h1 (by simp [AV.pure]at pS ⊢;try simp [pS]) ?_
   cases c1:knB r a1 a2
   · simp -implicitDefEqProofs []
   · simp -implicitDefEqProofs []
     refine CallK.of h2 (by simp [AV.pure]at pS ⊢;try simp [pS]) ?_
     cases c2:knB r b1 b2
     · simp -implicitDefEqProofs []
     · simp -implicitDefEqProofs []
 · rw [if_neg h0]at ha
   rw [if_neg h0,if_neg h0]
   simp -implicitDefEqProofs [Z5R,Z5S,swa]
   (first|refine CallK.of (ha) (by simp) ?_|refine CallD.of (ha) (by simp) ?_)
   simp -implicitDefEqProofs [h0]
theorem ZlE (hG:GC G) (hN:GN G) (hQ:GQ G) (r:List Iss) (l:List Nte) (q:List Rul) (s:List Int) (m day a1 a2 b1 b2:Int) (hw:WfN l) (hr:Wf r) (hq:Sml q) (hs:Sml s) (h:chS r l q=0) (ht:truB l s=true) :
  PC Tryz.prog G 55 [.agg (moC r l q s m day),.agg [.int .i64 a1,.int .i64 a2],.agg [.int .i64 b1,.int .i64 b2]] (.bool (decide (diV (edg (st5 r l q s m day)) (b1,b2) (a1,a2)<1048576))):=by
 have pS:(shopA r l q).pure=true:=by unfold shopA rfA;split <;> simp [AV.pure,isa,na,ra,rfa]
 have pM:(AV.vptr (moC r l q s m day) 0).pure=true:=by simp [AV.pure,moC,pS]
 have hlen:=Zlx (s:=s) (m:=m) (day:=day) h
 have hf:=Zls (G:=G) r l q s m day
 have hc:=Zlr _ _ _ (by simpa using pM) (ZlC hG hN hQ r l q s m day hw hr hq hs h ht) hlen
 have hln:=PC.sub (Zl1 (G:=G) (st5 r l q s m day) false b1 b2 (by omega)) (xs:=[orNil ((st5 r l q s m day).map sa),.agg [.int .i64 b1,.int .i64 b2],.bool false]) ⟨.orNil _,.rfl',.rfl',trivial⟩
 have hv:=Zl0 (G:=G) (edg (st5 r l q s m day)) (b1,b2) a1 a2
 have pV:=Zfm (l:=(st5 r l q s m day).map sa) (by simp [sa,AV.pure])
 have e1:edT false (st5 r l q s m day)=edg (st5 r l q s m day):=rfl
 rw [e1,lnF]at hln
 have pC:=Zlz (edg (st5 r l q s m day)) (b1,b2)
 have kC:=ZlA (edg (st5 r l q s m day)) (b1,b2)
 have kV:=Zfn ((st5 r l q s m day).map sa)
 replace hv:PC Tryz.prog G 95 [.agg [.int .i64 a1,.int .i64 a2],lnC (edg (st5 r l q s m day)) (b1,b2)] _:=hv
 generalize lnC (edg (st5 r l q s m day)) (b1,b2)=C at *
 generalize orNil ((st5 r l q s m day).map sa)=V at *
 generalize diV (edg (st5 r l q s m day)) (b1,b2) (a1,a2)=D at *
 (refine Z62 rfl fun R hG hrd=>GO_AR mixed 1000 ?_;subst hG)
 obtain ⟨cs,eS⟩ : ∃ cs,shopA r l q = .vptr cs 0:=⟨_,rfl⟩
 unfold moC at *
 rw [eS]at hf hc pS pM ⊢
 simp -implicitDefEqProofs [Z60,Z61]
 refine CallD.of hf (by simp [AV.pure]at pS ⊢;try simp [pS]) ?_
 simp -implicitDefEqProofs []
 refine CallD.of hc (by simp [AV.pure]at pS ⊢;try simp [pS]) ?_
 simp -implicitDefEqProofs []
 refine CallD.of hln (by simp [pV,AV.pure]) ?_
 simp -implicitDefEqProofs []
 refine CallD.of hv (by simp [pC,AV.pure]) ?_
 simp -implicitDefEqProofs [kC,kV]
 rfl
theorem ZlF (E:List (Rf×Rf)) (x:Rf) (d e:Int):PC Tryz.prog G 100 [.agg [.int .i64 d,.int .i64 e],.vptr [lnF E x] 0] (.bool (decide (diV E x (d,e)=1048576))):=by
 have hv:=Zl0 (G:=G) E x d e
 have pC:=Zlz E x
 replace hv:PC Tryz.prog G 95 [.agg [.int .i64 d,.int .i64 e],lnC E x] _:=hv
 unfold lnF
 generalize lnC E x=C at *
 generalize diV E x (d,e)=D at *
 (refine Z6n rfl fun R hG hrd=>GO_AR mixed 1000 ?_;subst hG)
 simp -implicitDefEqProofs [Z6l,Z6m]
 refine CallK.of hv (by simp [pC,AV.pure]) ?_
 simp -implicitDefEqProofs []
end
theorem ZlG {r:List Iss} (h:r≠[]):rfA r = .vsl ((rfs r).map ita):=by rw [rfA,if_neg h,Zkc]
theorem ZlH (ρ:Nat→Nat) (p:Rf→Bool) (l:List Rf):(AObj.row 2 (dlO p l)).ren ρ = .row 2 (dlO p l):=by
 refine AObj.ren_pure ?_
 unfold dlO
 split <;> simp [ita,zrF,AV.pure]
theorem ZlI (κ:Nat) (p:Rf→Bool) (l:List Rf):(dlV 1000 p l).ren (fun _=>κ)=dlV κ p l:=by
 unfold dlV
 split <;> simp [AV.ren]
def rcD (E:List (Rf×Rf)) (x:Rf):Rf→Bool:=fun y=>decide (diV E x y=1048576)
section
variable {G:Nat→Option (List AV)}
set_option maxHeartbeats 1000000 in
theorem ZlJ (hG:GC G) (hN:GN G) (hQ:GQ G) (r:List Iss) (l:List Nte) (q:List Rul) (s:List Int) (m day x1 x2:Int) (t:Bool) (hw:WfN l) (hr:Wf r) (hq:Sml q) (hs:Sml s) (h:chS r l q=0) (ht:truB l s=true) (hne:r≠[]) (h80:r.length≤1000) :
  PC Tryz.prog G 65 [.agg (moC r l q s m day),.agg [.int .i64 x1,.int .i64 x2],.bool t] (.vsl ((rcL r (st5 r l q s m day) t (x1,x2)).map ita)):=by
 have pS:(shopA r l q).pure=true:=by unfold shopA rfA;split <;> simp [AV.pure,isa,na,ra,rfa]
 have pM:(AV.vptr (moC r l q s m day) 0).pure=true:=by simp [AV.pure,moC,pS]
 have hlen:=Zlx (s:=s) (m:=m) (day:=day) h
 have hf:=Zls (G:=G) r l q s m day
 have hc:=Zlr _ _ _ (by simpa using pM) (ZlC hG hN hQ r l q s m day hw hr hq hs h ht) hlen
 have hln:=PC.sub (Zl1 (G:=G) (st5 r l q s m day) t x1 x2 (by omega)) (xs:=[orNil ((st5 r l q s m day).map sa),.agg [.int .i64 x1,.int .i64 x2],.bool t]) ⟨.orNil _,.rfl',.rfl',trivial⟩
 have hv:=fun d e=>ZlF (G:=G) (edT t (st5 r l q s m day)) (x1,x2) d e
 have pV:=Zfm (l:=(st5 r l q s m day).map sa) (by simp [sa,AV.pure])
 have kV:=Zfn ((st5 r l q s m day).map sa)
 have hres:rcL r (st5 r l q s m day) t (x1,x2)=(rfs r).filter fun y=>!rcD (edT t (st5 r l q s m day)) (x1,x2) y:=rfl
 rw [hres]
 have hD:∀ d e,rcD (edT t (st5 r l q s m day)) (x1,x2) (d,e)=decide (diV (edT t (st5 r l q s m day)) (x1,x2) (d,e)=1048576):=fun d e=>rfl
 simp only [← hD]at hv
 have eF:lnF (edT t (st5 r l q s m day)) (x1,x2) = .func (.func 95) [] [lnC (edT t (st5 r l q s m day)) (x1,x2)]:=rfl
 rw [eF]at hln hv
 have pC:=Zlz (edT t (st5 r l q s m day)) (x1,x2)
 have kC:=ZlA (edT t (st5 r l q s m day)) (x1,x2)
 have sC:∀ ok st n,snapF ok st n (lnC (edT t (st5 r l q s m day)) (x1,x2))=some (lnC (edT t (st5 r l q s m day)) (x1,x2)):=fun ok st n=>by
  have:=pC
  unfold lnC at *
  cases n <;> simp [snapF,this]
 have rC:=fun ρ=>AV.ren_pure (ρ:=ρ) _ pC
 generalize lnC (edT t (st5 r l q s m day)) (x1,x2)=C at *
 generalize orNil ((st5 r l q s m day).map sa)=V at *
 generalize hp:rcD (edT t (st5 r l q s m day)) (x1,x2)=p at *
 have hcl:=Zlf (G:=G) (rfs r) (by simpa [rfs] using hne) (by unfold Sml;simp [rfs];omega)
 have hdl:=Zlg (G:=G) 100 [.func (.func 95) [] [C]] p (rfs r) (by simp [AV.pure,pC]) (by simp [AV.keys,kC]) (by simpa [rfs] using h80) (fun y _=>hv y.1 y.2)
 have pRF:(AV.vsl ((rfs r).map ita)).pure=true:=by simp [AV.pure,ita]
 have lRF:(rfs r).length=r.length:=by simp [rfs]
 obtain ⟨cs,eS⟩ : ∃ cs,shopA r l q = .vptr cs 0:=⟨_,rfl⟩
 have eC:cs=[.vsl (r.map isa),.vsl (l.map na),.vsl (q.map ra),.vsl ((rfs r).map ita)]:=by
  unfold shopA at eS
  rw [ZlG hne]at eS
  injection eS with e1 _
  exact e1.symm
 refine Z6k rfl fun R hG hrd=>GO_AR mixed 6 ?_
 subst hG
 unfold moC at *
 rw [eS]at hf hc pS pM ⊢
 simp -implicitDefEqProofs [Z6i,Z6j]
 refine CallD.of hf (by simp [AV.pure]at pS ⊢;try simp [pS]) ?_
 simp -implicitDefEqProofs []
 refine CallD.of hc (by simp [AV.pure]at pS ⊢;try simp [pS]) ?_
 simp -implicitDefEqProofs []
 refine CallD.of hln (by simp [pV,AV.pure]) ?_
 simp -implicitDefEqProofs [kC,kV]
 refine ⟨rfl,GO0 (Z2M (st':=⟨[(7,.vptr [.func (.func 95) [] [C]] 0),(3,.ptr 3 0)],[(3,.box [.vptr cs 0,.vsl (s.map ia),.int .i64 m,.int .i64 day])]⟩) (Weak.trans (Weak.frz (fun k=>k == 7) _) ?_) ?_)⟩
 · ((try simp only [frzSt,frzA,frzO,frz,snapF,snapL,St.get,AV.pure,sC,pC,kC]);refine Weak.sub (by simp [lk,keptA,AV.keys,frzSt,frzA,frzO,frz,snapF,snapL,St.get,AV.pure,sC,pC,kC]) ?_;simp only [frzSt,frzA,frzO,frz,snapF,snapL,St.get,AV.pure,sC,pC,kC,Wkl,and_true];(try simp [lk,keptO,keptA,AV.keys,frzSt,frzA,frzO,frz,snapF,snapL,St.get,AV.pure,sC,pC,kC]))
 subst eC
 refine GO_AR mixed 1000 ?_
 simp -implicitDefEqProofs []
 refine CallK.sem (Z1B.objs hcl (fun _=>19) (by simp) (by simp [St.get,lk]) (by simp [AV.pure,ita]) rfl rfl) ?_
 simp -implicitDefEqProofs [AV.ren,setsB,Zdq]
 refine CallK.sem (Z1B.byref hdl (fun _=>19) (by simp) (by simp) (by simp [St.get,lk,Zdq]) (by simp [Zkd]) (by simp [keptA,AV.keys,lk,kC]) rfl (by simp [AV.ren,rC]) rfl rfl) ?_
 have hsn:=fun ok st hg hk=>dlO_V 19 p (rfs r) ok st hg hk
 simp -implicitDefEqProofs [setsB,ZlH,ZlI]
 refine Z2N mixed 1000 ?_
 simp -implicitDefEqProofs []
 rw [hsn _ _ (by simp [St.get,lk]) rfl]
 exact ⟨_,rfl,rfl⟩
theorem ZlK {r:List Iss} {d e:Int} (h:knB r d e=true):r≠[]:=by
 rintro rfl
 simp [knB,findN]at h
def liR (l:List Rf):AV:=.vsl (l.map ita)
def maE (r:List Iss) (l:List Nte) (q:List Rul) (s:List Int) (m day:Int) (a b:Rf):AV :=
 .tup [.bool (if puN r l q s m day a b=0 then decide (diV (edg (st5 r l q s m day)) b a<1048576) else false),.int .i64 (puN r l q s m day a b)]
def foE (r:List Iss) (l:List Nte) (q:List Rul) (s:List Int) (m day:Int) (t:Bool) (x:Rf):AV :=
 .tup [if puN r l q s m day x x=0 then liR (rcL r (st5 r l q s m day) t x) else .nils,.int .i64 (puN r l q s m day x x)]
theorem ZlL (hG:GC G) (hN:GN G) (hQ:GQ G) (r:List Iss) (l:List Nte) (q:List Rul) (s:List Int) (m day a1 a2 b1 b2:Int) (hw:WfN l) (hr:Wf r) (hq:Sml q) (hs:Sml s) :
  PC Tryz.prog G 20 [swa r l q,.vsl (s.map ia),.int .i64 m,.int .i64 day,.agg [.int .i64 a1,.int .i64 a2],.agg [.int .i64 b1,.int .i64 b2]] (maE r l q s m day (a1,a2) (b1,b2)):=by
 have hp:=ZlD hG hN r l q s m day a1 a2 b1 b2 hw hr hq hs
 unfold swa at hp
 unfold maE
 (refine Z65 rfl fun R hG hrd=>GO_AR mixed 1000 ?_;subst hG)
 by_cases h0:puN r l q s m day (a1,a2) (b1,b2)=0
 · obtain ⟨h1,h2,h3⟩:=ZlB h0
   have hz:=Zj3 h1
   have hm:=ZlE hG hN hQ r l q s m day a1 a2 b1 b2 hw hr hq hs hz.1 hz.2.1
   have pS:(shopA r l q).pure=true:=by unfold shopA rfA;split <;> simp [AV.pure,isa,na,ra,rfa]
   rw [if_pos h0,h0]at hp
   rw [if_pos h0,h0]
   obtain ⟨cs,eS⟩ : ∃ cs,shopA r l q = .vptr cs 0:=⟨_,rfl⟩
   unfold moC at *
   rw [eS]at hp hm pS
   simp -implicitDefEqProofs [Z63,Z64,swa]
   (first|refine CallK.of (hp) (by simp) ?_|refine CallD.of (hp) (by simp) ?_)
   simp -implicitDefEqProofs []
   refine CallK.of hm (by simp [AV.pure]at pS ⊢;try simp [pS]) ?_
   simp -implicitDefEqProofs []
 · rw [if_neg h0]at hp
   rw [if_neg h0]
   simp -implicitDefEqProofs [Z63,Z64,swa]
   (first|refine CallK.of (hp) (by simp) ?_|refine CallD.of (hp) (by simp) ?_)
   simp -implicitDefEqProofs [h0]
theorem ZlM (hG:GC G) (hN:GN G) (hQ:GQ G) (r:List Iss) (l:List Nte) (q:List Rul) (s:List Int) (m day a1 a2:Int) (hw:WfN l) (hr:Wf r) (hq:Sml q) (hs:Sml s) (h80:r.length≤1000) :
  PC Tryz.prog G 24 [swa r l q,.vsl (s.map ia),.int .i64 m,.int .i64 day,.agg [.int .i64 a1,.int .i64 a2]] (foE r l q s m day false (a1,a2)):=by
 have hp:=ZlD hG hN r l q s m day a1 a2 a1 a2 hw hr hq hs
 unfold swa at hp
 unfold foE liR
 (refine Z6v rfl fun R hG hrd=>GO_AR mixed 1000 ?_;subst hG)
 by_cases h0:puN r l q s m day (a1,a2) (a1,a2)=0
 · obtain ⟨h1,h2,h3⟩:=ZlB h0
   have hz:=Zj3 h1
   have hm:=ZlJ hG hN hQ r l q s m day a1 a2 false hw hr hq hs hz.1 hz.2.1 (ZlK h2) h80
   have pS:(shopA r l q).pure=true:=by unfold shopA rfA;split <;> simp [AV.pure,isa,na,ra,rfa]
   have pL:(AV.vsl ((rcL r (st5 r l q s m day) false (a1,a2)).map ita)).pure=true:=by simp [AV.pure,ita]
   rw [if_pos h0,h0]at hp
   rw [if_pos h0,h0]
   obtain ⟨cs,eS⟩ : ∃ cs,shopA r l q = .vptr cs 0:=⟨_,rfl⟩
   unfold moC at *
   rw [eS]at hp hm pS
   generalize rcL r (st5 r l q s m day) false (a1,a2)=L at *
   simp -implicitDefEqProofs [Z6t,Z6u,swa]
   (first|refine CallK.of (hp) (by simp) ?_|refine CallD.of (hp) (by simp) ?_)
   simp -implicitDefEqProofs []
   refine CallK.of hm (by simp [AV.pure]at pS ⊢;try simp [pS]) ?_
   simp -implicitDefEqProofs [ita]
 · rw [if_neg h0]at hp
   rw [if_neg h0]
   simp -implicitDefEqProofs [Z6t,Z6u,swa]
   (first|refine CallK.of (hp) (by simp) ?_|refine CallD.of (hp) (by simp) ?_)
   simp -implicitDefEqProofs [h0]
theorem ZlN (hG:GC G) (hN:GN G) (hQ:GQ G) (r:List Iss) (l:List Nte) (q:List Rul) (s:List Int) (m day a1 a2:Int) (hw:WfN l) (hr:Wf r) (hq:Sml q) (hs:Sml s) (h80:r.length≤1000) :
  PC Tryz.prog G 26 [swa r l q,.vsl (s.map ia),.int .i64 m,.int .i64 day,.agg [.int .i64 a1,.int .i64 a2]] (foE r l q s m day true (a1,a2)):=by
 have hp:=ZlD hG hN r l q s m day a1 a2 a1 a2 hw hr hq hs
 unfold swa at hp
 unfold foE liR
 (refine Z6y rfl fun R hG hrd=>GO_AR mixed 1000 ?_;subst hG)
 by_cases h0:puN r l q s m day (a1,a2) (a1,a2)=0
 · obtain ⟨h1,h2,h3⟩:=ZlB h0
   have hz:=Zj3 h1
   have hm:=ZlJ hG hN hQ r l q s m day a1 a2 true hw hr hq hs hz.1 hz.2.1 (ZlK h2) h80
   have pS:(shopA r l q).pure=true:=by unfold shopA rfA;split <;> simp [AV.pure,isa,na,ra,rfa]
   rw [if_pos h0,h0]at hp
   rw [if_pos h0,h0]
   obtain ⟨cs,eS⟩ : ∃ cs,shopA r l q = .vptr cs 0:=⟨_,rfl⟩
   unfold moC at *
   rw [eS]at hp hm pS
   generalize rcL r (st5 r l q s m day) true (a1,a2)=L at *
   simp -implicitDefEqProofs [Z6w,Z6x,swa]
   (first|refine CallK.of (hp) (by simp) ?_|refine CallD.of (hp) (by simp) ?_)
   simp -implicitDefEqProofs []
   refine CallK.of hm (by simp [AV.pure]at pS ⊢;try simp [pS]) ?_
   simp -implicitDefEqProofs [ita]
 · rw [if_neg h0]at hp
   rw [if_neg h0]
   simp -implicitDefEqProofs [Z6w,Z6x,swa]
   (first|refine CallK.of (hp) (by simp) ?_|refine CallD.of (hp) (by simp) ?_)
   simp -implicitDefEqProofs [h0]
end
theorem ZlO {r:List Iss} {l:List Nte} {q:List Rul} (h:chS r l q=0):r.length≤60∧l.length≤16∧(l.map (·.nu)).Nodup∧q.length≤16:=by
 obtain ⟨h1,h2⟩:=ZiF h
 have hB:=Zij h1
 exact ⟨Zkx (ZkB h),by have:=Zil hB;omega,ZhV hB,ZiG h2⟩
theorem ZlP (r:List Iss):(rfs r).length=r.length:=by simp [rfs]
section
variable {G:Nat→Option (List AV)}
theorem ZlQ (r:List Iss) (l:List Nte) (q:List Rul) (s:List Int) (m day a1 a2 b1 b2:Int) (hw:WfN l) (hr:Wf r) (hq:Sml q) (hs:Sml s) :
  PC Tryz.prog G 56 [swa r l q,.vsl (s.map ia),.int .i64 m,.int .i64 day,.agg [.int .i64 a1,.int .i64 a2],.agg [.int .i64 b1,.int .i64 b2]] (.int .i64 (puN r l q s m day (a1,a2) (b1,b2))):=by
 have ha:=ZiZ (G:=G) r l q s m day day hw hr hq hs
 have h1:=Ziq (G:=G) r a1 a2 hr.1.1
 have h2:=Ziq (G:=G) r b1 b2 hr.1.1
 unfold swa at ha
 (refine Z5y rfl fun R hG hrd=>GO_AR mixed 1000 ?_;subst hG)
 unfold puN
 by_cases h0:aqN r l q s m day day=0
 · rw [h0]at ha
   rw [if_pos h0]
   simp -implicitDefEqProofs [Z5w,Z5x,swa]
   (first|refine CallK.of (ha) (by simp) ?_|refine CallD.of (ha) (by simp) ?_)
   simp -implicitDefEqProofs []
   (first|refine CallK.of (h1) (by simp) ?_|refine CallD.of (h1) (by simp) ?_)
   cases c1:knB r a1 a2
   · simp -implicitDefEqProofs []
   · simp -implicitDefEqProofs []
     (first|refine CallK.of (h2) (by simp) ?_|refine CallD.of (h2) (by simp) ?_)
     cases c2:knB r b1 b2
     · simp -implicitDefEqProofs []
     · simp -implicitDefEqProofs []
 · rw [if_neg h0]
   simp -implicitDefEqProofs [Z5w,Z5x,swa]
   (first|refine CallK.of (ha) (by simp) ?_|refine CallD.of (ha) (by simp) ?_)
   simp -implicitDefEqProofs [h0]
theorem ZlR (r:List Iss) (l:List Nte) (q:List Rul) (s:List Int) (m day y1 y2:Int) (h:chS r l q=0) (hy:(y1,y2)∈rfs r) :
  PC Tryz.prog G 63 [.vsl ((rfs r).map ita),orNil ((st5 r l q s m day).map sa),.agg [.int .i64 y1,.int .i64 y2]] (.vsl (((rfs r).map (diV (edg (st5 r l q s m day)) (y1,y2))).map ia)):=by
 have hl:=ZlO h
 have hn:=ZlP r
 have hlen:=Zlx (s:=s) (m:=m) (day:=day) h
 exact PC.sub (Zkp (G:=G) (rfs r) (st5 r l q s m day) y1 y2 (by omega) (by omega) (Zkt (ZkB h)) hy (ZkA h)) ⟨.rfl',.orNil _,.rfl',trivial⟩
theorem ZlS (r:List Iss) (l:List Nte) (q:List Rul) (s:List Int) (m day a1 a2 b1 b2:Int) (hw:WfN l) (hr:Wf r) (hs:Sml s) (h:chS r l q=0) (hA:(a1,a2)∈rfs r) (hB:(b1,b2)∈rfs r) :
  PC Tryz.prog G 58 [swa r l q,.vsl (s.map ia),.int .i64 m,.int .i64 day,.agg [.int .i64 a1,.int .i64 a2],.agg [.int .i64 b1,.int .i64 b2]] (.bool (decide (diV (edg (st5 r l q s m day)) (b1,b2) (a1,a2)<1048576))):=by
 obtain ⟨h1,h2,h3,h4⟩:=ZlO h
 have hn:=ZlP r
 have hne:r≠[]:=by rintro rfl;simp [rfs]at hA
 have hR:=Zkg (G:=G) r hr.1.1
 have hS:=Zj2 (G:=G) r l q s m day hw hr h4 hs h3 h2
 have hL:=ZlR (G:=G) r l q s m day b1 b2 h hB
 have hAt:=Zke (G:=G) (rfs r) a1 a2 (by unfold Sml;omega)
 obtain ⟨k,k1,k2,k3⟩:=Zkh hA
 rw [k2]at hAt
 rw [ZlG hne]at hR
 have pV:=Zfm (l:=(st5 r l q s m day).map sa) (by simp [sa,AV.pure])
 have kV:=Zfn ((st5 r l q s m day).map sa)
 generalize orNil ((st5 r l q s m day).map sa)=V at *
 have e1:((rfs r).map (diV (edg (st5 r l q s m day)) (b1,b2)))[k]? = some (diV (edg (st5 r l q s m day)) (b1,b2) (a1,a2)):=by rw [List.getElem?_map,k3];rfl
 have lN:((rfs r).map (diV (edg (st5 r l q s m day)) (b1,b2))).length=r.length:=by simp [rfs]
 generalize (rfs r).map (diV (edg (st5 r l q s m day)) (b1,b2))=NL at *
 generalize diV (edg (st5 r l q s m day)) (b1,b2) (a1,a2)=D at *
 obtain ⟨q1,g1⟩:=List.getElem?_eq_some_iff.1 e1
 have kr:k<r.length:=by omega
 unfold swa at *
 (refine Z5B rfl fun R hG hrd=>GO_AR mixed 1000 ?_;subst hG)
 simp -implicitDefEqProofs [Z5z,Z5A]
 (first|refine CallK.of (hR) (by simp) ?_|refine CallD.of (hR) (by simp) ?_)
 simp -implicitDefEqProofs []
 refine CallD.of hS (by simp [AV.pure,isa,na,ra]) ?_
 simp -implicitDefEqProofs []
 refine CallD.of hL (by simp [AV.pure,ita,pV]) ?_
 simp -implicitDefEqProofs []
 refine CallD.of hAt (by simp [AV.pure,ita]) ?_
 simp -implicitDefEqProofs [q1,g1,lN,kr,ia,kV]
 rfl
def acM (l:List Rf):List (List AV):=l.map ita
theorem ZlT (l:List Rf) (x:Rf):acM (l++[x])=acM l++[[.int .i64 x.1,.int .i64 x.2]]:=by simp [acM,ita]
theorem ZlU (l:List Rf):(acM l).length=l.length:=List.length_map _
theorem ZlV (o:List (Nat×AObj)) (l:List Rf):keptO o (.row 2 (acM l))=true:=Zkd o l
theorem ZlW (l:List Rf):(acM l).all (fun r=>r.all AV.pure)=true:=by simp [acM,ita,AV.pure]
def pcS (sw:AV) (y:Rf) (l:List Rf) (NL:List Int) (acc:List Rf) (i:Nat):St :=
 if acc=[] then ⟨[(14,.int .i64 i),(13,.vsl (NL.map ia)),(12,.vsl (l.map ita)),(11,.nils)],[]⟩
 else ⟨[(14,.int .i64 i),(13,.vsl (NL.map ia)),(12,.vsl (l.map ita)),(11,.osl 44 acc.length)],[(44,.row 2 (acM acc))]⟩
set_option maxHeartbeats 1000000 in
theorem ZlX (r:List Iss) (l:List Nte) (q:List Rul) (s:List Int) (m day b1 b2:Int) (hw:WfN l) (hr:Wf r) (hs:Sml s) (h:chS r l q=0) (hB:(b1,b2)∈rfs r) :
  PC Tryz.prog G 66 [swa r l q,.vsl (s.map ia),.int .i64 m,.int .i64 day,.agg [.int .i64 b1,.int .i64 b2]] (orNil ((rcL r (st5 r l q s m day) false (b1,b2)).map ita)):=by
 obtain ⟨h1,h2,h3,h4⟩:=ZlO h
 have hn:=ZlP r
 have hne:r≠[]:=by rintro rfl;simp [rfs]at hB
 have hR:=Zkg (G:=G) r hr.1.1
 have hS:=Zj2 (G:=G) r l q s m day hw hr h4 hs h3 h2
 have hL:=ZlR (G:=G) r l q s m day b1 b2 h hB
 rw [ZlG hne]at hR
 have pV:=Zfm (l:=(st5 r l q s m day).map sa) (by simp [sa,AV.pure])
 have kV:=Zfn ((st5 r l q s m day).map sa)
 have hlen:=Zlx (s:=s) (m:=m) (day:=day) h
 have hE:(edg (st5 r l q s m day)).length≤1000:=by simp [edg];omega
 have hfin:rcL r (st5 r l q s m day) false (b1,b2)=dlK (rcD (edg (st5 r l q s m day)) (b1,b2)) (rfs r) (rfs r).length:=by rw [Zl3];rfl
 rw [hfin]
 generalize orNil ((st5 r l q s m day).map sa)=V at *
 generalize edg (st5 r l q s m day)=E at *
 have e1:∀ i (h:i<(rfs r).length),((rfs r).map (diV E (b1,b2)))[i]? = some (diV E (b1,b2) (rfs r)[i]):=fun i h=>by rw [List.getElem?_map,List.getElem?_eq_getElem h];rfl
 have lN:((rfs r).map (diV E (b1,b2))).length=(rfs r).length:=by simp
 generalize (rfs r).map (diV E (b1,b2))=NL at *
 generalize rfs r=l0 at *
 unfold swa at *
 (refine Z5E rfl fun R hG hrd=>GO_AR mixed 1000 ?_;subst hG)
 simp -implicitDefEqProofs [Z5C,Z5D]
 (first|refine CallK.of (hR) (by simp) ?_|refine CallD.of (hR) (by simp) ?_)
 simp -implicitDefEqProofs []
 refine CallD.of hS (by simp [AV.pure,isa,na,ra]) ?_
 simp -implicitDefEqProofs []
 refine CallD.of hL (by simp [AV.pure,ita,pV]) ?_
 simp -implicitDefEqProofs [kV]
 refine ⟨rfl,?_⟩
 refine Zb2 (fun i=>pcS .nils (b1,b2) l0 NL (dlK (rcD E (b1,b2)) l0 i) i) (fun _=>True) l0.length ?_ trivial ?_ ?_
 · have e0:dlK (rcD E (b1,b2)) l0 0=[]:=rfl
   simp only [e0,pcS,if_true]
   (refine Weak.sub (by simp [lk,keptA,AV.keys]) ?_;simp only [Wkl,and_true];(try simp [lk,keptO,keptA,AV.keys]))
 · intro i hi _
   have hs:=Zl4 (p:=rcD E (b1,b2)) hi
   have w1:IntKind.i64.wrap ((i:Int)+1)=(i:Int)+1:=wrapI (by omega) (by omega)
   obtain ⟨q1,g1⟩:=List.getElem?_eq_some_iff.1 (e1 i hi)
   have hle:=Zk6 (y:=(b1,b2)) (x:=l0[i]) hE
   have al:=Zl2 (p:=rcD E (b1,b2)) (l:=l0) (j:=i)
   have hp:rcD E (b1,b2) l0[i]=decide (diV E (b1,b2) l0[i]=1048576):=rfl
   rw [hp]at hs
   generalize diV E (b1,b2) l0[i]=D at *
   generalize dlK (rcD E (b1,b2)) l0 i=acc at *
   have bb:(acc.length+1)*16≤70368744177664:=by omega
   have lnm:=ZlU acc
   have tk:=ZlT acc l0[i]
   refine GO_AR mixed 1000 ?_
   by_cases hD:D=1048576
   · have hlt:¬D<1048576:=by omega
     simp only [hD,decide_true,if_true]at hs
     by_cases cx:acc=[]
     · simp -implicitDefEqProofs [pcS,cx,hi,lN,g1,ia,hlt,w1,hs]
       (refine Weak.sub (by simp [lk,keptA,AV.keys]) ?_;simp only [Wkl,Zkd,and_true];(try simp [lk,keptO,keptA,AV.keys]))
     · simp -implicitDefEqProofs [pcS,cx,hi,lN,g1,ia,hlt,w1,hs]
       (refine Weak.sub (by simp [lk,keptA,AV.keys]) ?_;simp only [Wkl,ZlV,and_true];(try simp [lk,keptO,keptA,AV.keys]))
   · have hlt:D<1048576:=by omega
     simp only [hD,decide_false,Bool.false_eq_true,if_false]at hs
     by_cases cx:acc=[]
     · rw [cx,List.nil_append]at hs
       have tk0:acM [l0[i]]=[[.int .i64 l0[i].1,.int .i64 l0[i].2]]:=rfl
       simp -implicitDefEqProofs [pcS,cx,hi,lN,g1,ia,hlt,w1,hs,ita]
       rw [← tk0]
       (refine Weak.sub (by simp [lk,keptA,AV.keys]) ?_;simp only [Wkl,ZlV,and_true];(try simp [lk,keptO,keptA,AV.keys]))
     · simp -implicitDefEqProofs [pcS,cx,hi,lN,g1,ia,hlt,w1,hs,ita,bb,lnm]
       rw [← tk]
       (refine Weak.sub (by simp [lk,keptA,AV.keys]) ?_;simp only [Wkl,ZlV,and_true];(try simp [lk,keptO,keptA,AV.keys]))
 · intro _
   generalize dlK (rcD E (b1,b2)) l0 l0.length=acc at *
   have k5:=ZlW acc
   have k6:acc.map ita=acM acc:=rfl
   have k7:=ZlU acc
   rw [k6]
   refine GO_AR mixed 1000 ?_
   by_cases cx:acc=[]
   · simp -implicitDefEqProofs [pcS,cx]
     refine Z2N mixed 1000 ?_
     have e0:acM []=[]:=rfl
     simp -implicitDefEqProofs [cx,orNil,e0]
   · have e0:¬acM acc=[]:=fun h=>cx (by simpa [acM] using h)
     simp -implicitDefEqProofs [pcS,cx]
     refine Z2N mixed 1000 ?_
     simp -implicitDefEqProofs [cx,orNil,k5,k7,e0]
end
def nxS (L:List Stq) (y x:Rf) (s:Stq):Bool:=decide (frS s=x)&&decide (diV (edg L) y (toS s)+1=diV (edg L) y x)
def chP (L:List Stq) (y:Rf):Nat→Rf→List Stq
 |0,_=>[]
 | n+1,x=>match L.find? (nxS L y x) with
   |some s=>s::chP L y n (toS s)
   |none=>[]
theorem ZlY {E:List (Rf×Rf)} {x y:Rf} {n:Nat} (h:diN E y x=some n):diV E y x=n:=by simp [diV,h]
theorem ZlZ {E:List (Rf×Rf)} {x y:Rf} {n:Nat} (hE:E.length≤1000) (h:diV E y x=n) (hn:n≤2000):diN E y x=some n:=by
 unfold diV at h
 cases q:diN E y x with
 |none=>rw [q]at h;simp only at h;omega
 |some m=>rw [q]at h;simp only at h;congr 1;omega
theorem Zm0 {E:List (Rf×Rf)} {x y:Rf}:diN E y x=some 0↔x=y:=by
 rw [Zk2]
 constructor
 · rintro ⟨h,-⟩;simpa [pth] using h
 · rintro rfl;exact ⟨by simp [pth],by omega⟩
theorem dsfar {E:List (Rf×Rf)} {x y:Rf} (hE:E.length≤1000):diV E y x=1048576↔diN E y x=none:=Zk7 hE
theorem Zm1 {L:List Stq} {x y:Rf} {n:Nat} (hL:L.length≤1000) (h:diN (edg L) y x=some (n+1)) :
  ∃ (i:Nat) (hi:i<L.length),L.findIdx? (nxS L y x)=some i∧frS L[i]=x∧diN (edg L) y (toS L[i])=some n∧chP L y (n+1) x=L[i]::chP L y n (toS L[i]):=by
 have hE:(edg L).length≤1000:=by simpa [edg] using hL
 have hm:=Zk2.1 h
 obtain ⟨e,he,h1,h2⟩:=Zk0 hm
 obtain ⟨s,hs,rfl⟩:=List.mem_map.1 he
 have hl:=md_le hm
 have hns:nxS L y x s=true:=by
  simp only [nxS,Bool.and_eq_true,decide_eq_true_eq]
  exact ⟨h1,by rw [ZlY (Zk2.2 h2),ZlY h];omega⟩
 cases q:L.findIdx? (nxS L y x) with
 | none =>
   rw [List.findIdx?_eq_none_iff]at q
   rw [q s hs]at hns;cases hns
 | some i =>
   obtain ⟨hi,h3,h4⟩:=List.findIdx?_eq_some_iff_getElem.1 q
   have h5:=h3
   simp only [nxS,Bool.and_eq_true,decide_eq_true_eq]at h5
   rw [ZlY h]at h5
   refine ⟨i,hi,rfl,h5.1,ZlZ hE (by omega) (by omega),?_⟩
   have hf:L.find? (nxS L y x)=some L[i]:=by
    rw [List.find?_eq_some_iff_getElem]
    exact ⟨h3,i,hi,rfl,fun j hj=>by simpa using h4 j hj⟩
   rw [chP,hf]
theorem Zm2 (L:List Stq) (y:Rf):∀ (n:Nat) (x:Rf),(chP L y n x).length≤n
 |0,_=>Nat.le_refl _
 | n+1,x=>by
   rw [chP]
   split
   · have:=Zm2 L y n (toS ‹Stq›);simp;omega
   · simp
def chE (r:List Iss) (l:List Nte) (q:List Rul) (s:List Int) (m day:Int) (a b:Rf):List Stq×Int :=
 if puN r l q s m day a b=0 then match diN (edg (st5 r l q s m day)) b a with
  |some n=>(chP (st5 r l q s m day) b n a,0)
  |none=>([],6)
 else ([],puN r l q s m day a b)
def chA (r:List Iss) (l:List Nte) (q:List Rul) (s:List Int) (m day:Int) (a b:Rf):AV:=.tup [orNil ((chE r l q s m day a b).1.map sa),.int .i64 (chE r l q s m day a b).2]
def chO (M:List AV) (F:AV) (b:Rf):List (Nat×AObj):=[(17,.box [F]),(11,.box [.int .i64 b.1,.int .i64 b.2])]
def chSt (M:List AV) (F V:AV) (b:Rf) (x:List Stq×Rf×Nat):St :=
 if x.1=[] then ⟨[(19,.ptr 19 0),(18,.nils),(17,.ptr 17 0),(16,V),(11,.ptr 11 0)],(19,.box [.int .i64 x.2.1.1,.int .i64 x.2.1.2])::chO M F b⟩
 else ⟨[(19,.ptr 19 0),(18,.osl 57 x.1.length),(17,.ptr 17 0),(16,V),(11,.ptr 11 0)],(19,.box [.int .i64 x.2.1.1,.int .i64 x.2.1.2])::(57,.row 6 (x.1.map sa))::chO M F b⟩
section
variable {G:Nat→Option (List AV)}
theorem Zm3 (L:List Stq) (x:Stq) (y1 y2 d e:Int) (hL:L.length≤1000):PC Tryz.prog G 61 [.agg (sa x),.vptr [.int .i64 d,.int .i64 e] 0,.vptr [lnF (edg L) (y1,y2)] 0] (.bool (nxS L (y1,y2) (d,e) x)):=by
 have hE:(edg L).length≤1000:=by simpa [edg] using hL
 have hv1:=Zl0 (G:=G) (edg L) (y1,y2) x.td x.tl
 have hv2:=Zl0 (G:=G) (edg L) (y1,y2) d e
 have b1:=Zk5 (E:=edg L) (y:=(y1,y2)) (x:=(x.td,x.tl))
 have b2:=Zk6 (y:=(y1,y2)) (x:=(x.td,x.tl)) hE
 have hnx:nxS L (y1,y2) (d,e) x=(decide ((x.fd,x.fl)=(d,e))&&decide (diV (edg L) (y1,y2) (x.td,x.tl)+1=diV (edg L) (y1,y2) (d,e))):=rfl
 have pC:=Zlz (edg L) (y1,y2)
 have kC:=ZlA (edg L) (y1,y2)
 replace hv1:PC Tryz.prog G 95 [_,lnC (edg L) (y1,y2)] _:=hv1
 replace hv2:PC Tryz.prog G 95 [_,lnC (edg L) (y1,y2)] _:=hv2
 rw [hnx]
 unfold lnF
 generalize lnC (edg L) (y1,y2)=C at *
 generalize diV (edg L) (y1,y2) (d,e)=D2 at *
 generalize diV (edg L) (y1,y2) (x.td,x.tl)=D1 at *
 have w1:IntKind.i64.wrap (D1+1)=D1+1:=wrapI (by omega) (by omega)
 have hsa:sa x=[.int .i64 x.fd,.int .i64 x.fl,.int .i64 x.td,.int .i64 x.tl,.int .i64 x.nu,.bool x.nt]:=rfl
 (refine Z6b rfl fun R hG hrd=>GO_AR mixed 1000 ?_;subst hG)
 by_cases c1:x.fd=d∧x.fl=e
 · obtain ⟨rfl,rfl⟩:=c1
   simp -implicitDefEqProofs [Z69,Z6a,hsa]
   refine CallD.of hv1 (by simp [pC,AV.pure]) ?_
   simp -implicitDefEqProofs [w1]
   refine CallD.of hv2 (by simp [pC,AV.pure]) ?_
   simp -implicitDefEqProofs [w1,kC]
   rfl
 · have c2:(decide (x.fd=d)&&decide (x.fl=e))=false:=by
    cases hh:(decide (x.fd=d)&&decide (x.fl=e))
    · rfl
    · simp at hh;exact absurd hh c1
   have c3:decide ((x.fd,x.fl)=(d,e))=false:=by
    rw [decide_eq_false_iff_not,Prod.mk.injEq];exact c1
   simp -implicitDefEqProofs [Z69,Z6a,hsa,c2,c3]
   rfl
set_option maxHeartbeats 2000000 in
theorem Zm4 (hG:GC G) (hN:GN G) (hQ:GQ G) (r:List Iss) (l:List Nte) (q:List Rul) (s:List Int) (m day a1 a2 b1 b2:Int) (hw:WfN l) (hr:Wf r) (hq:Sml q) (hs:Sml s) :
  PC Tryz.prog G 22 [swa r l q,.vsl (s.map ia),.int .i64 m,.int .i64 day,.agg [.int .i64 a1,.int .i64 a2],.agg [.int .i64 b1,.int .i64 b2]] (chA r l q s m day (a1,a2) (b1,b2)):=by
 have hp:=ZlD hG hN r l q s m day a1 a2 b1 b2 hw hr hq hs
 unfold swa at hp
 unfold chA chE
 refine Z68 rfl fun R hG' hrd=>?_
 by_cases h0:puN r l q s m day (a1,a2) (b1,b2)=0
 case neg =>
  subst hG'
  rw [if_neg h0]at hp
  rw [if_neg h0]
  refine GO_AR mixed 1000 ?_
  simp -implicitDefEqProofs [Z66,Z67,swa]
  (first|refine CallK.of (hp) (by simp) ?_|refine CallD.of (hp) (by simp) ?_)
  simp -implicitDefEqProofs [h0,orNil]
 obtain ⟨h1,h2,h3⟩:=ZlB h0
 have hz:=Zj3 h1
 have pS:(shopA r l q).pure=true:=by unfold shopA rfA;split <;> simp [AV.pure,isa,na,ra,rfa]
 have pM:(AV.vptr (moC r l q s m day) 0).pure=true:=by simp [AV.pure,moC,pS]
 have hlen:=Zlx (s:=s) (m:=m) (day:=day) hz.1
 have hf:=Zls (G:=G) r l q s m day
 have hc:=Zlr _ _ _ (by simpa using pM) (ZlC hG hN hQ r l q s m day hw hr hq hs hz.1 hz.2.1) hlen
 have hln:=PC.sub (Zl1 (G:=G) (st5 r l q s m day) false b1 b2 (by omega)) (xs:=[orNil ((st5 r l q s m day).map sa),.agg [.int .i64 b1,.int .i64 b2],.bool false]) ⟨.orNil _,.rfl',.rfl',trivial⟩
 have e1:edT false (st5 r l q s m day)=edg (st5 r l q s m day):=rfl
 rw [e1]at hln
 rw [if_pos h0,h0]at hp
 rw [if_pos h0]
 have hV:st5 r l q s m day≠[]→orNil ((st5 r l q s m day).map sa) = .vsl ((st5 r l q s m day).map sa):=fun h=>by simp [orNil,h]
 have pV:=Zfm (l:=(st5 r l q s m day).map sa) (by simp [sa,AV.pure])
 have kV:=Zfn ((st5 r l q s m day).map sa)
 generalize hLL:st5 r l q s m day=L at *
 have hL:L.length≤1000:=by omega
 have hE:(edg L).length≤1000:=by simpa [edg] using hL
 have hv:=Zl0 (G:=G) (edg L) (b1,b2) a1 a2
 have hcc:=fun (x:Stq) (n1 n2:Int)=>Zm3 (G:=G) L x b1 b2 n1 n2 hL
 have hfi:=fun (n1 n2:Int)=>Zle (G:=G) 61 [.vptr [.int .i64 n1,.int .i64 n2] 0,.vptr [lnF (edg L) (b1,b2)] 0] (nxS L (b1,b2) (n1,n2)) L (by simp [AV.pure,lnF,Zlz]) (by unfold Sml;omega) (fun x _=>hcc x n1 n2)
 have hfar:=dsfar (E:=edg L) (y:=(b1,b2)) (x:=(a1,a2)) hE
 have eF:lnF (edg L) (b1,b2) = .func (.func 95) [] [lnC (edg L) (b1,b2)]:=rfl
 replace hv:PC Tryz.prog G 95 [_,lnC (edg L) (b1,b2)] _:=hv
 simp only [eF]at hln hfi
 have pC:=Zlz (edg L) (b1,b2)
 have kC:=ZlA (edg L) (b1,b2)
 have sC:∀ ok st n,snapF ok st n (lnC (edg L) (b1,b2))=some (lnC (edg L) (b1,b2)):=fun ok st n=>by
  have:=pC
  unfold lnC at *
  cases n <;> simp [snapF,this]
 generalize lnC (edg L) (b1,b2)=C at *
 generalize orNil (L.map sa)=V at *
 obtain ⟨cs,eS⟩ : ∃ cs,shopA r l q = .vptr cs 0:=⟨_,rfl⟩
 unfold moC at *
 rw [eS]at hp hf hc pS pM
 subst hG'
 refine GO_AR mixed 1000 ?_
 simp -implicitDefEqProofs [Z66,Z67,swa]
 (first|refine CallK.of (hp) (by simp) ?_|refine CallD.of (hp) (by simp) ?_)
 simp -implicitDefEqProofs []
 refine CallK.of hf (by simp [AV.pure]at pS ⊢;try simp [pS]) ?_
 simp -implicitDefEqProofs []
 refine CallK.of hc (by simp [AV.pure]at pS ⊢;try simp [pS]) ?_
 simp -implicitDefEqProofs []
 refine CallK.of hln (by simp [pV,AV.pure]) ?_
 simp -implicitDefEqProofs []
 refine CallK.of hv (by simp [pC,AV.pure]) ?_
 cases hd:diN (edg L) (b1,b2) (a1,a2) with
 | none =>
   have e2:=hfar.2 hd
   simp -implicitDefEqProofs [e2,orNil]
 | some k0 =>
   have e2:¬diV (edg L) (b1,b2) (a1,a2)=1048576:=fun h=>by rw [hfar.1 h]at hd;cases hd
   simp -implicitDefEqProofs [e2]
   refine Z1Q (chSt [] (.func (.func 95) [] [C]) V (b1,b2)) (fun x=>diN (edg L) (b1,b2) x.2.1=some x.2.2∧x.1++chP L (b1,b2) x.2.2 x.2.1=chP L (b1,b2) k0 (a1,a2)) (fun x=>x.2.2) ([],(a1,a2),k0) ?_ ⟨hd,rfl⟩ ?_
   · simp only [chSt,chO,if_true]
     ((try simp only [kC,kV]);refine Weak.sub (by simp [lk,keptA,AV.keys,kC,kV]) ?_;simp only [kC,kV,Wkl,and_true];(try simp [lk,keptO,keptA,AV.keys,kC,kV]))
   rintro ⟨acc,⟨n1,n2⟩,k⟩ ⟨hi1,hi2⟩
   simp only at hi1 hi2
   cases k with
   | zero =>
     have hxy:=Zm0.1 hi1
     rw [Prod.mk.injEq]at hxy
     obtain ⟨rfl,rfl⟩:=hxy
     rw [chP,List.append_nil]at hi2
     refine GO_AR mixed 1000 ?_
     by_cases cx:acc=[]
     · simp -implicitDefEqProofs [chSt,chO,cx]
       refine Z2N mixed 1000 ?_
       simp -implicitDefEqProofs [← hi2,cx,orNil]
     · have sA:(acc.map sa).all (fun r=>r.all AV.pure)=true:=by simp [sa,AV.pure]
       simp -implicitDefEqProofs [chSt,chO,cx]
       refine Z2N mixed 1000 ?_
       simp -implicitDefEqProofs [← hi2,cx,orNil,sA]
   | succ k =>
     have hb:(!decide (n1=b1) || !decide (n2=b2))=true:=by
      cases hh:(!decide (n1=b1) || !decide (n2=b2))
      · simp at hh
        obtain ⟨rfl,rfl⟩:=hh
        rw [Zm0.2 rfl]at hi1;cases hi1
      · rfl
     obtain ⟨i,hi,f1,f2,f3,f4⟩:=Zm1 hL hi1
     have hfst:fstOf (nxS L (b1,b2) (n1,n2)) L=(i:Int):=by unfold fstOf;rw [f1]
     have hfn:=hfi n1 n2
     have hVe:=hV (fun h=>by rw [h]at hi;simp at hi)
     subst hVe
     rw [hfst]at hfn
     rw [f4]at hi2
     have hsa:sa L[i]=[.int .i64 L[i].fd,.int .i64 L[i].fl,.int .i64 L[i].td,.int .i64 L[i].tl,.int .i64 L[i].nu,.bool L[i].nt]:=rfl
     have k5:(L.map sa).all (fun r=>r.all AV.pure)=true:=by simp [sa,AV.pure]
     have al:acc.length≤2000:=by
      have h5:=congrArg List.length hi2
      have h6:=Zm2 L (b1,b2) k0 (a1,a2)
      have h7:=Zk4 hd
      rw [List.length_append]at h5
      omega
     have hnext:diN (edg L) (b1,b2) (toS L[i])=some k∧(acc++[L[i]])++chP L (b1,b2) k (toS L[i])=chP L (b1,b2) k0 (a1,a2):=⟨f3,by rw [List.append_assoc];exact hi2⟩
     have hto:toS L[i]=(L[i].td,L[i].tl):=rfl
     have lnm:(acc.map sa).length=acc.length:=List.length_map _
     have bb:(acc.length+1)*48≤70368744177664:=by omega
     refine GO_AR mixed 21 ?_
     by_cases cx:acc=[]
     · rw [cx,List.nil_append]at hnext
       simp -implicitDefEqProofs [chSt,chO,cx,hb]
       refine CallK.flat hfn (by simp [AV.flat]) (by simp [snapL,snap,snapF,sC,okAll,St.get,lk,k5,AV.pure]) ?_
       simp -implicitDefEqProofs [hi,hsa]
       refine GO0 (Z2M (st':=⟨[(63,.agg [.int .i64 L[i].td,.int .i64 L[i].tl]),(18,.osl 57 1),(17,.ptr 17 0),(16,.vsl (L.map sa)),(11,.ptr 11 0)],[(57,.row 6 [sa L[i]]),(17,.box [.func (.func 95) [] [C]]),(11,.box [.int .i64 b1,.int .i64 b2])]⟩) ?_ ?_)
       · rw [hsa]
         ((try simp only [kC,kV]);refine Weak.sub (by simp [lk,keptA,AV.keys,kC,kV]) ?_;simp only [kC,kV,Wkl,and_true];(try simp [lk,keptO,keptA,AV.keys,kC,kV]))
       refine GO_AR mixed 1000 ?_
       simp -implicitDefEqProofs []
       refine Z2N mixed 1000 ?_
       simp -implicitDefEqProofs []
       refine ⟨([L[i]],toS L[i],k),?_,hnext,Nat.lt_succ_self _⟩
       simp only [chSt,chO,hto,List.cons_ne_nil,if_false,reduceCtorEq]
       ((try simp only [kC,kV,hsa]);refine Weak.sub (by simp [lk,keptA,AV.keys,kC,kV,hsa]) ?_;simp only [kC,kV,hsa,Wkl,and_true];(try simp [lk,keptO,keptA,AV.keys,kC,kV,hsa]))
     · simp -implicitDefEqProofs [chSt,chO,cx,hb]
       refine CallK.flat hfn (by simp [AV.flat]) (by simp [snapL,snap,snapF,sC,okAll,St.get,lk,k5,AV.pure]) ?_
       simp -implicitDefEqProofs [hi,hsa,bb,lnm]
       refine GO0 (Z2M (st':=⟨[(63,.agg [.int .i64 L[i].td,.int .i64 L[i].tl]),(18,.osl 57 (acc++[L[i]]).length),(17,.ptr 17 0),(16,.vsl (L.map sa)),(11,.ptr 11 0)],[(57,.row 6 ((acc++[L[i]]).map sa)),(17,.box [.func (.func 95) [] [C]]),(11,.box [.int .i64 b1,.int .i64 b2])]⟩) ?_ ?_)
       · have em:acc.map sa++[[.int .i64 L[i].fd,.int .i64 L[i].fl,.int .i64 L[i].td,.int .i64 L[i].tl,.int .i64 L[i].nu,.bool L[i].nt]]=(acc++[L[i]]).map sa:=by rw [← hsa,List.map_append];rfl
         have el:(acc++[L[i]]).length=acc.length+1:=by simp
         rw [em,el]
         ((try simp only [kC,kV]);refine Weak.sub (by simp [lk,keptA,AV.keys,kC,kV]) ?_;simp only [kC,kV,Wkl,ZiY,and_true];(try simp [lk,keptO,keptA,AV.keys,kC,kV]))
       refine GO_AR mixed 1000 ?_
       simp -implicitDefEqProofs []
       refine Z2N mixed 1000 ?_
       simp -implicitDefEqProofs []
       refine ⟨(acc++[L[i]],toS L[i],k),?_,hnext,Nat.lt_succ_self _⟩
       have cx2:¬acc++[L[i]]=[]:=by simp
       simp only [chSt,chO,hto,cx2,if_false]
       ((try simp only [kC,kV]);refine Weak.sub (by simp [lk,keptA,AV.keys,kC,kV]) ?_;simp only [kC,kV,Wkl,ZiY,and_true];(try simp [lk,keptO,keptA,AV.keys,kC,kV]))
end
theorem Zm5 {E:List (Rf×Rf)} {x y:Rf} (hE:E.length≤1000):decide (diV E y x<1048576) = !rcD (tuE E) x y:=by
 have hE2:(tuE E).length≤1000:=by simpa [tuE] using hE
 have h1:=Zk8 (x:=x) (y:=y) hE
 have h2:=Zk7 (x:=y) (y:=x) hE2
 have h3:=Zkb (E:=E) (x:=y) (y:=x)
 unfold rcD
 cases q:(diN E y x).isSome with
 | true =>
   rw [q]at h1 h3
   have h4:¬diV (tuE E) x y=1048576:=fun h=>by rw [h2.1 h]at h3;cases h3
   have h5:=h1.2 rfl
   simp [h5,h4]
 | false =>
   rw [q]at h1 h3
   have h4:diV (tuE E) x y=1048576:=h2.2 (by simpa using h3)
   have h5:¬diV E y x<1048576:=fun h=>by have:=h1.1 h;cases this
   simp [h5,h4]
def foF (r:List Iss) (l:List Nte) (q:List Rul) (s:List Int) (m day:Int) (t:Bool) (x:Rf):AV :=
 .tup [if puN r l q s m day x x=0 then orNil ((rcL r (st5 r l q s m day) t x).map ita) else .nils,.int .i64 (puN r l q s m day x x)]
def ipT (r:List Iss) (l:List Nte) (q:List Rul) (s:List Int) (m day:Int) (l0:List Rf) (i:Nat):List (Nat×AV) :=
 [(15,.int .i64 i),(14,.vsl (l0.map ita)),(9,.ptr 9 0),(5,.ptr 5 0),(3,.int .i64 day),(2,.int .i64 m),(1,.vsl (s.map ia))]
def ipO (r:List Iss) (l:List Nte) (q:List Rul) (x:Rf):List (Nat×AObj):=[(9,.box [.int .i64 x.1,.int .i64 x.2]),(5,.box [.vsl (r.map isa),.vsl (l.map na),.vsl (q.map ra)])]
def ipS (r:List Iss) (l:List Nte) (q:List Rul) (s:List Int) (m day:Int) (x:Rf) (l0:List Rf) (acc:List Rf) (i:Nat):St :=
 if acc=[] then ⟨(13,.nils)::ipT r l q s m day l0 i,ipO r l q x⟩
 else ⟨(13,.osl 52 acc.length)::ipT r l q s m day l0 i,(52,.row 2 (acM acc))::ipO r l q x⟩
section
variable {G:Nat→Option (List AV)}
theorem Zm6 (r:List Iss) (l:List Nte) (q:List Rul) (s:List Int) (m day a1 a2 b1 b2:Int) (hw:WfN l) (hr:Wf r) (hq:Sml q) (hs:Sml s) :
  PC Tryz.prog G 21 [swa r l q,.vsl (s.map ia),.int .i64 m,.int .i64 day,.agg [.int .i64 a1,.int .i64 a2],.agg [.int .i64 b1,.int .i64 b2]] (maE r l q s m day (a1,a2) (b1,b2)):=by
 have hp:=ZlQ (G:=G) r l q s m day a1 a2 b1 b2 hw hr hq hs
 unfold maE
 by_cases h0:puN r l q s m day (a1,a2) (b1,b2)=0
 · obtain ⟨h1,h2,h3⟩:=ZlB h0
   have hz:=Zj3 h1
   have hm:=ZlS (G:=G) r l q s m day a1 a2 b1 b2 hw hr hs hz.1 (Zku.1 h2) (Zku.1 h3)
   rw [h0]at hp
   rw [if_pos h0,h0]
   generalize decide (diV (edg (st5 r l q s m day)) (b1,b2) (a1,a2)<1048576)=D at *
   unfold swa at *
   (refine Z5H rfl fun R hG hrd=>GO_AR mixed 1000 ?_;subst hG)
   simp -implicitDefEqProofs [Z5F,Z5G]
   (first|refine CallK.of (hp) (by simp) ?_|refine CallD.of (hp) (by simp) ?_)
   simp -implicitDefEqProofs []
   refine CallK.of hm (by simp [AV.pure,isa,na,ra]) ?_
   simp -implicitDefEqProofs []
 · rw [if_neg h0]
   unfold swa at *
   (refine Z5H rfl fun R hG hrd=>GO_AR mixed 1000 ?_;subst hG)
   simp -implicitDefEqProofs [Z5F,Z5G]
   (first|refine CallK.of (hp) (by simp) ?_|refine CallD.of (hp) (by simp) ?_)
   simp -implicitDefEqProofs [h0]
theorem Zm7 (r:List Iss) (l:List Nte) (q:List Rul) (s:List Int) (m day a1 a2:Int) (hw:WfN l) (hr:Wf r) (hq:Sml q) (hs:Sml s) :
  PC Tryz.prog G 25 [swa r l q,.vsl (s.map ia),.int .i64 m,.int .i64 day,.agg [.int .i64 a1,.int .i64 a2]] (foF r l q s m day false (a1,a2)):=by
 have hp:=ZlQ (G:=G) r l q s m day a1 a2 a1 a2 hw hr hq hs
 unfold foF
 by_cases h0:puN r l q s m day (a1,a2) (a1,a2)=0
 · obtain ⟨h1,h2,h3⟩:=ZlB h0
   have hz:=Zj3 h1
   have hm:=ZlX (G:=G) r l q s m day a1 a2 hw hr hs hz.1 (Zku.1 h2)
   have sS:=fun ok st n=>Zfo ((rcL r (st5 r l q s m day) false (a1,a2)).map ita) ok st n
   have pS:=Zfm (l:=(rcL r (st5 r l q s m day) false (a1,a2)).map ita) (by simp [ita,AV.pure])
   rw [h0]at hp
   rw [if_pos h0,h0]
   generalize orNil ((rcL r (st5 r l q s m day) false (a1,a2)).map ita)=V at *
   unfold swa at *
   (refine Z5N rfl fun R hG hrd=>GO_AR mixed 1000 ?_;subst hG)
   simp -implicitDefEqProofs [Z5L,Z5M]
   (first|refine CallK.of (hp) (by simp) ?_|refine CallD.of (hp) (by simp) ?_)
   simp -implicitDefEqProofs []
   refine CallK.of hm (by simp [AV.pure,isa,na,ra]) ?_
   simp -implicitDefEqProofs [sS,pS]
 · rw [if_neg h0]
   unfold swa at *
   (refine Z5N rfl fun R hG hrd=>GO_AR mixed 1000 ?_;subst hG)
   simp -implicitDefEqProofs [Z5L,Z5M]
   (first|refine CallK.of (hp) (by simp) ?_|refine CallD.of (hp) (by simp) ?_)
   simp -implicitDefEqProofs [h0]
set_option maxHeartbeats 1000000 in
theorem Zm8 (r:List Iss) (l:List Nte) (q:List Rul) (s:List Int) (m day a1 a2:Int) (hw:WfN l) (hr:Wf r) (hq:Sml q) (hs:Sml s) :
  PC Tryz.prog G 27 [swa r l q,.vsl (s.map ia),.int .i64 m,.int .i64 day,.agg [.int .i64 a1,.int .i64 a2]] (foF r l q s m day true (a1,a2)):=by
 have hp:=ZlQ (G:=G) r l q s m day a1 a2 a1 a2 hw hr hq hs
 unfold foF
 by_cases h0:puN r l q s m day (a1,a2) (a1,a2)=0
 case neg =>
  rw [if_neg h0]
  unfold swa at *
  (refine Z5Q rfl fun R hG hrd=>GO_AR mixed 1000 ?_;subst hG)
  simp -implicitDefEqProofs [Z5O,Z5P]
  (first|refine CallK.of (hp) (by simp) ?_|refine CallD.of (hp) (by simp) ?_)
  simp -implicitDefEqProofs [h0]
 obtain ⟨h1,h2,h3⟩:=ZlB h0
 have hz:=Zj3 h1
 have hmem:=Zku.1 h2
 obtain ⟨c1,c2,c3,c4⟩:=ZlO hz.1
 have hn:=ZlP r
 have hne:r≠[]:=by rintro rfl;simp [rfs]at hmem
 have hR:=Zkg (G:=G) r hr.1.1
 rw [ZlG hne]at hR
 have hlen:=Zlx (s:=s) (m:=m) (day:=day) hz.1
 have hE:(edg (st5 r l q s m day)).length≤1000:=by simp [edg];omega
 have hm:∀ y1 y2,(y1,y2)∈rfs r→PC Tryz.prog G 58 [swa r l q,.vsl (s.map ia),.int .i64 m,.int .i64 day,.agg [.int .i64 a1,.int .i64 a2],.agg [.int .i64 y1,.int .i64 y2]] (.bool (!rcD (tuE (edg (st5 r l q s m day))) (a1,a2) (y1,y2))):=fun y1 y2 hy=>by
  rw [← Zm5 hE]
  exact ZlS (G:=G) r l q s m day a1 a2 y1 y2 hw hr hs hz.1 hmem hy
 have hfin:rcL r (st5 r l q s m day) true (a1,a2)=dlK (rcD (tuE (edg (st5 r l q s m day))) (a1,a2)) (rfs r) (rfs r).length:=by rw [Zl3];rfl
 rw [h0]at hp
 rw [if_pos h0,h0,hfin]
 generalize rcD (tuE (edg (st5 r l q s m day))) (a1,a2)=p at *
 generalize rfs r=l0 at *
 unfold swa at *
 (refine Z5Q rfl fun R hG hrd=>GO_AR mixed 1000 ?_;subst hG)
 simp -implicitDefEqProofs [Z5O,Z5P]
 (first|refine CallK.of (hp) (by simp) ?_|refine CallD.of (hp) (by simp) ?_)
 simp -implicitDefEqProofs []
 (first|refine CallK.of (hR) (by simp) ?_|refine CallD.of (hR) (by simp) ?_)
 simp -implicitDefEqProofs []
 refine Zb2 (fun i=>ipS r l q s m day (a1,a2) l0 (dlK p l0 i) i) (fun _=>True) l0.length ?_ trivial ?_ ?_
 · have e0:dlK p l0 0=[]:=rfl
   simp only [e0,ipS,ipT,ipO,if_true]
   (refine Weak.sub (by simp [lk,keptA,AV.keys]) ?_;simp only [Wkl,and_true];(try simp [lk,keptO,keptA,AV.keys]))
 · intro i hi _
   have hs:=Zl4 (p:=p) hi
   have w1:IntKind.i64.wrap ((i:Int)+1)=(i:Int)+1:=wrapI (by omega) (by omega)
   have al:=Zl2 (p:=p) (l:=l0) (j:=i)
   have hmi:=hm l0[i].1 l0[i].2 (List.getElem_mem hi)
   replace hmi:PC Tryz.prog R.G _ _ (.bool (!p l0[i])):=hmi
   generalize dlK p l0 i=acc at *
   have bb:(acc.length+1)*16≤70368744177664:=by omega
   have lnm:=ZlU acc
   have tk:=ZlT acc l0[i]
   refine GO_AR mixed 1000 ?_
   cases hD:p l0[i]
   · rw [hD]at hmi
     simp only [hD,Bool.false_eq_true,if_false]at hs
     by_cases cx:acc=[]
     · rw [cx,List.nil_append]at hs
       have tk0:acM [l0[i]]=[[.int .i64 l0[i].1,.int .i64 l0[i].2]]:=rfl
       simp -implicitDefEqProofs [ipS,ipT,ipO,cx,hi,ita]
       refine CallD.of hmi (by simp [AV.pure,isa,na,ra]) ?_
       simp -implicitDefEqProofs [w1,hs,hi,ita]
       refine ⟨rfl,?_⟩
       rw [← tk0]
       (refine Weak.sub (by simp [lk,keptA,AV.keys]) ?_;simp only [Wkl,ZlV,and_true];(try simp [lk,keptO,keptA,AV.keys]))
     · simp -implicitDefEqProofs [ipS,ipT,ipO,cx,hi,ita]
       refine CallD.of hmi (by simp [AV.pure,isa,na,ra]) ?_
       simp -implicitDefEqProofs [w1,hs,hi,ita,bb,lnm]
       refine ⟨rfl,?_⟩
       rw [← tk]
       (refine Weak.sub (by simp [lk,keptA,AV.keys]) ?_;simp only [Wkl,ZlV,and_true];(try simp [lk,keptO,keptA,AV.keys]))
   · rw [hD]at hmi
     simp only [hD,if_true]at hs
     by_cases cx:acc=[]
     all_goals
      simp -implicitDefEqProofs [ipS,ipT,ipO,cx,hi,ita]
      refine CallD.of hmi (by simp [AV.pure,isa,na,ra]) ?_
      simp -implicitDefEqProofs [w1,hs,cx]
      refine ⟨rfl,?_⟩
      (refine Weak.sub (by simp [lk,keptA,AV.keys]) ?_;simp only [Wkl,ZlV,and_true];(try simp [lk,keptO,keptA,AV.keys]))
 · intro _
   generalize dlK p l0 l0.length=acc at *
   have k5:=ZlW acc
   have k6:acc.map ita=acM acc:=rfl
   have k7:=ZlU acc
   rw [k6]
   refine GO_AR mixed 1000 ?_
   by_cases cx:acc=[]
   · simp -implicitDefEqProofs [ipS,ipT,ipO,cx]
     refine Z2N mixed 1000 ?_
     have e0:acM []=[]:=rfl
     simp -implicitDefEqProofs [cx,orNil,e0]
   · have e0:¬acM acc=[]:=fun h=>cx (by simpa [acM] using h)
     simp -implicitDefEqProofs [ipS,ipT,ipO,cx]
     refine Z2N mixed 1000 ?_
     simp -implicitDefEqProofs [cx,orNil,k5,k7,e0]
end
def cfT (l0:List Rf) (V:AV) (NL:List Int):List (Nat×AV):=[(19,.ptr 19 0),(17,.vsl (NL.map ia)),(16,V),(15,.vsl (l0.map ita)),(11,.ptr 11 0)]
def saM (l:List Stq):List (List AV):=l.map sa
theorem Zm9 (l:List Stq) (x:Stq):saM (l++[x])=saM l++[[.int .i64 x.fd,.int .i64 x.fl,.int .i64 x.td,.int .i64 x.tl,.int .i64 x.nu,.bool x.nt]]:=by simp [saM,sa]
theorem Zma (l:List Stq):(saM l).length=l.length:=List.length_map _
theorem Zmb (o:List (Nat×AObj)) (l:List Stq):keptO o (.row 6 (saM l))=true:=ZiY o l
theorem Zmc (l:List Stq):(saM l).all (fun r=>r.all AV.pure)=true:=by simp [saM,sa,AV.pure]
def cfS (l0:List Rf) (V:AV) (NL:List Int) (b:Rf) (x:List Stq×Rf×Nat):St :=
 if x.1=[] then ⟨(18,.nils)::cfT l0 V NL,[(19,.box [.int .i64 x.2.1.1,.int .i64 x.2.1.2]),(11,.box [.int .i64 b.1,.int .i64 b.2])]⟩
 else ⟨(18,.osl 90 x.1.length)::cfT l0 V NL,[(19,.box [.int .i64 x.2.1.1,.int .i64 x.2.1.2]),(11,.box [.int .i64 b.1,.int .i64 b.2]),(90,.row 6 (saM x.1))]⟩
def cfI (l0:List Rf) (V:AV) (NL:List Int) (b:Rf) (acc:List Stq) (n:Rf) (j:Nat):St :=
 if acc=[] then ⟨(20,.int .i64 j)::(18,.nils)::cfT l0 V NL,[(19,.box [.int .i64 n.1,.int .i64 n.2]),(11,.box [.int .i64 b.1,.int .i64 b.2])]⟩
 else ⟨(20,.int .i64 j)::(18,.osl 90 acc.length)::cfT l0 V NL,[(19,.box [.int .i64 n.1,.int .i64 n.2]),(11,.box [.int .i64 b.1,.int .i64 b.2]),(90,.row 6 (saM acc))]⟩
section
variable {G:Nat→Option (List AV)}
set_option maxHeartbeats 4000000 in
theorem Zmd (r:List Iss) (l:List Nte) (q:List Rul) (s:List Int) (m day a1 a2 b1 b2:Int) (hw:WfN l) (hr:Wf r) (hq:Sml q) (hs:Sml s) :
  PC Tryz.prog G 23 [swa r l q,.vsl (s.map ia),.int .i64 m,.int .i64 day,.agg [.int .i64 a1,.int .i64 a2],.agg [.int .i64 b1,.int .i64 b2]] (chA r l q s m day (a1,a2) (b1,b2)):=by
 have hp:=ZlQ (G:=G) r l q s m day a1 a2 b1 b2 hw hr hq hs
 unfold chA chE
 by_cases h0:puN r l q s m day (a1,a2) (b1,b2)=0
 case neg =>
  rw [if_neg h0]
  unfold swa at *
  (refine Z5K rfl fun R hG hrd=>GO_AR mixed 1000 ?_;subst hG)
  simp -implicitDefEqProofs [Z5I,Z5J]
  (first|refine CallK.of (hp) (by simp) ?_|refine CallD.of (hp) (by simp) ?_)
  simp -implicitDefEqProofs [h0,orNil]
 obtain ⟨h1,h2,h3⟩:=ZlB h0
 have hz:=Zj3 h1
 have hA:=Zku.1 h2
 have hB:=Zku.1 h3
 obtain ⟨c1,c2,c3,c4⟩:=ZlO hz.1
 have hn:=ZlP r
 have hne:r≠[]:=by rintro rfl;simp [rfs]at hA
 have hR:=Zkg (G:=G) r hr.1.1
 have hS:=Zj2 (G:=G) r l q s m day hw hr c4 hs c3 c2
 have hLn:=ZlR (G:=G) r l q s m day b1 b2 hz.1 hB
 rw [ZlG hne]at hR
 have hIn:=ZkA (s:=s) (m:=m) (day:=day) hz.1
 have hlen:=Zlx (s:=s) (m:=m) (day:=day) hz.1
 rw [h0]at hp
 rw [if_pos h0]
 have hV:st5 r l q s m day≠[]→orNil ((st5 r l q s m day).map sa) = .vsl ((st5 r l q s m day).map sa):=fun h=>by simp [orNil,h]
 have pV:=Zfm (l:=(st5 r l q s m day).map sa) (by simp [sa,AV.pure])
 have kV:=Zfn ((st5 r l q s m day).map sa)
 generalize st5 r l q s m day=L at *
 have hL:L.length≤1000:=by omega
 have hE:(edg L).length≤1000:=by simpa [edg] using hL
 have hAt:=fun d e=>Zke (G:=G) (rfs r) d e (by unfold Sml;omega)
 have e1:∀ (k:Nat) (x:Rf),(rfs r)[k]? = some x→((rfs r).map (diV (edg L) (b1,b2)))[k]? = some (diV (edg L) (b1,b2) x):=fun k x h=>by rw [List.getElem?_map,h];rfl
 have lN:((rfs r).map (diV (edg L) (b1,b2))).length=(rfs r).length:=by simp
 generalize (rfs r).map (diV (edg L) (b1,b2))=NL at *
 generalize rfs r=l0 at *
 generalize orNil (L.map sa)=V at *
 have hA2:=hAt a1 a2
 obtain ⟨ka,ka1,ka2,ka3⟩:=Zkh hA
 rw [ka2]at hA2
 obtain ⟨qa,ga⟩:=List.getElem?_eq_some_iff.1 (e1 ka _ ka3)
 have hfar:=dsfar (E:=edg L) (y:=(b1,b2)) (x:=(a1,a2)) hE
 unfold swa at *
 (refine Z5K rfl fun R hG hrd=>GO_AR mixed 1000 ?_;subst hG)
 simp -implicitDefEqProofs [Z5I,Z5J]
 (first|refine CallK.of (hp) (by simp) ?_|refine CallD.of (hp) (by simp) ?_)
 simp -implicitDefEqProofs []
 refine CallD.of hR (by simp [AV.pure,isa,na,ra]) ?_
 simp -implicitDefEqProofs []
 refine CallD.of hS (by simp [AV.pure,isa,na,ra]) ?_
 simp -implicitDefEqProofs [kV]
 refine ⟨rfl,?_⟩
 refine CallK.of hLn (by simp [AV.pure,ita,pV]) ?_
 simp -implicitDefEqProofs []
 refine CallK.of hA2 (by simp [AV.pure,ita]) ?_
 cases hd:diN (edg L) (b1,b2) (a1,a2) with
 | none =>
   have e2:=hfar.2 hd
   simp -implicitDefEqProofs [e2,orNil,lN,ka1,qa,ga,ia]
 | some k0 =>
   have e2:¬diV (edg L) (b1,b2) (a1,a2)=1048576:=fun h=>by rw [hfar.1 h]at hd;cases hd
   simp -implicitDefEqProofs [e2,lN,ka1,qa,ga,ia]
   refine Z1Q (cfS l0 V NL (b1,b2)) (fun x=>diN (edg L) (b1,b2) x.2.1=some x.2.2∧x.1++chP L (b1,b2) x.2.2 x.2.1=chP L (b1,b2) k0 (a1,a2)) (fun x=>x.2.2) ([],(a1,a2),k0) ?_ ⟨hd,rfl⟩ ?_
   · simp only [cfS,cfT,if_true]
     ((try simp only [kV,ia]);refine Weak.sub (by simp [lk,keptA,AV.keys,kV,ia]) ?_;simp only [kV,ia,Wkl,and_true];(try simp [lk,keptO,keptA,AV.keys,kV,ia]))
   rintro ⟨acc,⟨n1,n2⟩,k⟩ ⟨hi1,hi2⟩
   simp only at hi1 hi2
   cases k with
   | zero =>
     have hxy:=Zm0.1 hi1
     rw [Prod.mk.injEq]at hxy
     obtain ⟨rfl,rfl⟩:=hxy
     rw [chP,List.append_nil]at hi2
     have k5:=Zmc acc
     have k6:acc.map sa=saM acc:=rfl
     have k7:=Zma acc
     rw [← hi2,k6]
     refine GO_AR mixed 1000 ?_
     by_cases cx:acc=[]
     · have e0:saM []=[]:=rfl
       simp -implicitDefEqProofs [cfS,cfT,cx]
       refine Z2N mixed 1000 ?_
       simp -implicitDefEqProofs [cx,orNil,e0]
     · have e0:¬saM acc=[]:=fun h=>cx (by simpa [saM] using h)
       simp -implicitDefEqProofs [cfS,cfT,cx]
       refine Z2N mixed 1000 ?_
       simp -implicitDefEqProofs [cx,orNil,k5,k7,e0]
   | succ k =>
     have hb:(!decide (n1=b1) || !decide (n2=b2))=true:=by
      cases hh:(!decide (n1=b1) || !decide (n2=b2))
      · simp at hh
        obtain ⟨rfl,rfl⟩:=hh
        rw [Zm0.2 rfl]at hi1;cases hi1
      · rfl
     obtain ⟨i,hi,f1,f2,f3,f4⟩:=Zm1 hL hi1
     obtain ⟨hi',fp,fb⟩:=List.findIdx?_eq_some_iff_getElem.1 f1
     have hVe:=hV (fun h=>by rw [h]at hi;simp at hi)
     subst hVe
     rw [f4]at hi2
     have hsa:sa L[i]=[.int .i64 L[i].fd,.int .i64 L[i].fl,.int .i64 L[i].td,.int .i64 L[i].tl,.int .i64 L[i].nu,.bool L[i].nt]:=rfl
     have al:acc.length≤2000:=by
      have h5:=congrArg List.length hi2
      have h6:=Zm2 L (b1,b2) k0 (a1,a2)
      have h7:=Zk4 hd
      rw [List.length_append]at h5
      omega
     have hnext:diN (edg L) (b1,b2) (toS L[i])=some k∧(acc++[L[i]])++chP L (b1,b2) k (toS L[i])=chP L (b1,b2) k0 (a1,a2):=⟨f3,by rw [List.append_assoc];exact hi2⟩
     have hto:toS L[i]=(L[i].td,L[i].tl):=rfl
     have bb:(acc.length+1)*48≤70368744177664:=by omega
     have lnm:=Zma acc
     have tk:=Zm9 acc L[i]
     have hnow:(n1,n2)∈l0:=by
      have:=(hIn (frS L[i],toS L[i]) (List.mem_map.2 ⟨_,List.getElem_mem hi,rfl⟩)).1
      rwa [f2]at this
     have hN2:=hAt n1 n2
     obtain ⟨kn,kn1,kn2,kn3⟩:=Zkh hnow
     rw [kn2]at hN2
     obtain ⟨qn,gn⟩:=List.getElem?_eq_some_iff.1 (e1 kn _ kn3)
     refine GO_AR mixed 1000 ?_
     by_cases cx:acc=[]
     case' pos=>simp -implicitDefEqProofs [cfS,cfT,cx,hb]
     case' neg=>simp -implicitDefEqProofs [cfS,cfT,cx,hb]
     all_goals
      refine Z1Q (fun j:Nat=>cfI l0 (.vsl (L.map sa)) NL (b1,b2) acc (n1,n2) j) (fun j=>j≤i) (fun j=>i-j) 0 ?_ (Nat.zero_le _) ?_
      · simp only [cfI,cfT,cx,if_true,if_false]
        ((try simp only [ia]);refine Weak.sub (by simp [lk,keptA,AV.keys,ia]) ?_;simp only [ia,Wkl,Zmb,and_true];(try simp [lk,keptO,keptA,AV.keys,ia]))
      intro j hj
      have hjl:j<L.length:=by omega
      have hsj:sa L[j]=[.int .i64 L[j].fd,.int .i64 L[j].fl,.int .i64 L[j].td,.int .i64 L[j].tl,.int .i64 L[j].nu,.bool L[j].nt]:=rfl
      have hX2:=hAt L[j].td L[j].tl
      obtain ⟨kx,kx1,kx2,kx3⟩:=Zkh (hIn (frS L[j],toS L[j]) (List.mem_map.2 ⟨_,List.getElem_mem hjl,rfl⟩)).2
      replace kx2:fstOf (aiP (L[j].td,L[j].tl)) l0=(kx:Int):=kx2
      rw [kx2]at hX2
      obtain ⟨qx,gx⟩:=List.getElem?_eq_some_iff.1 (e1 kx _ kx3)
      have b1':=Zk5 (E:=edg L) (y:=(b1,b2)) (x:=toS L[j])
      have b2':=Zk6 (y:=(b1,b2)) (x:=toS L[j]) hE
      have w1:IntKind.i64.wrap (diV (edg L) (b1,b2) (toS L[j])+1)=diV (edg L) (b1,b2) (toS L[j])+1:=wrapI (by omega) (by omega)
      have w2:IntKind.i64.wrap ((j:Int)+1)=(j:Int)+1:=wrapI (by omega) (by omega)
      have hnx:nxS L (b1,b2) (n1,n2) L[j]=(decide ((L[j].fd,L[j].fl)=(n1,n2))&&decide (diV (edg L) (b1,b2) (toS L[j])+1=diV (edg L) (b1,b2) (n1,n2))):=rfl
      simp only at gx
      have nhit:nxS L (b1,b2) (n1,n2) L[j]=true→j=i:=fun h=>by
       rcases Nat.lt_or_ge j i with h5|h5
       · exact absurd h (fb j h5)
       · omega
      have nmis:nxS L (b1,b2) (n1,n2) L[j]=false→j<i:=fun h=>by
       rcases Nat.lt_or_ge j i with h5|h5
       · exact h5
       · obtain rfl:j=i:=by omega
         rw [fp]at h;cases h
      refine GO_AR mixed 1000 ?_
      by_cases g1:L[j].fd=n1∧L[j].fl=n2
      · have g2:decide ((L[j].fd,L[j].fl)=(n1,n2))=true:=by simp [g1.1,g1.2]
        rw [g2,Bool.true_and]at hnx
        simp -implicitDefEqProofs [cfI,cfT,cx,hjl,hsj,g1.1,g1.2]
        refine CallD.of hX2 (by simp [AV.pure,ita]) ?_
        by_cases g3:diV (edg L) (b1,b2) (toS L[j])+1=diV (edg L) (b1,b2) (n1,n2)
        · obtain rfl:=nhit (by rw [hnx,g3];simp)
          simp -implicitDefEqProofs [hjl,hsj,g1.1,g1.2,lN,kx1,qx,gx,ia,w1]
          refine CallD.of hN2 (by simp [AV.pure,ita]) ?_
          simp -implicitDefEqProofs [hjl,hsj,g1.1,g1.2,lN,kn1,qn,gn,ia,g3]
          refine ⟨rfl,?_⟩
          refine Z2N mixed 1000 ?_
          simp -implicitDefEqProofs [hjl,hsa,cx,bb,lnm]
          refine ⟨(acc++[L[j]],toS L[j],k),?_,hnext,Nat.lt_succ_self _⟩
          have cx2:¬acc++[L[j]]=[]:=by simp
          simp only [cfS,cfT,hto,cx2,if_false]
          first
           |(rw [← tk];simp only [List.length_append,List.length_cons,List.length_nil];((try simp only [ia]);refine Weak.sub (by simp [lk,keptA,AV.keys,ia]) ?_;simp only [ia,Wkl,Zmb,and_true];(try simp [lk,keptO,keptA,AV.keys,ia]));done)
           |(simp only [cx,List.nil_append,saM,List.map_cons,List.map_nil,hsa,List.length_cons,List.length_nil];((try simp only [ia]);refine Weak.sub (by simp [lk,keptA,AV.keys,ia]) ?_;simp only [ia,Wkl,and_true];(try simp [lk,keptO,keptA,AV.keys,ia]));done)
        · have hlt:=nmis (by rw [hnx];simp [g3])
          simp -implicitDefEqProofs [hjl,hsj,g1.1,g1.2,lN,kx1,qx,gx,ia,w1]
          refine CallD.of hN2 (by simp [AV.pure,ita]) ?_
          simp -implicitDefEqProofs [hjl,hsj,g1.1,g1.2,lN,kn1,qn,gn,ia,g3,w2]
          refine ⟨rfl,j+1,?_,hlt,(by show i-(j+1)<i-j;omega)⟩
          simp only [cfI,cfT,cx,if_true,if_false]
          ((try simp only [ia]);refine Weak.sub (by simp [lk,keptA,AV.keys,ia]) ?_;simp only [ia,Wkl,Zmb,and_true];(try simp [lk,keptO,keptA,AV.keys,ia]))
      · have g2:decide ((L[j].fd,L[j].fl)=(n1,n2))=false:=by rw [decide_eq_false_iff_not,Prod.mk.injEq];exact g1
        have hlt:=nmis (by rw [hnx,g2,Bool.false_and])
        have g3:(!decide (L[j].fd=n1) || !decide (L[j].fl=n2))=true:=by
         cases hh:(!decide (L[j].fd=n1) || !decide (L[j].fl=n2))
         · simp at hh;exact absurd hh g1
         · rfl
        simp -implicitDefEqProofs [cfI,cfT,cx,hjl,hsj,g3,w2]
        refine ⟨rfl,j+1,?_,hlt,(by show i-(j+1)<i-j;omega)⟩
        simp only [cfI,cfT,cx,if_true,if_false]
        ((try simp only [ia]);refine Weak.sub (by simp [lk,keptA,AV.keys,ia]) ?_;simp only [ia,Wkl,Zmb,and_true];(try simp [lk,keptO,keptA,AV.keys,ia]))
end
open Qq in
def Zme:RCode :=
 .seq (r 0 [b 4 0,n 8 (.bool false)]) (.seq (.seq (r 1 [L 18 3 4,c 19 7 [18],m 20 19,g 20 false (m 21 1),g 20 false (e 22 21),g 20 false (k 23 .gtr 22 (.int .i64 20)),u 24 20 23]) (.cond (.t 24) (.seq (r 2 [n 8 (.bool true)]) .ret) .skip)) (.seq (r 3 [L 25 3 4,c 26 8 [25],w 9 (.alloc [.nils,.nils,.nils]),s 3 9 26]) (.seq (r 4 [L 28 3 9,m 29 3,c 30 9 [28,29],m 27 30,x 31 0 27,x 32 1 27,m 10 31,m 11 32]) (.seq (r 5 [L 34 3 4,m 35 3,c 36 10 [34,35],m 33 36,x 37 0 33,x 38 1 33,m 12 37,m 13 38]) (.seq (r 6 [L 40 3 9,m 41 1,m 42 2,m 43 3,c 44 11 [40,41,42,43],m 39 44,x 45 0 39,x 46 1 39,m 14 45,m 15 46]) (.seq (r 7 [L 48 3 4,m 49 1,m 50 2,m 51 3,c 52 12 [48,49,50,51],m 47 52,x 53 0 47,x 54 1 47,m 16 53,m 17 54]) (.seq (R 8 [L 55 3 9,a [0] (c 56 13 [55]),L 57 3 4,a [2,1] (c 58 14 [57]),a [1,3] (o 59 .eql 56 58),a [4,3] (m 60 59),a [5] (g 60 true (m 61 10)),a [5] (g 60 true (m 62 12)),a [6,7,5,5] (g 60 true (c 63 15 [61,62])),a [5,8] (v 64 60 63),a [9,8] (m 65 64),a [10] (g 65 true (m 66 11)),a [10] (g 65 true (m 67 13)),a [11,12,10] (g 65 true (o 68 .eql 66 67)),a [10,13] (v 69 65 68),a [14,10] (m 70 69),a [15] (g 70 true (m 71 14)),a [15] (g 70 true (m 72 16)),a [16,17,15,15] (g 70 true (c 73 16 [71,72])),a [15,18] (v 74 70 73),a [19,18] (m 75 74),a [20] (g 75 true (m 76 15)),a [20] (g 75 true (m 77 17)),a [21,22,20] (g 75 true (o 78 .eql 76 77)),a [20,23] (v 79 75 78),a [24,20] (m 80 79),a [25] (g 80 true (L 81 3 9)),a [25] (g 80 true (L 82 3 4)),a [26,27,25,25] (g 80 true (c 83 17 [81,82])),a [25,28] (v 84 80 83),a [29,28,0,1,2,3,4,5,6,7,8,9,10,11,12,13,14,15,16,17,18,19,20,21,22,23,24,25,26,27,28,29] (m 8 84)]) .ret)))))))
def Zmf:List RRes:=[.t 8]
theorem Zmg:PCt Tryz.prog 3 Tryz.f3 Zme Zmf:=pcT Tryz.func3 rfl (by kernel_rfl) (by kernel_rfl) (by kernel_rfl)
section
variable {G:Nat→Option (List AV)}
set_option maxHeartbeats 1000000 in
theorem Zmh (hG:GC G) (hN:GN G) (hQ:GQ G) (r:List Iss) (l:List Nte) (q:List Rul) (s:List Int) (m day:Int) (hw:WfN l) (hr:Wf r) (hq:Sml q) (hs:Sml s) :
  PC Tryz.prog G 3 [swa r l q,.vsl (s.map ia),.int .i64 m,.int .i64 day] (.bool true):=by
 have c6:=Ziw (G:=G) r l q hr.1.1
 have c7:=Ziy (G:=G) r l q hr.1 hw.1 hq
 have c8:=Zjp hG hN r l q day hw hr hq
 have c9:=ZiH (G:=G) r l q day hw hr hq
 have c10:=Zly hG hN hQ r l q s m day hw hr hq hs
 have c11:=Zj4 (G:=G) r l q s m day hw hr hq hs
 have c12:=Zjo hG hN r l q hw hr hq
 have c13:=ZiD (G:=G) r l q hw hr hq
 have hs5:Sml (stE r l q s m day).1:=by
  unfold stE
  split
  · rename_i h;have:=Zlx (s:=s) (m:=m) (day:=day) (Zj3 h).1;unfold Sml;simp only;omega
  · simp [Sml]
 have hs6:Sml (ruE r l q day).1:=by
  unfold ruE
  split
  · split
    · have:=Zei day q q.length;unfold Sml at *;simp only;omega
    · simp [Sml]
  · simp [Sml]
 have c15:=PC.sub (ZiA (G:=G) (stE r l q s m day).1 (stE r l q s m day).1 hs5) (xs:=[orNil ((stE r l q s m day).1.map sa),orNil ((stE r l q s m day).1.map sa)]) ⟨.orNil _,.orNil _,trivial⟩
 have c14:=PC.sub (Zb9 (G:=G) (ruE r l q day).1 (ruE r l q day).1 hs6) (xs:=[orNil ((ruE r l q day).1.map ia),orNil ((ruE r l q day).1.map ia)]) ⟨.orNil _,.orNil _,trivial⟩
 have c16:=Ziz (G:=G) r r l l q q hr.1 hw.1 hq
 have p1:=Zfm (l:=(ruE r l q day).1.map ia) (by simp [ia,AV.pure])
 have k1:=Zfn ((ruE r l q day).1.map ia)
 have p2:=Zfm (l:=(stE r l q s m day).1.map sa) (by simp [sa,AV.pure])
 have k2:=Zfn ((stE r l q s m day).1.map sa)
 unfold ruA at c8 c9
 unfold stA at c10 c11
 unfold swa at *
 generalize orNil ((ruE r l q day).1.map ia)=V1 at *
 generalize orNil ((stE r l q s m day).1.map sa)=V2 at *
 generalize (ruE r l q day).2=e1 at *
 generalize (stE r l q s m day).2=e2 at *
 (refine Zmg rfl fun R hG hrd=>GO_AR mixed 1000 ?_;subst hG)
 simp -implicitDefEqProofs [Zme,Zmf]
 (first|refine CallK.of (c6) (by simp) ?_|refine CallD.of (c6) (by simp) ?_)
 cases h6:(Zbh r||decide (16<l.length)||decide (20<q.length))
 · by_cases h7:(20:Int)<s.length
   · simp -implicitDefEqProofs [h7]
   simp -implicitDefEqProofs [h7]
   (first|refine CallK.of (c7) (by simp) ?_|refine CallD.of (c7) (by simp) ?_)
   simp -implicitDefEqProofs []
   (first|refine CallK.of (c8) (by simp) ?_|refine CallD.of (c8) (by simp) ?_)
   simp -implicitDefEqProofs []
   (first|refine CallK.of (c9) (by simp) ?_|refine CallD.of (c9) (by simp) ?_)
   simp -implicitDefEqProofs []
   (first|refine CallK.of (c10) (by simp) ?_|refine CallD.of (c10) (by simp) ?_)
   simp -implicitDefEqProofs []
   (first|refine CallK.of (c11) (by simp) ?_|refine CallD.of (c11) (by simp) ?_)
   simp -implicitDefEqProofs []
   refine CallD.of c12 (by simp [AV.pure,isa,na,ra]) ?_
   simp -implicitDefEqProofs []
   refine CallD.of c13 (by simp [AV.pure,isa,na,ra]) ?_
   simp -implicitDefEqProofs []
   refine CallD.of c14 (by simp [p1]) ?_
   simp -implicitDefEqProofs []
   refine CallD.of c15 (by simp [p2]) ?_
   simp -implicitDefEqProofs []
   refine CallD.of c16 (by simp [AV.pure,isa,na,ra]) ?_
   simp -implicitDefEqProofs [k1,k2]
   rfl
 · simp -implicitDefEqProofs []
end
section
variable {G:Nat→Option (List AV)}
end
open Go.ChangeShapes Go.WideShapes Go.ChangeAt Go.WideMaps Go.WideElems Go.RowKit Go.Deep
theorem own:ownKnob Tryz.prog.godebug=none:=by kernel_rfl
theorem Zmq:laidOutB Tryz.prog=true:=by kernel_rfl
theorem cF:Tryz.prog.cellsOf 220=1:=by kernel_rfl
theorem Zmr {P:Program} {G:Nat→Option (List AV)} {f:FuncId} {args:List AV} {W:World} {vs:Array Value} (h:PC P G f args (.bool true)) (hG:GR G noM W) (hs:vs.size=args.length)
  (hv:∀ (i:Nat) (x:AV) (u:Value),args[i]? = some x→vs[i]? = some u→PV noM W x u):Calls P f vs W fun e W'=>e = .returned (.bool true)∧Ext W W' :=
 (h.2 noM W vs (fun _ h=>h.elim) hG hs hv).mono fun e W' ⟨v,h1,h2,h3⟩=>by
  cases h2
  exact ⟨h1,h3⟩
def itK:List TY:=[.int .i64,.int .i64]
def dmK:List TY:=[.int .i64,.int .i64,.int .i64]
def isK2:List TY:=[.int .i64,.int .i64,.int .u8,.sl itK,.sl dmK]
theorem Zms {xs:List AV} (h:TVs itK xs):∃ p:Int×Int,xs=ita p:=by
 obtain ⟨x0,_,rfl,h0,h⟩:=h.cons_inv
 obtain ⟨x1,_,rfl,h1,h⟩:=h.cons_inv
 obtain rfl:=h.nil_inv
 obtain ⟨n,rfl,-⟩:=h0.int_inv
 obtain ⟨l,rfl,-⟩:=h1.int_inv
 exact ⟨(n,l),rfl⟩
theorem Zmt {xs:List AV} (h:TVs dmK xs):∃ d:Dm,xs=dma d:=by
 obtain ⟨x0,_,rfl,h0,h⟩:=h.cons_inv
 obtain ⟨x1,_,rfl,h1,h⟩:=h.cons_inv
 obtain ⟨x2,_,rfl,h2,h⟩:=h.cons_inv
 obtain rfl:=h.nil_inv
 obtain ⟨n,rfl,-⟩:=h0.int_inv
 obtain ⟨l,rfl,-⟩:=h1.int_inv
 obtain ⟨u,rfl,-⟩:=h2.int_inv
 exact ⟨⟨n,l,u⟩,rfl⟩
def KOk (x:Iss):Prop:=0≤x.k∧x.k≤255
theorem Zmu {xs:List AV} (h:TVs isK2 xs):∃ x:Iss,xs=isa x∧KOk x:=by
 obtain ⟨x0,_,rfl,h0,h⟩:=h.cons_inv
 obtain ⟨x1,_,rfl,h1,h⟩:=h.cons_inv
 obtain ⟨x2,_,rfl,h2,h⟩:=h.cons_inv
 obtain ⟨x3,_,rfl,h3,h⟩:=h.cons_inv
 obtain ⟨x4,_,rfl,h4,h⟩:=h.cons_inv
 obtain rfl:=h.nil_inv
 obtain ⟨n,rfl,-⟩:=h0.int_inv
 obtain ⟨l,rfl,-⟩:=h1.int_inv
 obtain ⟨k,rfl,hk⟩:=h2.int_inv
 obtain ⟨r3,rfl,-,g3⟩:=h3.sl_inv
 obtain ⟨r4,rfl,-,g4⟩:=h4.sl_inv
 obtain ⟨its,rfl⟩:=Zmn (f:=ita) fun r hr=>Zms (g3 r hr)
 obtain ⟨dms,rfl⟩:=Zmn (f:=dma) fun r hr=>Zmt (g4 r hr)
 exact ⟨⟨n,l,k,its,dms⟩,rfl,bounds_u8 hk⟩
theorem Zmv {α β:Type} {f:α→β} {p:α→Prop} {rows:List β} (h:∀ r∈rows,∃ d,r=f d∧p d):∃ l:List α,rows=l.map f∧∀ x∈l,p x:=by
 induction rows with
 |nil=>exact ⟨[],rfl,by simp⟩
 | cons r rows ih =>
   obtain ⟨d,rfl,hd⟩:=h r (List.mem_cons_self ..)
   obtain ⟨l,rfl,hl⟩:=ih fun r hr=>h r (List.mem_cons_of_mem _ hr)
   exact ⟨d::l,rfl,fun x hx=>by
    rcases List.mem_cons.1 hx with rfl|hx
    · exact hd
    · exact hl x hx⟩
theorem Zmw {G:Nat→Option (List AV)} (r:List Iss):PC Tryz.prog G 73 [rega r] (.bool (Zbh r)):=by
 by_cases h1:80<r.length
 · (refine ZaW rfl fun R hG hrd=>GO_AR mixed 1000 ?_;subst hG)
   have h1':(80:Int)<r.length:=by omega
   simp -implicitDefEqProofs [ZaU,ZaV,rega,h1',Zbh,h1]
 · exact Zbl r (by unfold Sml;omega)
theorem Zmx {r:List Iss} (h:Zbh r=false) (hk:∀ x∈r,KOk x):Wf r:=by
 simp only [Zbh,Bool.or_eq_false_iff,decide_eq_false_iff_not,List.any_eq_false,Bool.or_eq_true,decide_eq_true_eq,not_or]at h
 exact ⟨⟨by unfold Sml;omega,fun x hx=>by have:=h.2 x hx;unfold Sml;omega⟩,hk⟩
section
variable {G:Nat→Option (List AV)}
theorem Zmy (r:List Iss) (l:List Nte):PC Tryz.prog G 38 [.agg [.vsl (r.map isa),.vsl (l.map na)]] (.bool (Zbh r||decide (16<l.length))):=by
 have hg:=Zmw (G:=G) r
 rw [rega]at hg
 (refine ZeV rfl fun R hG hrd=>GO_AR mixed 1000 ?_;subst hG)
 simp -implicitDefEqProofs [ZeT,ZeU]
 (first|refine CallK.of (hg) (by simp) ?_|refine CallD.of (hg) (by simp) ?_)
 cases q:Zbh r
 · have e:decide ((16:Int)<l.length)=decide (16<l.length):=by rw [decide_eq_decide];omega
   simp -implicitDefEqProofs [e]
 · simp -implicitDefEqProofs []
theorem Zmz (r:List Iss) (l:List Nte) (q:List Rul):PC Tryz.prog G 7 [swa r l q] (.bool (Zbh r||decide (16<l.length)||decide (20<q.length))):=by
 have hg:=Zmy (G:=G) r l
 (refine Z8s rfl fun R hG hrd=>GO_AR mixed 1000 ?_;subst hG)
 simp -implicitDefEqProofs [Z8q,Z8r,swa]
 (first|refine CallK.of (hg) (by simp) ?_|refine CallD.of (hg) (by simp) ?_)
 cases h1:(Zbh r||decide (16<l.length))
 · have e:decide ((20:Int)<q.length)=decide (20<q.length):=by rw [decide_eq_decide];omega
   simp -implicitDefEqProofs [e]
 · simp -implicitDefEqProofs []
def NOk (x:Nte):Prop:=0≤x.sg∧x.sg≤255∧0≤x.wy∧x.wy≤255
theorem ZmA (hG:GC G) (hN:GN G) (hQ:GQ G) (r:List Iss) (l:List Nte) (q:List Rul) (s:List Int) (m day:Int) (hr:∀ x∈r,KOk x) (hl:∀ x∈l,NOk x) :
  PC Tryz.prog G 3 [swa r l q,.vsl (s.map ia),.int .i64 m,.int .i64 day] (.bool true):=by
 have c6:=Zmz (G:=G) r l q
 by_cases h:(Zbh r||decide (16<l.length)||decide (20<q.length))=true
 · rw [h]at c6
   unfold swa at *
   (refine Zmg rfl fun R hG hrd=>GO_AR mixed 1000 ?_;subst hG)
   simp -implicitDefEqProofs [Zme,Zmf]
   (first|refine CallK.of (c6) (by simp) ?_|refine CallD.of (c6) (by simp) ?_)
   simp -implicitDefEqProofs []
 · have h':(Zbh r||decide (16<l.length)||decide (20<q.length))=false:=by simpa using h
   by_cases h7:(20:Int)<s.length
   · rw [h']at c6
     unfold swa at *
     (refine Zmg rfl fun R hG hrd=>GO_AR mixed 1000 ?_;subst hG)
     simp -implicitDefEqProofs [Zme,Zmf]
     (first|refine CallK.of (c6) (by simp) ?_|refine CallD.of (c6) (by simp) ?_)
     simp -implicitDefEqProofs [h7]
   · simp only [Bool.or_eq_false_iff,decide_eq_false_iff_not]at h'
     exact Zmh hG hN hQ r l q s m day ⟨by unfold Sml;omega,hl⟩ (Zmx h'.1.1 hr) (by unfold Sml;omega) (by unfold Sml;omega)
end
theorem ZmB {r:List Iss} {l:List Nte} {q:List Rul} {s:List Int} {m day:Int} {a b:Rf}:Sml (chE r l q s m day a b).1:=by
 unfold chE
 split
 · rename_i h0
   have hlen:=Zlx (s:=s) (m:=m) (day:=day) (Zj3 (ZlB h0).1).1
   split
   · rename_i n hd
     have h1:=Zm2 (st5 r l q s m day) b n a
     have h2:=Zk4 hd
     simp only [edg,List.length_map]at h2
     unfold Sml;simp only;omega
   · simp [Sml]
 · simp [Sml]
theorem ZmC {r:List Iss} {L:List Stq} {t:Bool} {x:Rf}:(rcL r L t x).length≤r.length:=Nat.le_trans (List.length_filter_le _ _) (by simp [rfs])
section
variable {G:Nat→Option (List AV)}
theorem ZmD (l:List Rf) (b:Bool) (hl:Sml l):PC Tryz.prog G 28 [if b=true then liR l else .nils,if b=true then orNil (l.map ita) else .nils] (.bool true):=by
 have h1:=PC.sub (Zfl (G:=G) l l hl) (xs:=[liR l,orNil (l.map ita)]) ⟨.rfl',.orNil _,trivial⟩
 have h2:=PC.sub (Zfl (G:=G) [] [] (by simp [Sml])) (xs:=[.nils,.nils]) ⟨.nils,.nils,trivial⟩
 cases b
 · simpa using h2
 · simpa using h1
set_option maxHeartbeats 1000000 in
theorem ZmE (hG:GC G) (hN:GN G) (hQ:GQ G) (r:List Iss) (l:List Nte) (q:List Rul) (s:List Int) (m day a1 a2 b1 b2:Int) (hw:WfN l) (hr:Wf r) (hq:Sml q) (hs:Sml s) (h80:r.length≤1000) :
  PC Tryz.prog G 5 [swa r l q,.vsl (s.map ia),.int .i64 m,.int .i64 day,.agg [.int .i64 a1,.int .i64 a2],.agg [.int .i64 b1,.int .i64 b2]] (.bool true):=by
 have c6:=Ziw (G:=G) r l q hr.1.1
 have c7:=Ziy (G:=G) r l q hr.1 hw.1 hq
 have c8:=ZlL hG hN hQ r l q s m day a1 a2 b1 b2 hw hr hq hs
 have c9:=Zm6 (G:=G) r l q s m day a1 a2 b1 b2 hw hr hq hs
 have c10:=Zm4 hG hN hQ r l q s m day a1 a2 b1 b2 hw hr hq hs
 have c11:=Zmd (G:=G) r l q s m day a1 a2 b1 b2 hw hr hq hs
 have c12:=ZlM hG hN hQ r l q s m day b1 b2 hw hr hq hs h80
 have c13:=Zm7 (G:=G) r l q s m day b1 b2 hw hr hq hs
 have c14:=ZlN hG hN hQ r l q s m day a1 a2 hw hr hq hs h80
 have c15:=Zm8 (G:=G) r l q s m day a1 a2 hw hr hq hs
 have c16:=Ziz (G:=G) r r l l q q hr.1 hw.1 hq
 have c17:=PC.sub (ZiA (G:=G) (chE r l q s m day (a1,a2) (b1,b2)).1 _ ZmB) (xs:=[orNil ((chE r l q s m day (a1,a2) (b1,b2)).1.map sa),orNil ((chE r l q s m day (a1,a2) (b1,b2)).1.map sa)]) ⟨.orNil _,.orNil _,trivial⟩
 have c18:=ZmD (G:=G) (rcL r (st5 r l q s m day) false (b1,b2)) (decide (puN r l q s m day (b1,b2) (b1,b2)=0)) (by have:=ZmC (r:=r) (L:=st5 r l q s m day) (t:=false) (x:=(b1,b2));unfold Sml;omega)
 have c19:=ZmD (G:=G) (rcL r (st5 r l q s m day) true (a1,a2)) (decide (puN r l q s m day (a1,a2) (a1,a2)=0)) (by have:=ZmC (r:=r) (L:=st5 r l q s m day) (t:=true) (x:=(a1,a2));unfold Sml;omega)
 simp only [decide_eq_true_eq]at c18 c19
 have p1:=Zfm (l:=(chE r l q s m day (a1,a2) (b1,b2)).1.map sa) (by simp [sa,AV.pure])
 have k1:=Zfn ((chE r l q s m day (a1,a2) (b1,b2)).1.map sa)
 have pL:∀ L:List Rf,(liR L).pure=true∧(orNil (L.map ita)).pure=true:=fun L=>⟨by simp [liR,AV.pure,ita],Zfm (by simp [ita,AV.pure])⟩
 have p2:∀ (x:Rf) (t:Bool),(if puN r l q s m day x x=0 then liR (rcL r (st5 r l q s m day) t x) else .nils).pure=true:=fun x t=>by split <;> simp [pL,AV.pure]
 have p3:∀ (x:Rf) (t:Bool),(if puN r l q s m day x x=0 then orNil ((rcL r (st5 r l q s m day) t x).map ita) else .nils).pure=true:=fun x t=>by split <;> simp [pL,AV.pure]
 unfold maE at c8 c9
 unfold chA at c10 c11
 unfold foE at c12 c14
 unfold foF at c13 c15
 have q1:=p2 (b1,b2) false
 have q2:=p3 (b1,b2) false
 have q3:=p2 (a1,a2) true
 have q4:=p3 (a1,a2) true
 clear p2 p3 pL
 unfold swa at *
 generalize orNil ((chE r l q s m day (a1,a2) (b1,b2)).1.map sa)=V1 at *
 generalize (if puN r l q s m day (b1,b2) (b1,b2)=0 then liR (rcL r (st5 r l q s m day) false (b1,b2)) else .nils)=V2 at *
 generalize (if puN r l q s m day (b1,b2) (b1,b2)=0 then orNil ((rcL r (st5 r l q s m day) false (b1,b2)).map ita) else .nils)=V3 at *
 generalize (if puN r l q s m day (a1,a2) (a1,a2)=0 then liR (rcL r (st5 r l q s m day) true (a1,a2)) else .nils)=V4 at *
 generalize (if puN r l q s m day (a1,a2) (a1,a2)=0 then orNil ((rcL r (st5 r l q s m day) true (a1,a2)).map ita) else .nils)=V5 at *
 generalize (if puN r l q s m day (a1,a2) (b1,b2)=0 then decide (diV (edg (st5 r l q s m day)) (b1,b2) (a1,a2)<1048576) else false)=B1 at *
 generalize (chE r l q s m day (a1,a2) (b1,b2)).2=e1 at *
 generalize puN r l q s m day (a1,a2) (b1,b2)=e2 at *
 generalize puN r l q s m day (b1,b2) (b1,b2)=e3 at *
 generalize puN r l q s m day (a1,a2) (a1,a2)=e4 at *
 (refine Z6B rfl fun R hG hrd=>GO_AR mixed 1000 ?_;subst hG)
 simp -implicitDefEqProofs [Z6z,Z6A]
 (first|refine CallK.of (c6) (by simp) ?_|refine CallD.of (c6) (by simp) ?_)
 cases h6:(Zbh r||decide (16<l.length)||decide (20<q.length))
 · by_cases h7:(20:Int)<s.length
   · simp -implicitDefEqProofs [h7]
   simp -implicitDefEqProofs [h7]
   (first|refine CallK.of (c7) (by simp) ?_|refine CallD.of (c7) (by simp) ?_)
   simp -implicitDefEqProofs []
   (first|refine CallK.of (c8) (by simp) ?_|refine CallD.of (c8) (by simp) ?_)
   simp -implicitDefEqProofs []
   (first|refine CallK.of (c9) (by simp) ?_|refine CallD.of (c9) (by simp) ?_)
   simp -implicitDefEqProofs []
   (first|refine CallK.of (c10) (by simp) ?_|refine CallD.of (c10) (by simp) ?_)
   simp -implicitDefEqProofs []
   (first|refine CallK.of (c11) (by simp) ?_|refine CallD.of (c11) (by simp) ?_)
   simp -implicitDefEqProofs []
   refine CallK.of c17 (by simp [p1]) ?_
   simp -implicitDefEqProofs []
   (first|refine CallK.of (c12) (by simp) ?_|refine CallD.of (c12) (by simp) ?_)
   simp -implicitDefEqProofs []
   (first|refine CallK.of (c13) (by simp) ?_|refine CallD.of (c13) (by simp) ?_)
   simp -implicitDefEqProofs []
   (first|refine CallK.of (c14) (by simp) ?_|refine CallD.of (c14) (by simp) ?_)
   simp -implicitDefEqProofs []
   (first|refine CallK.of (c15) (by simp) ?_|refine CallD.of (c15) (by simp) ?_)
   simp -implicitDefEqProofs []
   refine CallK.of c18 (by simp [q1,q2]) ?_
   simp -implicitDefEqProofs []
   refine CallK.of c19 (by simp [q3,q4]) ?_
   simp -implicitDefEqProofs []
   (first|refine CallK.of (c16) (by simp) ?_|refine CallD.of (c16) (by simp) ?_)
   simp -implicitDefEqProofs []
 · simp -implicitDefEqProofs []
theorem ZmF (hG:GC G) (hN:GN G) (hQ:GQ G) (r:List Iss) (l:List Nte) (q:List Rul) (s:List Int) (m day a1 a2 b1 b2:Int) (hr:∀ x∈r,KOk x) (hl:∀ x∈l,NOk x) :
  PC Tryz.prog G 5 [swa r l q,.vsl (s.map ia),.int .i64 m,.int .i64 day,.agg [.int .i64 a1,.int .i64 a2],.agg [.int .i64 b1,.int .i64 b2]] (.bool true):=by
 have c6:=Zmz (G:=G) r l q
 by_cases h:(Zbh r||decide (16<l.length)||decide (20<q.length))=true
 · rw [h]at c6
   unfold swa at *
   (refine Z6B rfl fun R hG hrd=>GO_AR mixed 1000 ?_;subst hG)
   simp -implicitDefEqProofs [Z6z,Z6A]
   (first|refine CallK.of (c6) (by simp) ?_|refine CallD.of (c6) (by simp) ?_)
   simp -implicitDefEqProofs []
 · have h':(Zbh r||decide (16<l.length)||decide (20<q.length))=false:=by simpa using h
   by_cases h7:(20:Int)<s.length
   · rw [h']at c6
     unfold swa at *
     (refine Z6B rfl fun R hG hrd=>GO_AR mixed 1000 ?_;subst hG)
     simp -implicitDefEqProofs [Z6z,Z6A]
     (first|refine CallK.of (c6) (by simp) ?_|refine CallD.of (c6) (by simp) ?_)
     simp -implicitDefEqProofs [h7]
   · simp only [Bool.or_eq_false_iff,decide_eq_false_iff_not]at h'
     have h80:r.length≤80:=by
      have:=h'.1.1
      simp only [Zbh,Bool.or_eq_false_iff,decide_eq_false_iff_not]at this
      omega
     exact ZmE hG hN hQ r l q s m day a1 a2 b1 b2 ⟨by unfold Sml;omega,hl⟩ (Zmx h'.1.1 hr) (by unfold Sml;omega) (by unfold Sml;omega) (by omega)
end
theorem ZmG {xs:List AV} (h:TVs [.int .i64] xs):∃ n:Int,xs=ia n:=by
 obtain ⟨x0,_,rfl,h0,h⟩:=h.cons_inv
 obtain rfl:=h.nil_inv
 obtain ⟨n,rfl,-⟩:=h0.int_inv
 exact ⟨n,rfl⟩
open Go.ChangeShapes Go.WideShapes Go.ChangeAt Go.WideMaps Go.WideElems Go.RowKit Go.Deep
def laid5:List (String×DataW Unit):=[("blueline/sheet.checks",Rows.laid_blueline_sheet_checks),("blueline/note.checks",Rows.laid_blueline_note_checks),("blueline/swap.sources",Rows.laid_blueline_swap_sources)]
theorem ZmH (os:Os) (args:Array Value):laidMetH Tryz.prog laid5 ((World.doorLaid Tryz.prog 41 os).forCall (fun _ _=>0) ⟨#[],args,[]⟩).memory :=
 laidMetH_of_parts3 (fuel:=8) (laidMet_of_run' 8 (by kernel_rfl) (by kernel_rfl)) (by kernel_rfl) (by kernel_rfl)
theorem cellF {W:World} {fuel:Nat} {c:Value} {y:DataW (List UInt8)×List MemPlace} {tE:Nat} {fld:Field} {ps rs:Array TypeId} {vd:Bool} {b:UInt8} {s:List UInt8} {f0:FuncId}
  (uE:Tryz.prog.underlying tE=some (.struct #[fld])) (hfo:fld.offset=0) (uF:Tryz.prog.underlying fld.type=some (.func ps rs vd)) (cF:Tryz.prog.cellsOf fld.type=1)
  (hone:((List.range Tryz.prog.funcs.size).filter fun f=>(Tryz.prog.funcs[f]?).any (·.name.toUTF8.data.toList == b::s))=[f0])
  (h:DataW.trod (funcToken Tryz.prog) Tryz.prog W 0 (fun _=>true) true fuel tE [c]=some y) (hy:y.1 = .agg [.held (b::s)]):c = .func (.func f0) #[] #[]:=by
 obtain ⟨y0,n,rfl,-,h0⟩:=trod_struct1 uE h
 rw [hfo,List.drop_zero,cF]at h0
 simp only [DataW.agg.injEq,List.cons.injEq,and_true]at hy
 exact func_of_trod (q:=y0.2) uF hone (by rw [← hy];simpa using h0)
theorem ZmI {W:World} {laid:List (String×DataW Unit)} {nm:String} {d:DataW Unit} {g tA tE:Nat} {fld:Field} {ps rs:Array TypeId} {vd:Bool} {n:Nat} (toks:List (List UInt8)) (fs:List FuncId)
  (h:laidMetH Tryz.prog laid W) (hm:(nm,DataW.iface "func table" d)∈laid) (hg:Tryz.prog.globalNamed nm=some g) (ht:(Tryz.prog.globals[g]?).map (·.type)=some tA)
  (uA:Tryz.prog.underlying tA=some (.array n tE)) (uE:Tryz.prog.underlying tE=some (.struct #[fld])) (hfo:fld.offset=0) (uF:Tryz.prog.underlying fld.type=some (.func ps rs vd))
  (cA:Tryz.prog.cellsOf tA=n) (cE:Tryz.prog.cellsOf tE=1) (cF:Tryz.prog.cellsOf fld.type=1) (hl1:toks.length=n) (hl2:fs.length=n)
  (hd0:(d.funcsOut:DataW (List UInt8)) = .agg (toks.map fun s=>.agg [.held s]))
  (hone:∀ (i:Nat) (s:List UInt8) (f:FuncId),toks[i]? = some s→fs[i]? = some f→∃ b r,s=b::r∧((List.range Tryz.prog.funcs.size).filter fun f=>(Tryz.prog.funcs[f]?).any (·.name.toUTF8.data.toList == b::r))=[f]) :
  ∃ t fr,W.heap[g]? = some (.cells ((fs.map fun f=>Value.func (.func f) #[] #[]).toArray) t fr):=by
 obtain ⟨g',t,cs,fuel,p,hg',ht',hv,hd⟩:=h.funcs hm
 obtain rfl:=Option.some.inj (hg.symm.trans hg')
 obtain rfl:=Option.some.inj (ht.symm.trans ht')
 obtain ⟨xs,m,rfl,hx,hlen,hn,hel⟩:=DataW.trod_array uA hd
 rw [cA]at hlen
 rw [cE]at hel
 rw [hd0,Prod.mk.injEq,DataW.agg.injEq]at hx
 have hx:=hx.1
 have hcs:cs.toList=fs.map fun f=>Value.func (.func f) #[] #[]:=by
  refine List.ext_getElem? fun i=>?_
  by_cases hi:i<n
  · have e:=hel i hi
    have h1:i<xs.length:=by omega
    have h2:i<toks.length:=by omega
    have h3:i<fs.length:=by omega
    have h4:i<cs.toList.length:=by omega
    obtain ⟨b,r,hb,ho⟩:=hone i _ _ (List.getElem?_eq_getElem h2) (List.getElem?_eq_getElem h3)
    rw [Nat.mul_one,List.drop_eq_getElem_cons h4,List.take_succ_cons,List.take_zero,List.getElem?_eq_getElem h1]at e
    have ey:=congrArg (fun l=>l[i]?) hx
    simp only [List.getElem?_map,List.getElem?_eq_getElem h2,List.getElem?_eq_getElem h1,Option.map_some,Option.some.injEq]at ey
    rw [hb]at ey
    have:=cellF uE hfo uF cF ho e ey.symm
    rw [List.getElem?_eq_getElem h4,List.getElem?_map,List.getElem?_eq_getElem h3,this]
    rfl
  · rw [List.getElem?_eq_none (by omega),List.getElem?_eq_none (by simp;omega)]
 simp only [World.var?,hg,Option.bind_some]at hv
 split at hv
 · rename_i cs' t fr heq
   injection hv with hv
   have e:cs=(fs.map fun f=>Value.func (.func f) #[] #[]).toArray:=by rw [← hcs]
   exact ⟨t,fr,by rw [heq,hv,e]⟩
 · cases hv
def TabB (W:World) (g:Nat) (fs:List FuncId):Prop:=∃ t fr,W.heap[g]? = some (.cells ((fs.map fun f=>Value.func (.func f) #[] #[]).toArray) t fr)
def tabA (fs:List FuncId):List AV:=fs.map fun f=>.func (.func f) [] []
theorem ZmJ {W:World} {g:Nat} {fs:List FuncId} (h:TabB W g fs):PV noM W (.vptr (tabA fs) 0) (.pointer (some ⟨g,0,none⟩)):=by
 obtain ⟨t,fr,hb⟩:=h
 refine .vptr _ 0 g 0 (fun j=>(((fs.map fun f=>Value.func (.func f) #[] #[]).toArray)[j]?).getD undef) (Array.getElem?_eq_some_iff.1 hb).1 id ?_ ?_
 · intro j hj
   have hj':j<fs.length:=by simpa [tabA] using hj
   simp [World.cell?,hb,hj']
 · intro j x hx
   unfold tabA at hx
   rw [List.getElem?_map,Option.map_eq_some_iff]at hx
   obtain ⟨f,hf,rfl⟩:=hx
   have hj':=(List.getElem?_eq_some_iff.1 hf).1
   have e:((fs.map fun f=>Value.func (.func f) #[] #[]).toArray)[j]? = some (.func (.func f) #[] #[]):=by simp [hf]
   rw [e]
   exact .func _ [] [] #[] #[] rfl rfl (by simp) (by simp)
def fsC:List FuncId:=[193,194,195,196]
def fsN:List FuncId:=[203,204,205,206,208,209,212,214]
def fsQ:List FuncId:=[191,192]
set_option maxRecDepth 100000 in
theorem ZmK {W:World} (h:laidMetH Tryz.prog laid5 W):TabB W 1 fsC :=
 ZmI [[98,108,117,101,108,105,110,101,47,115,104,101,101,116,46,99,104,101,99,107,115,36,49],[98,108,117,101,108,105,110,101,47,115,104,101,101,116,46,99,104,101,99,107,115,36,50],[98,108,117,101,108,105,110,101,47,115,104,101,101,116,46,99,104,101,99,107,115,36,51],[98,108,117,101,108,105,110,101,47,115,104,101,101,116,46,99,104,101,99,107,115,36,52]] fsC h (List.mem_cons_self ..) (by kernel_rfl) (by kernel_rfl) Tryz.underlying222 (fld:=_) Tryz.underlying221 rfl Tryz.underlying220 (by kernel_rfl) (by kernel_rfl) (by kernel_rfl) rfl rfl rfl
 (fun i s f hs hf=>by
  match i,hs,hf with
  |0,hs,hf=>cases hs;cases hf;exact ⟨_,_,rfl,by kernel_rfl⟩
  |1,hs,hf=>cases hs;cases hf;exact ⟨_,_,rfl,by kernel_rfl⟩
  |2,hs,hf=>cases hs;cases hf;exact ⟨_,_,rfl,by kernel_rfl⟩
  |3,hs,hf=>cases hs;cases hf;exact ⟨_,_,rfl,by kernel_rfl⟩
  |i+4,hs,_=>simp at hs)
set_option maxRecDepth 100000 in
theorem ZmL {W:World} (h:laidMetH Tryz.prog laid5 W):TabB W 2 fsN :=
 ZmI [[98,108,117,101,108,105,110,101,47,110,111,116,101,46,99,104,101,99,107,115,36,49],[98,108,117,101,108,105,110,101,47,110,111,116,101,46,99,104,101,99,107,115,36,50],[98,108,117,101,108,105,110,101,47,110,111,116,101,46,99,104,101,99,107,115,36,51],[98,108,117,101,108,105,110,101,47,110,111,116,101,46,99,104,101,99,107,115,36,52],[98,108,117,101,108,105,110,101,47,110,111,116,101,46,99,104,101,99,107,115,36,53],[98,108,117,101,108,105,110,101,47,110,111,116,101,46,99,104,101,99,107,115,36,54],[98,108,117,101,108,105,110,101,47,110,111,116,101,46,99,104,101,99,107,115,36,55],[98,108,117,101,108,105,110,101,47,110,111,116,101,46,99,104,101,99,107,115,36,56]] fsN h (List.mem_cons_of_mem _ (List.mem_cons_self ..)) (by kernel_rfl) (by kernel_rfl) Tryz.underlying233 (fld:=_) Tryz.underlying232 rfl Tryz.underlying199 (by kernel_rfl) (by kernel_rfl) (by kernel_rfl) rfl rfl rfl
 (fun i s f hs hf=>by
  match i,hs,hf with
  |0,hs,hf=>cases hs;cases hf;exact ⟨_,_,rfl,by kernel_rfl⟩
  |1,hs,hf=>cases hs;cases hf;exact ⟨_,_,rfl,by kernel_rfl⟩
  |2,hs,hf=>cases hs;cases hf;exact ⟨_,_,rfl,by kernel_rfl⟩
  |3,hs,hf=>cases hs;cases hf;exact ⟨_,_,rfl,by kernel_rfl⟩
  |4,hs,hf=>cases hs;cases hf;exact ⟨_,_,rfl,by kernel_rfl⟩
  |5,hs,hf=>cases hs;cases hf;exact ⟨_,_,rfl,by kernel_rfl⟩
  |6,hs,hf=>cases hs;cases hf;exact ⟨_,_,rfl,by kernel_rfl⟩
  |7,hs,hf=>cases hs;cases hf;exact ⟨_,_,rfl,by kernel_rfl⟩
  |i+8,hs,_=>simp at hs)
set_option maxRecDepth 100000 in
theorem ZmM {W:World} (h:laidMetH Tryz.prog laid5 W):TabB W 0 fsQ :=
 ZmI [[40,98,108,117,101,108,105,110,101,47,115,119,97,112,46,109,111,109,101,110,116,41,46,98,121,78,111,116,101,115],[40,98,108,117,101,108,105,110,101,47,115,119,97,112,46,109,111,109,101,110,116,41,46,98,121,82,117,108,101,115]] fsQ h (List.mem_cons_of_mem _ (List.mem_cons_of_mem _ (List.mem_cons_self ..))) (by kernel_rfl) (by kernel_rfl) Tryz.underlying159 (fld:=_) Tryz.underlying158 rfl Tryz.underlying156 (by kernel_rfl) (by kernel_rfl) (by kernel_rfl) rfl rfl rfl
 (fun i s f hs hf=>by
  match i,hs,hf with
  |0,hs,hf=>cases hs;cases hf;exact ⟨_,_,rfl,by kernel_rfl⟩
  |1,hs,hf=>cases hs;cases hf;exact ⟨_,_,rfl,by kernel_rfl⟩
  |i+2,hs,_=>simp at hs)
def G5:Nat→Option (List AV):=fun g=>if g=1 then some (tabA fsC) else if g=2 then some (tabA fsN) else if g=0 then some (tabA fsQ) else none
theorem ZmN:GC G5:=rfl
theorem ZmO:GN G5:=rfl
theorem ZmP:GQ G5:=rfl
theorem ZmQ {W:World} (h:laidMetH Tryz.prog laid5 W):GR G5 noM W:=by
 intro g cs hg
 simp only [G5]at hg
 split at hg
 · rename_i e;subst e;cases hg;exact ZmJ (ZmK h)
 · split at hg
   · rename_i e;subst e;cases hg;exact ZmJ (ZmL h)
   · split at hg
     · rename_i e;subst e;cases hg;exact ZmJ (ZmM h)
     · cases hg
def nteK:List TY:=[.int .i64,.int .i64,.int .u8,.int .i64,.int .i64,.int .i64,.int .i64,.int .i64,.bool,.int .u8]
def rulK:List TY:=[.int .i64,.int .i64,.int .i64,.int .i64,.int .i64,.int .i64,.bool,.int .i64]
def swpK:List TY:=[.sl isK2,.sl nteK,.sl rulK]
theorem ZmR {xs:List AV} (h:TVs nteK xs):∃ x:Nte,xs=na x∧NOk x:=by
 obtain ⟨x0,_,rfl,h0,h⟩:=h.cons_inv
 obtain ⟨x1,_,rfl,h1,h⟩:=h.cons_inv
 obtain ⟨x2,_,rfl,h2,h⟩:=h.cons_inv
 obtain ⟨x3,_,rfl,h3,h⟩:=h.cons_inv
 obtain ⟨x4,_,rfl,h4,h⟩:=h.cons_inv
 obtain ⟨x5,_,rfl,h5,h⟩:=h.cons_inv
 obtain ⟨x6,_,rfl,h6,h⟩:=h.cons_inv
 obtain ⟨x7,_,rfl,h7,h⟩:=h.cons_inv
 obtain ⟨x8,_,rfl,h8,h⟩:=h.cons_inv
 obtain ⟨x9,_,rfl,h9,h⟩:=h.cons_inv
 obtain rfl:=h.nil_inv
 obtain ⟨v0,rfl,-⟩:=h0.int_inv
 obtain ⟨v1,rfl,-⟩:=h1.int_inv
 obtain ⟨v2,rfl,k2⟩:=h2.int_inv
 obtain ⟨v3,rfl,-⟩:=h3.int_inv
 obtain ⟨v4,rfl,-⟩:=h4.int_inv
 obtain ⟨v5,rfl,-⟩:=h5.int_inv
 obtain ⟨v6,rfl,-⟩:=h6.int_inv
 obtain ⟨v7,rfl,-⟩:=h7.int_inv
 obtain ⟨v8,rfl⟩:=h8.bool_inv
 obtain ⟨v9,rfl,k9⟩:=h9.int_inv
 obtain ⟨a2,b2⟩:=bounds_u8 k2
 obtain ⟨a9,b9⟩:=bounds_u8 k9
 exact ⟨⟨v0,v1,v2,v3,v4,v5,v6,v7,v8,v9⟩,rfl,a2,b2,a9,b9⟩
theorem ZmS {xs:List AV} (h:TVs rulK xs):∃ x:Rul,xs=ra x:=by
 obtain ⟨x0,_,rfl,h0,h⟩:=h.cons_inv
 obtain ⟨x1,_,rfl,h1,h⟩:=h.cons_inv
 obtain ⟨x2,_,rfl,h2,h⟩:=h.cons_inv
 obtain ⟨x3,_,rfl,h3,h⟩:=h.cons_inv
 obtain ⟨x4,_,rfl,h4,h⟩:=h.cons_inv
 obtain ⟨x5,_,rfl,h5,h⟩:=h.cons_inv
 obtain ⟨x6,_,rfl,h6,h⟩:=h.cons_inv
 obtain ⟨x7,_,rfl,h7,h⟩:=h.cons_inv
 obtain rfl:=h.nil_inv
 obtain ⟨v0,rfl,-⟩:=h0.int_inv
 obtain ⟨v1,rfl,-⟩:=h1.int_inv
 obtain ⟨v2,rfl,-⟩:=h2.int_inv
 obtain ⟨v3,rfl,-⟩:=h3.int_inv
 obtain ⟨v4,rfl,-⟩:=h4.int_inv
 obtain ⟨v5,rfl,-⟩:=h5.int_inv
 obtain ⟨v6,rfl⟩:=h6.bool_inv
 obtain ⟨v7,rfl,-⟩:=h7.int_inv
 exact ⟨⟨v0,v1,v2,v3,v4,v5,v6,v7⟩,rfl⟩
theorem ZmT {xs:List AV} (h:TVs swpK xs):∃ (r:List Iss) (l:List Nte) (q:List Rul),AV.agg xs=swa r l q∧(∀ x∈r,KOk x)∧∀ x∈l,NOk x:=by
 obtain ⟨x0,_,rfl,h0,h⟩:=h.cons_inv
 obtain ⟨x1,_,rfl,h1,h⟩:=h.cons_inv
 obtain ⟨x2,_,rfl,h2,h⟩:=h.cons_inv
 obtain rfl:=h.nil_inv
 obtain ⟨rows,rfl,-,g⟩:=h0.sl_inv
 obtain ⟨r,rfl,hr⟩:=Zmv (f:=isa) (p:=KOk) fun r hr=>Zmu (g r hr)
 obtain ⟨rows,rfl,-,g⟩:=h1.sl_inv
 obtain ⟨l,rfl,hl⟩:=Zmv (f:=na) (p:=NOk) fun r hr=>ZmR (g r hr)
 obtain ⟨rows,rfl,-,g⟩:=h2.sl_inv
 obtain ⟨q,rfl⟩:=Zmn (f:=ra) fun r hr=>ZmS (g r hr)
 exact ⟨r,l,q,rfl,hr,hl⟩
end Go.Proofs.YtpkfmfkccbnnjaaGreatDoor
