/-
  The reference's table: a list of lists of its own.
-/
import Derived.Test.YtpkfmfkccbnnjaaGreatDoorJAmLToAmR
import Derived.Test.YtpkfmfkccbnnjaaGreatDoorJRcVToEc
import Derived.Test.YtpkfmfkccbnnjaaGreatDoorJSiToTk
import Derived.Test.YtpkfmfkccbnnjaaGreatDoorProg
import Derived.Test.YtpkfmfkccbnnjaaGreatDoorJNdToSh
import Derived.Test.YtpkfmfkccbnnjaaGreatDoorJEdToNe
import Derived.Test.YtpkfmfkccbnnjaaGreatDoorJOpenToOpen
import Derived.Test.YtpkfmfkccbnnjaaGreatDoorJRowToRow
set_option linter.all false
set_option linter.unusedSimpArgs false
set_option linter.unusedVariables false
set_option linter.unusedSectionVars false
namespace Go.Proofs.YtpkfmfkccbnnjaaGreatDoor
open Go.RowKit
def fam (T:Nat→List (List AV)) (m:Nat):List (Nat×AObj):=(List.range m).map fun j=>(500+j,.row 1 (T j))
theorem Zlr (T:Nat→List (List AV)) (m:Nat):fam T (m+1)=fam T m++[(500+m,.row 1 (T m))]:=by simp[fam,List.range_succ]
theorem Zls {α:Type} {l':List (Nat×α)} {k:Nat}:∀ {l:List (Nat×α)},lk (l++l') k=match lk l k with
  |some x=>some x
  |none=>lk l' k
 |[]=>rfl
 | (n,x)::l=>by
   simp only[List.cons_append,lk]
   split
   · rfl
   · exact Zls
theorem Zlt (T:Nat→List (List AV)) (k:Nat):∀ m,lk (fam T m) k=if 500≤k∧k<500+m then some (.row 1 (T (k-500))) else none
 |0=>by simp[fam,lk]
 | m + 1=>by
   rw[Zlr,Zls,Zlt T k m];by_cases c:500≤k∧k<500+m
   · rw[if_pos c,if_pos ⟨c.1,by omega⟩]
   · rw[if_neg c];simp only[lk];by_cases e:500+m=k
     · subst e;rw[if_pos rfl,if_pos ⟨by omega,by omega⟩];simp
     · rw[if_neg e,if_neg (by omega)]
theorem Zlu {α:Type} {k:Nat} {y:α}:∀ {l:List (Nat×α)},lk l k=none→putO l k y=l++[(k,y)]
 |[],_=>rfl
 | (n,x)::l,h=>by
   simp only[lk]at h
   split at h
   · cases h
   · rename_i e;simp only[putO,e,if_false,List.cons_append];rw[Zlu h]
theorem Zlv {α:Type} {k:Nat} {y:α} {l':List (Nat×α)}:∀ {l:List (Nat×α)},lk l k=none→putO (l++l') k y=l++putO l' k y
 |[],_=>rfl
 | (n,x)::l,h=>by
   simp only[lk]at h
   split at h
   · cases h
   · rename_i e;simp only[putO,e,if_false,List.cons_append];rw[Zlv h]
theorem Zlw {α:Type} {k:Nat} {y:α} {l':List (Nat×α)}:∀ {l:List (Nat×α)},(lk l k).isSome=true→putO (l++l') k y=putO l k y++l'
 |[],h=>by simp[lk]at h
 | (n,x)::l,h=>by
   simp only[lk]at h
   split at h
   · rename_i e;simp only[putO,e,if_true,List.cons_append]
   · rename_i e;simp only[putO,e,if_false,List.cons_append];rw[Zlw h]
def updT (T:Nat→List (List AV)) (i:Nat) (y:List (List AV)):Nat→List (List AV):=fun j=>if j=i then y else T j
theorem Zlx (T:Nat→List (List AV)) (i:Nat) (y:List (List AV)):∀ m,i<m→putO (fam T m) (500+i) (.row 1 y)=fam (updT T i y) m
 |0,h=>by omega
 | m + 1,h=>by
   rw[Zlr,Zlr];by_cases c:i<m
   · rw[Zlw (by rw[Zlt,if_pos ⟨by omega,by omega⟩];rfl),Zlx T i y m c];have:¬m=i:=(by omega);simp[updT,this]
   · obtain rfl:i=m:=(by omega);rw[Zlv (by rw[Zlt,if_neg (by omega)])]
     have e:fam (updT T i y) i=fam T i:=by
      unfold fam;refine List.map_congr_left fun j hj=>?_
      have:¬j=i:=(by have:=List.mem_range.1 hj;omega);simp[updT,this]
     rw[e];simp[putO,updT]
theorem Zly {T U:Nat→List (List AV)} {m:Nat} (h:∀ j,j<m→T j=U j):fam T m=fam U m:=by
 unfold fam;exact List.map_congr_left fun j hj=>by rw[h j (List.mem_range.1 hj)]
def toR (n i:Nat):List (List AV):=(List.range n).map fun j=>[if j<i then .osl (500+j) n else .nils]
theorem Zlz (n i:Nat):(toR n i).length=n:=by simp[toR]
def toN (i:Nat):Nat→Nat:=fun k=>if k=500+i then 38 else k
theorem ZlA {n i:Nat} (hi:i<n):(toR n (i+1)).map (fun r=>r.map (AV.ren (toN i)))=(toR n i).set i [.osl 38 n]:=by
 refine List.ext_getElem (by simp[toR]) fun j h1 h2=>?_
 have hj:j<n:=(by simpa [toR] using h1);rw[List.getElem_set];simp only[toR,List.map_map,List.getElem_map,List.getElem_range,Function.comp,List.map_cons,List.map_nil];by_cases c:j<i
 · have:¬i=j:=(by omega);rw[if_neg this,if_pos (by omega),if_pos c];have e:¬500+j=500+i:=(by omega);simp[AV.ren,toN,e];omega
 · by_cases e:i=j
   · subst e;rw[if_pos rfl,if_pos (by omega)];simp[AV.ren,toN]
   · rw[if_neg e,if_neg (by omega),if_neg c];simp[AV.ren]
def tbR (val:Nat→Nat→Bool) (n k i j:Nat):List (List AV):=(List.range n).map fun c=>[.bool ((decide (c<k)||(decide (c=k)&&decide (j<i)))&&val j c)]
theorem ZlB (val:Nat→Nat→Bool) (n k i j:Nat):(tbR val n k i j).length=n:=by simp[tbR]
theorem ZlC {val:Nat→Nat→Bool} {n k j:Nat} (hj:j<n):tbR val n k n j=tbR val n (k+1) 0 j:=by
 unfold tbR;refine List.map_congr_left fun c _=>?_
 congr 2
 have:(decide (c<k)||(decide (c=k)&&decide (j<n)))=(decide (c<k+1)||(decide (c=k+1)&&decide (j<0))):=by
  rw[Bool.eq_iff_iff];simp only[Bool.or_eq_true,Bool.and_eq_true,decide_eq_true_eq];omega
 rw[this]
theorem ZlD {val:Nat→Nat→Bool} {n k i:Nat} (hk:k<n):(tbR val n k i i).set k [.bool (val i k)]=tbR val n k (i+1) i:=by
 refine List.ext_getElem (by simp[tbR]) fun c h1 h2=>?_
 rw[List.getElem_set]
 split
 · rename_i e;subst e;simp[tbR]
 · rename_i e;simp only[tbR,List.getElem_map,List.getElem_range]
   congr 2
   have:(decide (c<k)||(decide (c=k)&&decide (i<i)))=(decide (c<k)||(decide (c=k)&&decide (i<i+1))):=by
    rw[Bool.eq_iff_iff];simp only[Bool.or_eq_true,Bool.and_eq_true,decide_eq_true_eq];omega
   rw[this]
theorem ZlE {val:Nat→Nat→Bool} {n k i j:Nat} (h:j≠i):tbR val n k i j=tbR val n k (i+1) j:=by
 unfold tbR;refine List.map_congr_left fun c _=>?_
 have:decide (j<i)=decide (j<i+1):=(by rw[decide_eq_decide];omega);rw[this]
def rf0 (n:Nat):Nat→List (List AV):=fun _=>List.replicate n [.bool false]
def tbT (bs:List Rf) (V:AV):List (Nat×AV):=[(11,.osl 27 bs.length),(10,V),(9,.vsl (bs.map ita)),(4,.ptr 4 0)]
def tb1 (M:List AV) (bs:List Rf) (V:AV) (i:Nat):St:=⟨(12,.int .i64 i)::tbT bs V,(27,.row 1 (toR bs.length i))::(4,.box M)::fam (rf0 bs.length) i⟩
def tb2 (M:List AV) (bs:List Rf) (V:AV) (val:Nat→Nat→Bool) (k:Nat):St:=⟨(13,.int .i64 k)::tbT bs V,(27,.row 1 (toR bs.length bs.length))::(4,.box M)::fam (tbR val bs.length k 0) bs.length⟩
def tb3 (M:List AV) (bs:List Rf) (V:AV) (val:Nat→Nat→Bool) (NL:List Int) (k i:Nat):St :=
 ⟨(15,.int .i64 i)::(14,.vsl (NL.map ia))::(13,.int .i64 k)::tbT bs V,(27,.row 1 (toR bs.length bs.length))::(4,.box M)::fam (tbR val bs.length k i) bs.length⟩
def tbV (E:List (Rf×Rf)) (bs:List Rf) (j c:Nat):Bool:=decide (diV E (bs.getD c default) (bs.getD j default)<1048576)
def tbW (E:List (Rf×Rf)) (bs:List Rf):List (List AV):=(List.range bs.length).map fun j=>[.vsl (tbR (tbV E bs) bs.length bs.length 0 j)]
theorem ZlF {T:Nat→List (List AV)} {m:Nat} {p:Nat×AObj} (h:p∈fam T m):∃ j,j<m∧p=(500+j,.row 1 (T j)):=by
 obtain ⟨j,hj,rfl⟩:=List.mem_map.1 h;exact ⟨j,List.mem_range.1 hj,rfl⟩
theorem ZlG (n j:Nat):(rf0 n j).all (fun r=>r.all AV.pure)=true:=by
 simp only[rf0,List.all_eq_true];intro x hx y hy;rw[List.mem_replicate]at hx;rw[hx.2,List.mem_singleton]at hy;subst hy;simp[AV.pure]
theorem ZlH {o:List (Nat×AObj)} {sz:Nat} {rows:List (List AV)} (h:rows.all (fun r=>r.all AV.pure)=true):Yd o (.row sz rows)=true:=by
 simp only[Yd,List.all_eq_true];intro r hr x hx;have:=List.all_eq_true.1 (List.all_eq_true.1 h r hr) x hx;simp[Ya,AV.pure_keys x this]
theorem ZlI {n i:Nat} {o:List (Nat×AObj)} (h:∀ j,j<i→j<n→(lk o (500+j)).isSome=true):Yd o (.row 1 (toR n i))=true:=by
 simp only[Yd,List.all_eq_true,toR,List.mem_map,List.mem_range];rintro _ ⟨j,hj,rfl⟩ x hx;rw[List.mem_singleton]at hx;subst hx
 split
 · rename_i c;simp[Ya,AV.keys,h j c hj]
 · simp[Ya,AV.keys]
theorem ZlJ {M:List AV} {bs:List Rf} {V:AV} {i:Nat} {t0:List (Nat×AV)} (hi:i<bs.length) (lB:bs.length≤60) (pM:∀ x∈M,x.pure=true) (pV:V.pure=true)
  (h12:lk t0 12=some (.int .i64 ((i:Int)+1))) (h11:lk t0 11=some (.osl 27 bs.length)) (h10:lk t0 10=some V) (h9:lk t0 9=some (.vsl (bs.map ita))) (h4:lk t0 4=some (.ptr 4 0)) :
  Yn ⟨t0,(27,.row 1 ((toR bs.length i).set i [.osl 38 bs.length]))::(4,.box M)::(fam (rf0 bs.length) i++[(38,.row 1 (List.replicate bs.length [.bool false]))])⟩
   ⟨[(12,.int .i64 ((i:Int)+1)),(11,.osl 27 bs.length),(10,V),(9,.vsl (bs.map ita)),(4,.ptr 4 0)],(27,.row 1 (toR bs.length (i+1)))::(4,.box M)::fam (rf0 bs.length) (i+1)⟩:=by
 have n27:toN i 27=27:=(by unfold toN;rw[if_neg (by omega)]);have n4:toN i 4=4:=(by unfold toN;rw[if_neg (by omega)]);have hin:∀ k,lk ((27,AObj.row 1 (toR bs.length (i+1)))::(4,.box M)::fam (rf0 bs.length) (i+1)) k=if 27=k then some (.row 1 (toR bs.length (i+1))) else if 4=k then some (.box M) else if 500≤k∧k<500+(i+1) then some (.row 1 (rf0 bs.length (k-500))) else none:=fun k=>by simp only[lk,Zlt]
 have dom:∀ k,(lk ((27,AObj.row 1 (toR bs.length (i+1)))::(4,.box M)::fam (rf0 bs.length) (i+1)) k).isSome=true→k=27∨k=4∨(500≤k∧k<500+(i+1)):=fun k hk=>by
  rw[hin]at hk
  split at hk
  · rename_i e;exact .inl e.symm
  · split at hk
    · rename_i e;exact .inr (.inl e.symm)
    · split at hk
      · rename_i e;exact .inr (.inr e)
      · cases hk
 refine Yn.rnm (toN i) ?_ ?_ ?_ ?_ ?_
 · have rV:=AV.ren_pure (ρ:=toN i) V pV;have kV:=AV.pure_keys V pV;simp only[List.mem_cons,List.not_mem_nil,or_false,forall_eq_or_imp,forall_eq];refine ⟨⟨by rw[h12];simp[AV.ren],by simp[Ya,AV.keys]⟩,⟨by rw[h11];simp[AV.ren,n27],by simp[Ya,AV.keys,lk]⟩,⟨by rw[h10,rV],by simp[Ya,kV]⟩,⟨by rw[h9];simp[AV.ren],by simp[Ya,AV.keys]⟩,⟨by rw[h4];simp[AV.ren,n4],by simp[Ya,AV.keys,lk]⟩⟩
 · intro p hp;rcases List.mem_cons.1 hp with rfl|hp
   · refine ⟨?_,ZlI fun j h1 h2=>by rw[hin,if_neg (by omega),if_neg (by omega),if_pos ⟨by omega,by omega⟩];rfl⟩;simp only[n27,lk,if_true,AObj.ren,ZlA hi]
   rcases List.mem_cons.1 hp with rfl|hp
   · refine ⟨?_,?_⟩
     · have:M.map (AV.ren (toN i))=M:=by
        conv=>rhs;rw[← List.map_id M]
        exact List.map_congr_left fun x hx=>AV.ren_pure x (pM x hx)
       simp[n4,lk,AObj.ren,this]
     · simp only[Yd,List.all_eq_true];intro x hx;simp[Ya,AV.pure_keys x (pM x hx)]
   obtain ⟨j,hj,rfl⟩:=ZlF hp;refine ⟨?_,ZlH (ZlG _ _)⟩;rw[AObj.ren_pure (ZlG _ _)];by_cases c:j=i
   · subst c;have:toN j (500+j)=38:=(by simp[toN]);simp only[this,lk,Zls,Zlt];rw[if_neg (by omega),if_neg (by omega),if_neg (by omega)];simp[rf0]
   · have:toN i (500+j)=500+j:=(by unfold toN;rw[if_neg (by omega)]);simp only[this,lk,Zls,Zlt];rw[if_neg (by omega),if_neg (by omega),if_pos ⟨by omega,by omega⟩];simp
 · intro k k' h1 h2 e;have q1:=dom k h1;have q2:=dom k' h2;unfold toN at e
   split at e <;> split at e <;> omega
 · intro p hp h1;exfalso;rcases List.mem_cons.1 hp with rfl|hp
   · omega
   rcases List.mem_cons.1 hp with rfl|hp
   · omega
   rcases List.mem_append.1 hp with hp|hp
   · obtain ⟨j,hj,rfl⟩:=ZlF hp;simp only at h1;omega
   · rw[List.mem_singleton]at hp;subst hp;simp only at h1;omega
 · intro k h1 h2;have:=dom k h2;omega
theorem ZlK {i:Nat} (h:i<61):Z2t [{ d:=some 59,rt:=[11],fk:=[],wk:=[],aft:=[] },{ d:=some 60,rt:=[15],fk:=[],wk:=[],aft:=[] },{ d:=some 61,rt:=[59,60],fk:=[27],wk:=[],aft:=[0,1] },{ d:=some 62,rt:=[61],fk:=[27],wk:=[],aft:=[2] },{ d:=some 63,rt:=[13],fk:=[],wk:=[],aft:=[] },{ d:=some 64,rt:=[14],fk:=[],wk:=[],aft:=[] },{ d:=some 65,rt:=[15],fk:=[],wk:=[],aft:=[] },{ d:=some 66,rt:=[64,65],fk:=[],wk:=[],aft:=[5,6] },{ d:=some 67,rt:=[66],fk:=[],wk:=[],aft:=[7] },{ d:=some 68,rt:=[67],fk:=[],wk:=[],aft:=[8] },{ d:=some 69,rt:=[62,63],fk:=[500+i],wk:=[],aft:=[3,4,0,1,2,3,4,5,6,7,8,9] },{ d:=none,rt:=[69,68],fk:=[500+i],wk:=[500+i],aft:=[10,9,0,1,2,3,4,5,6,7,8,9] }]=true:=by
 have h1:∀ j:_root_.Fin 61,Z2t [{ d:=some 59,rt:=[11],fk:=[],wk:=[],aft:=[] },{ d:=some 60,rt:=[15],fk:=[],wk:=[],aft:=[] },{ d:=some 61,rt:=[59,60],fk:=[27],wk:=[],aft:=[0,1] },{ d:=some 62,rt:=[61],fk:=[27],wk:=[],aft:=[2] },{ d:=some 63,rt:=[13],fk:=[],wk:=[],aft:=[] },{ d:=some 64,rt:=[14],fk:=[],wk:=[],aft:=[] },{ d:=some 65,rt:=[15],fk:=[],wk:=[],aft:=[] },{ d:=some 66,rt:=[64,65],fk:=[],wk:=[],aft:=[5,6] },{ d:=some 67,rt:=[66],fk:=[],wk:=[],aft:=[7] },{ d:=some 68,rt:=[67],fk:=[],wk:=[],aft:=[8] },{ d:=some 69,rt:=[62,63],fk:=[500+j.val],wk:=[],aft:=[3,4,0,1,2,3,4,5,6,7,8,9] },{ d:=none,rt:=[69,68],fk:=[500+j.val],wk:=[500+j.val],aft:=[10,9,0,1,2,3,4,5,6,7,8,9] }]=true:=(by decide +kernel);exact h1 ⟨i,h⟩
theorem ZlL {α β:Type} {f:α→Option β} {F:Nat→α} {H:Nat→β}:∀ n,(∀ j,j<n→f (F j)=some (H j))→∀ l:List Nat,(∀ j∈l,j<n)→Yk f (l.map F)=some (l.map H)
 |_,_,[],_=>rfl
 | n,h,j::l,hl=>by
   have h1:=h j (hl j (List.mem_cons_self ..));have h2:=ZlL n h l fun j hj=>hl j (List.mem_cons_of_mem _ hj)
   simp only[List.map_cons,Yk,h1,h2]
theorem ZlM {M:List AV} {val:Nat→Nat→Bool} {n:Nat} {t:List (Nat×AV)}:Yk (Yk (Yi okAll ⟨t,(27,.row 1 (toR n n))::(4,.box M)::fam (tbR val n n 0) n⟩ 5)) (toR n n)=some ((List.range n).map fun j=>[.vsl (tbR val n n 0 j)]):=by
 refine ZlL n (fun j hj=>?_) _ fun j hj=>List.mem_range.1 hj
 have hg:(⟨t,(27,.row 1 (toR n n))::(4,.box M)::fam (tbR val n n 0) n⟩ : St).get (500+j)=some (.row 1 (tbR val n n 0 j)):=by
  simp only[St.get,lk,Zlt];rw[if_neg (by omega),if_neg (by omega),if_pos ⟨by omega,by omega⟩];simp
 have hp:(tbR val n n 0 j).all (fun r=>r.all AV.pure)=true:=(by simp[tbR,AV.pure]);have hl:=ZlB val n n 0 j;rw[if_pos hj];simp only[Yk,Yi,hg,hl,okAll,and_self,if_true,hp]
section
variable {G:Nat→Option (List AV)}
set_option maxHeartbeats 2000000 in
theorem ZlN (r:List Iss) (l:List Nte) (q:List Rul) (s:List Int) (m day:Int) (hw:WfN l) (hr:Wf r) (hs:Sml s) (h:chS r l q=0) (hne:r≠[]) :
  PC Tryz.prog G 68 [swa r l q,.vsl (s.map ia),.int .i64 m,.int .i64 day] (.vsl (tbW (edg (st5 r l q s m day)) (rfs r))):=by
 obtain ⟨h1,h2,h3,h4⟩:=Zlj h;have hn:=Zlk r;have hR:=ZjW (G:=G) r hr.1.1;have hS:=ZiP (G:=G) r l q s m day hw hr h4 hs h3 h2;have hL:=fun y1 y2 hy=>Zll (G:=G) r l q s m day y1 y2 h hy
 rw[Zlf hne]at hR;have pV:=Zfc (l:=(st5 r l q s m day).map sa) (by simp[sa,AV.pure]);have kV:=Zfd ((st5 r l q s m day).map sa);generalize Yh ((st5 r l q s m day).map sa)=V at *;generalize edg (st5 r l q s m day)=E at *;have lB:(rfs r).length≤60:=(by omega);generalize rfs r=bs at *;unfold swa at *;have b16:(bs.length:Int)≤16777216:=by omega
 have e00:List.replicate bs.length [AV.nils]=toR bs.length 0:=by
  refine List.ext_getElem (by simp[toR]) fun j _ _=>by simp[toR]
 have f0:fam (rf0 bs.length) 0=[]:=rfl
 (refine Z5Y rfl fun R hG hrd=>Yc Yb 1000 ?_;subst hG)
 simp -implicitDefEqProofs[Z5W,Z5X]
 (first|refine Ye.of (hR) (by simp) ?_|refine Yf.of (hR) (by simp) ?_)
 simp -implicitDefEqProofs[]
 (first|refine Ye.of (hS) (by simp) ?_|refine Yf.of (hS) (by simp) ?_)
 simp -implicitDefEqProofs[b16];generalize hM:[AV.vsl (r.map isa),.vsl (l.map na),.vsl (q.map ra)]=M at *;have hk:∀ x∈M,x.keys=[]:=(by rw[← hM];simp[AV.keys]);have pM:∀ x∈M,x.pure=true:=by rw[← hM];simp[AV.pure,isa,na,ra]
 have hMk:∀ o,Yd o (.box M)=true:=fun o=>by
  simp only[Yd,List.all_eq_true];intro x hx;simp[Ya,hk x hx]
 refine ZaV (tb1 M bs V) (fun _=>True) bs.length ?_ trivial ?_ ?_
 · simp only[tb1,tbT,f0,← e00]
   ((try simp only[kV]);refine Yn.sub (by simp[lk,Ya,AV.keys,kV]) ?_;simp only[kV,Wkl,hMk,and_true];(try simp[lk,Yd,Ya,AV.keys,kV]))
   done
 · intro i hi _;have wi:IntKind.i64.wrap ((i:Int)+1)=(i:Int)+1:=Yg (by omega) (by omega);have l38:lk (fam (rf0 bs.length) i) 38=none:=(by rw[Zlt,if_neg (by omega)]);have p38:=fun y=>Zlu (y:=y) l38
   have lt:=Zlz bs.length i;have tr:=ZlA hi;have ta:(toR bs.length i)[i]'(by rw[lt];exact hi)=[.nils]:=(by simp[toR]);refine Yc Yb 1000 ?_;simp -implicitDefEqProofs[tb1,tbT,hi,b16,l38,p38,lt,ta,wi];exact ZlJ hi lB pM pV (by simp[lk]) (by simp[lk]) (by simp[lk]) (by simp[lk]) (by simp[lk])
 · intro _
   have eF:fam (rf0 bs.length) bs.length=fam (tbR (tbV E bs) bs.length 0 0) bs.length:=Zly fun j _=>by
    refine List.ext_getElem (by simp[rf0,tbR]) fun c h1 h2=>by simp[rf0,tbR]
   refine Yc Yb 1000 ?_;simp -implicitDefEqProofs[tb1,tbT];refine Z2N Yb 1000 ?_;simp -implicitDefEqProofs[];refine ZaV (tb2 M bs V (tbV E bs)) (fun _=>True) bs.length ?_ trivial ?_ ?_
   · simp only[tb2,tbT,← eF];exact Yn.tm (by simp[lk])
   · intro k hk' _;have wk:IntKind.i64.wrap ((k:Int)+1)=(k:Int)+1:=Yg (by omega) (by omega);obtain ⟨y,hy⟩ : ∃ y,y=bs[k]:=⟨_,rfl⟩;have hL:=hL y.1 y.2 (by rw[hy];exact List.getElem_mem hk');have eb:(y.1,y.2)=y:=rfl;rw[eb]at hL;have hN:∀ i (hi:i<bs.length),(bs.map (diV E y))[i]? = some (diV E y bs[i]):=fun i hi=>by rw[List.getElem?_map,List.getElem?_eq_getElem hi];rfl
     have lN:(bs.map (diV E y)).length=bs.length:=List.length_map _
     have hv:∀ i (hi:i<bs.length),tbV E bs i k=decide (diV E y bs[i]<1048576):=fun i hi=>by
      unfold tbV;rw[List.getD_eq_getElem?_getD,List.getD_eq_getElem?_getD,List.getElem?_eq_getElem hk',List.getElem?_eq_getElem hi,hy];rfl
     generalize bs.map (diV E y)=NL at *;refine Yc Yb 1000 ?_;simp -implicitDefEqProofs[tb2,tbT,hk',ita,← hy];refine Ye.of hL (by simp[AV.pure,ita,pV]) ?_;simp -implicitDefEqProofs[];refine ZaV (tb3 M bs V (tbV E bs) NL k) (fun _=>True) bs.length ?_ trivial ?_ ?_
     · simp only[tb3,tbT];exact Yn.tm (by simp[lk])
     · intro i hi _;have wi:IntKind.i64.wrap ((i:Int)+1)=(i:Int)+1:=Yg (by omega) (by omega);obtain ⟨q1,g1⟩:=List.getElem?_eq_some_iff.1 (hN i hi);have hvi:=hv i hi;have lt:=Zlz bs.length bs.length;have ta:(toR bs.length bs.length)[i]'(by rw[lt];exact hi)=[.osl (500+i) bs.length]:=by simp[toR,hi]
       have lf:lk (fam (tbR (tbV E bs) bs.length k i) bs.length) (500+i)=some (.row 1 (tbR (tbV E bs) bs.length k i i)):=by
        rw[Zlt,if_pos ⟨by omega,by omega⟩];simp
       have pf:=fun y=>Zlx (tbR (tbV E bs) bs.length k i) i y bs.length hi
       have lr:=ZlB (tbV E bs) bs.length k i i;have tk:(tbR (tbV E bs) bs.length k i i)[k]'(by rw[lr];exact hk')=[.bool false]:=(by simp[tbR]);have e27:¬27=500+i:=(by omega);have e4:¬4=500+i:=(by omega);refine Yc Yb 1000 ?_;simp -implicitDefEqProofs[tb3,tbT,hi,hk',lN,q1,g1,ia,lt,ta,lf,pf,lr,tk,e27,e4,wi];refine ⟨ZlK (by omega),?_⟩
       have eF2:fam (updT (tbR (tbV E bs) bs.length k i) i ((tbR (tbV E bs) bs.length k i i).set k [.bool (tbV E bs i k)])) bs.length=fam (tbR (tbV E bs) bs.length k (i+1)) bs.length:=Zly fun j _=>by
        unfold updT;by_cases c:j=i
        · subst c;rw[if_pos rfl,ZlD hk']
        · rw[if_neg c,ZlE c]
       rw[← hvi,eF2];exact Yn.tm (by simp[lk])
     · intro _;have eF3:fam (tbR (tbV E bs) bs.length k bs.length) bs.length=fam (tbR (tbV E bs) bs.length (k+1) 0) bs.length:=Zly fun j hj=>ZlC hj
       refine Yc Yb 1000 ?_;simp -implicitDefEqProofs[tb3,tbT,wk,eF3];refine Z2N Yb 1000 ?_;simp -implicitDefEqProofs[tb2,tbT,wk];exact Yn.tm (by simp[lk])
   · intro _;refine Yc Yb 1000 ?_;simp -implicitDefEqProofs[tb2,tbT];refine Z2N Yb 1000 ?_;have lt:=Zlz bs.length bs.length;have hpos:0<bs.length:=by have:=List.length_pos_iff.2 hne;omega
     have hnp:¬ ∀ x∈toR bs.length bs.length,∀ y∈x,y.pure=true:=fun hh=>by
      have:=hh [.osl 500 bs.length] (List.mem_map.2 ⟨0,List.mem_range.2 hpos,by simp[hpos]⟩) (.osl 500 bs.length) (by simp);simp[AV.pure]at this
     simp -implicitDefEqProofs[lt,hnp,ZlM,tbW]
end
theorem ZlO {E:List (Rf×Rf)} {x y:Rf}:diN E y x=some 0↔x=y:=by
 rw[ZjM]
 constructor
 · rintro ⟨h,-⟩;simpa [pth] using h
 · rintro rfl;exact ⟨by simp[pth],by omega⟩
section
variable {G:Nat→Option (List AV)}
end
section
variable {G:Nat→Option (List AV)}
end
abbrev Pr:=Rf×Rf
def prK (p:Pr):AV:=.agg [.int .i64 p.1.1,.int .i64 p.1.2,.int .i64 p.2.1,.int .i64 p.2.2]
def prA (l:List Pr):List (AV×AV):=l.map fun p=>(prK p,.bool true)
theorem pr_eq (x p:Pr):(KK.ag [.i,.i,.i,.i]).eq (prK x) (prK p)=some (decide (x=p)):=by
 obtain ⟨⟨a,b⟩,c,d⟩:=x;obtain ⟨⟨e,f⟩,g,h⟩:=p;simp only[prK,KK.eq,eqL,eq1,if_true,Prod.mk.injEq,Bool.and_true]
 congr 1
 by_cases h1:a=e <;> by_cases h2:b=f <;> by_cases h3:c=g <;> by_cases h4:d=h <;> simp[h1,h2,h3,h4]
theorem ZlP (x:Pr):∀ l:List Pr,(KK.ag [.i,.i,.i,.i]).find (prK x) (prA l)=some (l.findIdx? fun p=>decide (x=p))
 |[]=>rfl
 | p::r=>by
   have ih:=ZlP x r;have e:prA (p::r)=(prK p,.bool true)::prA r:=rfl;rw[e,KK.find,pr_eq,ih,List.findIdx?_cons];by_cases c:x=p
   · simp[c]
   · simp[c]
theorem pr_is (x:Pr):(KK.ag [.i,.i,.i,.i]).is (prK x)=true:=rfl
theorem ZlQ (x : Pr) (l:List Pr):(KK.ag [.i,.i,.i,.i]).get (prK x) (prA l)=some (if x∈l then some (.bool true) else none):=by
 unfold KK.get;rw[if_pos (pr_is x),ZlP]
 cases q:l.findIdx? fun p=>decide (x=p) with
 | none =>
   rw[List.findIdx?_eq_none_iff]at q;have:x ∉ l:=fun h=>by have:=q x h;simp at this
   simp[this]
 | some j =>
   rw[List.findIdx?_eq_some_iff_getElem]at q;obtain ⟨h1,h2,-⟩:=q
   have h3 : x ∈ l := by have:x=l[j]:=by simpa using h2
                         rw[this];exact List.getElem_mem h1
   simp[prA,h1,h3]
theorem ZlR {x:Pr} {l:List Pr} (h:x ∉ l):(KK.ag [.i,.i,.i,.i]).put (prK x) (.bool true) (prA l)=some (prA (l++[x])):=by
 unfold KK.put;rw[if_pos (pr_is x),ZlP]
 have q:(l.findIdx? fun p=>decide (x=p))=none:=by
  rw[List.findIdx?_eq_none_iff];intro y hy;simp;rintro rfl;exact h hy
 rw[q];simp[prA]
theorem ZlS {α β:Type} (f:α→β):∀ (l:List α) (j:Nat),(l.map f).eraseIdx j=(l.eraseIdx j).map f
 |[],_=>rfl
 |_::_,0=>rfl
 |x::l,j+1=>by simp[ZlS f l j]
theorem ZlT {α:Type} [DecidableEq α]:∀ (l:List α) (j:Nat) (h:j<l.length),l.Nodup→l.eraseIdx j=l.filter fun p=>!decide (l[j]=p)
 |[],_,h,_=>by simp at h
 | x::l,0,_,hn=>by
   obtain ⟨h1,-⟩:=List.nodup_cons.1 hn
   have:(l.filter fun p=>!decide (x=p))=l:=List.filter_eq_self.2 fun y hy=>by
    have:¬x=y:=(by rintro rfl;exact h1 hy);simp[this]
   simp[this]
 | x::l,j+1,h,hn=>by
   obtain ⟨h1,h2⟩:=List.nodup_cons.1 hn;have hj:j<l.length:=(by simpa using h);have:¬l[j]=x:=(by rintro rfl;exact h1 (List.getElem_mem hj));simp[ZlT l j hj h2,this]
theorem ZlU {x:Pr} {l:List Pr} (h:l.Nodup):(KK.ag [.i,.i,.i,.i]).del (prK x) (prA l)=some (prA (l.filter fun p=>!decide (x=p))):=by
 unfold KK.del;rw[if_pos (pr_is x),ZlP]
 cases q:l.findIdx? fun p=>decide (x=p) with
 | none =>
   rw[List.findIdx?_eq_none_iff]at q;have:(l.filter fun p=>!decide (x=p))=l:=List.filter_eq_self.2 fun y hy=>by have:=q y hy;simpa using this
   rw[this]
 | some j =>
   rw[List.findIdx?_eq_some_iff_getElem]at q;obtain ⟨h1,h2,-⟩:=q;have h3:x=l[j]:=(by simpa using h2);have e1:(prA l).eraseIdx j=prA (l.eraseIdx j):=ZlS _ l j
   have e2:l.eraseIdx j=l.filter fun p=>!decide (x=p):=by
    rw[h3];exact ZlT l j h1 h
   simp only[e1,e2]
def prL (r:List Iss) (L:List Stq) (bs:List Rf):List Pr:=bs.flatMap fun b=>(rcL r L false b).map fun a=>(a,b)
theorem ZlV (r:List Iss) (L:List Stq) (bs:List Rf) (b:Rf):prL r L (bs++[b])=prL r L bs++(rcL r L false b).map fun a=>(a,b):=by simp[prL]
theorem ZlW {r:List Iss} {L:List Stq} {bs:List Rf} {p:Pr}:p∈prL r L bs↔p.2∈bs∧p.1∈rcL r L false p.2:=by
 simp only[prL,List.mem_flatMap,List.mem_map]
 constructor
 · rintro ⟨b,hb,a,ha,rfl⟩;exact ⟨hb,ha⟩
 · rintro ⟨hb,ha⟩;exact ⟨p.2,hb,p.1,ha,rfl⟩
theorem ZlX {r:List Iss} {L:List Stq} (hr:(rfs r).Nodup):∀ {bs:List Rf},bs.Nodup→(prL r L bs).Nodup
 |[],_=>by simp[prL]
 | b :: bs,h=>by
   obtain ⟨h1,h2⟩:=List.nodup_cons.1 h;have e:prL r L (b::bs)=((rcL r L false b).map fun a=>(a,b))++prL r L bs:=(by simp[prL]);rw[e];refine List.nodup_append.2 ⟨?_,ZlX hr h2,?_⟩
   · have:(rcL r L false b).Nodup:=hr.sublist List.filter_sublist;exact List.pairwise_map.2 (this.imp fun hxy e=>hxy (congrArg Prod.fst e))
   · rintro x hx y hy rfl;obtain ⟨a,-,rfl⟩:=List.mem_map.1 hx;exact h1 (ZlW.1 hy).1
theorem ZlY (o:List (Nat×AObj)) (l:List Pr):Yd o (.mp (prA l))=true:=by simp[Yd,prA,prK,Ya,AV.keys]
theorem ZlZ (l:List Pr):(prA l).all (fun p=>p.1.pure&&p.2.pure)=true:=by simp[prA,prK,AV.pure]
theorem Zm0 (ρ:Nat→Nat) (l:List Pr):(AObj.mp (prA l)).ren ρ = .mp (prA l):=by simp[AObj.ren,prA,prK,AV.ren]
theorem Zm1 (ok:Nat→Bool) (st:St) (l:List Pr):frzO ok st (.mp (prA l)) = .mp (prA l):=by
 have e:∀ p:Pr,frzA ok st (prK p)=prK p:=fun p=>by simp[frzA,frz,prK,AV.keys]
 have e2:frzA ok st (.bool true) = .bool true:=(by simp[frzA,frz,AV.keys]);simp only[frzO,prA,List.map_map]
 congr 1
 exact List.map_congr_left fun p _=>by simp only[Function.comp,e,e2]
theorem Zm2 (ok:Nat→Bool) (st:St) (l:List Pr):(prA l).map (fun p=>((frz ok st 6 p.1).getD .undef,(frz ok st 6 p.2).getD .undef))=prA l:=by
 have:=Zm1 ok st l;simpa only [frzO,frzA,AObj.mp.injEq] using this
theorem Zm3 {r:List Iss} {L:List Stq} {t:Bool} {x:Rf}:(rcL r L t x).length≤r.length:=Nat.le_trans (List.length_filter_le _ _) (Nat.le_of_eq (Zlk r))
def pbK:Nat→Bool:=fun k=>k == 1
def pbT (n:Nat) (bs:List Rf) (i:Nat):List (Nat×AV):=[(15,.int .i64 i),(14,.int .i64 n),(13,.vsl (bs.map ita)),(3,.mp 8),(1,.ptr 1 0)]
def pbO (M:List AV) (n:Nat) (bs:List Rf) (X:List Pr) (i:Nat):St:=⟨pbT n bs i,[(8,.mp (prA X)),(1,.box M)]⟩
def pbI (M:List AV) (n:Nat) (bs:List Rf) (b:Rf) (Q:List Rf) (X:List Pr) (i k:Nat):St :=
 ⟨(23,.int .i64 k)::(22,.int .i64 Q.length)::(21,.vsl (Q.map ita))::(5,.ptr 5 0)::pbT n bs i,[(8,.mp (prA X)),(5,.box [.int .i64 b.1,.int .i64 b.2]),(1,.box M)]⟩
def prI (X:List Pr) (Q:List Rf) (b:Rf) (k:Nat):List Pr:=X++(Q.take k).map fun a=>(a,b)
theorem Zm4 (X:List Pr) (Q:List Rf) (b:Rf):prI X Q b 0=X:=by simp[prI]
theorem Zm5 {X:List Pr} {Q:List Rf} {b:Rf} {k:Nat} (h:k<Q.length):prI X Q b (k+1)=prI X Q b k++[(Q[k],b)]:=by
 unfold prI;rw[List.take_succ_eq_append_getElem h,List.map_append,List.append_assoc];rfl
theorem Zm6 (X:List Pr) (Q:List Rf) (b:Rf):prI X Q b Q.length=X++Q.map fun a=>(a,b):=by simp[prI]
section
variable {G:Nat→Option (List AV)}
set_option maxHeartbeats 1000000 in
theorem Zm7 (hG:GC G) (hN:GN G) (hQ:GQ G) (r:List Iss) (l:List Nte) (q:List Rul) (s:List Int) (m day:Int) (hw:WfN l) (hr:Wf r) (hq:Sml q) (hs:Sml s) (h:chS r l q=0) (ht:truB l s=true) (hne:r≠[]) :
  PB Tryz.prog G 67 [] [.agg (moC r l q s m day)] (.mp 8) [(8,.mp (prA (prL r (st5 r l q s m day) (rfs r))))]:=by
 have hl:=Zlj h;have hn:=Zlk r;have hrc:=fun b1 b2=>Zli hG hN hQ r l q s m day b1 b2 false hw hr hq hs h ht hne (by omega)
 have hnd:(rfs r).Nodup:=Zk9 (Zkh h);have hQl:∀ b,(rcL r (st5 r l q s m day) false b).length≤60:=fun b=>by have:=Zm3 (r:=r) (L:=st5 r l q s m day) (t:=false) (x:=b);omega
 have hput:∀ i (hi:i<(rfs r).length) k (hk:k<(rcL r (st5 r l q s m day) false (rfs r)[i]).length),
   ((rcL r (st5 r l q s m day) false (rfs r)[i])[k],(rfs r)[i]) ∉ prL r (st5 r l q s m day) ((rfs r).take i)++((rcL r (st5 r l q s m day) false (rfs r)[i]).take k).map fun a=>(a,(rfs r)[i]):=by
  intro i hi k hk hm;rcases List.mem_append.1 hm with hm|hm
  · have:=(ZlW.1 hm).1;obtain ⟨j,hj,e⟩:=List.getElem_of_mem this;have hj2:j<i:=(by simp at hj;omega);rw[List.getElem_take]at e;have:=(List.pairwise_iff_getElem.1 hnd) j i (by omega) hi hj2;exact this e
  · obtain ⟨a,ha,e⟩:=List.mem_map.1 hm;have e1:a=(rcL r (st5 r l q s m day) false (rfs r)[i])[k]:=(Prod.mk.injEq .. ▸ e).1;obtain ⟨j,hj,e⟩:=List.getElem_of_mem ha;have hj2:j<k:=(by simp at hj;omega);rw[List.getElem_take]at e;have hnd2:(rcL r (st5 r l q s m day) false (rfs r)[i]).Nodup:=hnd.sublist List.filter_sublist;exact (List.pairwise_iff_getElem.1 hnd2) j k (by omega) hk hj2 (e.trans e1)
 have hsn:∀ i (hi:i<(rfs r).length),prL r (st5 r l q s m day) ((rfs r).take (i+1))=prL r (st5 r l q s m day) ((rfs r).take i)++(rcL r (st5 r l q s m day) false (rfs r)[i]).map fun a=>(a,(rfs r)[i]):=fun i hi=>by
  rw[List.take_succ_eq_append_getElem hi,ZlV]
 have pS:(Yl r l q).pure=true:=(by unfold Yl rfA;split <;> simp[AV.pure,isa,na,ra,rfa]);have h0:prL r (st5 r l q s m day) ((rfs r).take 0)=[]:=(by simp[prL]);have hall:(rfs r).take (rfs r).length=rfs r:=List.take_length;obtain ⟨cs,eS⟩ : ∃ cs,Yl r l q = .vptr cs 0:=⟨_,rfl⟩
 have eC:cs=[.vsl (r.map isa),.vsl (l.map na),.vsl (q.map ra),.vsl ((rfs r).map ita)]:=by
  unfold Yl at eS;rw[Zlf hne]at eS;injection eS with e1 _
  exact e1.symm
 refine Z5e pbK (by intro k hk;simp[pbK]at hk;omega) Tryz.func67 rfl (by kernel_rfl) (rc:=Z5q) (by kernel_rfl) (rs:=Z5r) (by kernel_rfl) (Nat.le_of_ble_eq_true rfl) fun R _ hG hrd=>Yc Yb 1000 ?_
 subst hG;unfold moC at *;rw[eS]at hrc pS ⊢;subst eC;generalize hQF:(fun b=>rcL r (st5 r l q s m day) false b)=Q at *;have eQ:∀ b,rcL r (st5 r l q s m day) false b=Q b:=fun b=>by rw[← hQF]
 simp only[eQ]at hrc hQl hput hsn;generalize hXF:(fun i=>prL r (st5 r l q s m day) ((rfs r).take i))=X at *;have eX:∀ i,prL r (st5 r l q s m day) ((rfs r).take i)=X i:=fun i=>by rw[← hXF]
 have eXa:prL r (st5 r l q s m day) (rfs r)=X (rfs r).length:=(by rw[← eX,hall]);simp only[eX]at hput hsn h0;rw[eXa];have lB:(rfs r).length≤60:=(by omega);generalize rfs r=bs at *;generalize hM:[AV.vptr [.vsl (r.map isa),.vsl (l.map na),.vsl (q.map ra),.vsl (bs.map ita)] 0,.vsl (s.map ia),.int .i64 m,.int .i64 day]=M at *;rw[← hM];simp -implicitDefEqProofs[Z5q,Z5r];rw[hM];refine ZaV (fun i=>pbO M bs.length bs (X i) i) (fun _=>True) bs.length ?_ trivial ?_ ?_
 · rw[h0];have e0:prA []=[]:=rfl;simp only[pbO,pbT,e0];subst hM
   (refine Yn.sub (by simp[lk,Ya,AV.keys]) ?_;simp only[Wkl,and_true];(try simp[lk,Yd,Ya,AV.keys]))
 · intro i hi _;have wi:IntKind.i64.wrap ((i:Int)+1)=(i:Int)+1:=Yg (by omega) (by omega);obtain ⟨b,hb⟩ : ∃ b,b=bs[i]:=⟨_,rfl⟩;have hm:=hrc b.1 b.2;have lq:=hQl b;have hp:=hput i hi;have hs1:=hsn i hi;rw[← hb]at hs1;simp only[← hb]at hp;obtain ⟨Qi,hQi⟩ : ∃ Qi,Qi=Q b:=⟨_,rfl⟩;have eb:(b.1,b.2)=b:=rfl;rw[eb,← hQi]at hm;rw[← hQi]at lq hs1;simp only[← hQi]at hp;obtain ⟨Xi,hXi⟩ : ∃ Xi,Xi=X i:=⟨_,rfl⟩;rw[← hXi]at hs1;simp only[← hXi]at hp;replace hp:∀ k (hk:k<Qi.length),(Qi[k],b) ∉ prI Xi Qi b k:=hp;rw[← hXi];refine Yc Yb 1000 ?_;simp -implicitDefEqProofs[pbO,pbT,hi,ita,← hb,← hM];rw[hM];refine Ye.of hm (by simp[AV.pure,← hM,pS]) ?_;simp -implicitDefEqProofs[];refine ZaV (fun k=>pbI M bs.length bs b Qi (prI Xi Qi b k) i k) (fun _=>True) Qi.length ?_ trivial ?_ ?_
   · rw[Zm4];simp only[pbI,pbT]
     ((try simp only[ita,← hM]);refine Yn.sub (by simp[lk,Ya,AV.keys,ita,← hM]) ?_;simp only[ita,← hM,Wkl,ZlY,and_true];(try simp[lk,Yd,Ya,AV.keys,ita,← hM]))
   · intro k hk _;have wk:IntKind.i64.wrap ((k:Int)+1)=(k:Int)+1:=Yg (by omega) (by omega);have hpk:=ZlR (hp k hk);have hs2:=Zm5 (X:=Xi) (b:=b) hk;rw[← hs2]at hpk;simp only[prK]at hpk;refine Yc Yb 1000 ?_;simp -implicitDefEqProofs[pbI,pbT,hk,ita,wk,hpk]
     ((try simp only[ita,← hM]);refine Yn.sub (by simp[lk,Ya,AV.keys,ita,← hM]) ?_;simp only[ita,← hM,Wkl,ZlY,and_true];(try simp[lk,Yd,Ya,AV.keys,ita,← hM]))
   · intro _;rw[Zm6,← hs1];refine Yc Yb 1000 ?_;simp -implicitDefEqProofs[pbI,pbT,wi];refine Z2N Yb 1000 ?_;simp -implicitDefEqProofs[wi,pbO,pbT]
     ((try simp only[ita,← hM]);refine Yn.sub (by simp[lk,Ya,AV.keys,ita,← hM]) ?_;simp only[ita,← hM,Wkl,ZlY,and_true];(try simp[lk,Yd,Ya,AV.keys,ita,← hM]))
 · intro _;refine Yc Yb 1000 ?_;simp -implicitDefEqProofs[pbO,pbT];refine Z2N Yb 1000 ?_;simp -implicitDefEqProofs[FinO,Yj,pbK,Zm1,frzA,frz,AV.keys]
end
def mayT (E:List (Rf×Rf)) (a b:Rf):Bool:=decide (diV E b a<1048576)
def ownP (T:Rf→Rf→Bool) (a b:Rf):Bool:=!(T a b&&T b a)
def ownT (T:Rf→Rf→Bool) (bs:List Rf) (a:Rf):List Rf:=dlK (ownP T a) bs bs.length
def hdT (T:Rf→Rf→Bool) (bs:List Rf) (a:Rf):Bool:=decide (1<(ownT T bs a).length)&&decide ((ownT T bs a).head? = some a)
def clX (T:Rf→Rf→Bool) (bs:List Rf) (i:Nat):List (List Rf):=(dlK (fun a=>!hdT T bs a) bs i).map (ownT T bs)
theorem Zm8 {T:Rf→Rf→Bool} {bs:List Rf} {a:Rf} {k:Nat} (h:k<bs.length):dlK (ownP T a) bs (k+1)=if (T a bs[k]&&T bs[k] a)=true then dlK (ownP T a) bs k++[bs[k]] else dlK (ownP T a) bs k:=by
 rw[ZkK h];unfold ownP
 cases T a bs[k]&&T bs[k] a <;> simp
theorem Zm9 (T:Rf→Rf→Bool) (bs:List Rf):clX T bs 0=[]:=rfl
theorem Zma {T:Rf→Rf→Bool} {bs:List Rf} {i:Nat} (h:i<bs.length):clX T bs (i+1)=if hdT T bs bs[i]=true then clX T bs i++[ownT T bs bs[i]] else clX T bs i:=by
 unfold clX;rw[ZkK h]
 cases hdT T bs bs[i] <;> simp
theorem Zmb {T:Rf→Rf→Bool} {bs:List Rf} {i:Nat}:(clX T bs i).length≤i:=by
 unfold clX;rw[List.length_map];exact ZkI
theorem Zmc {T:Rf→Rf→Bool} {bs:List Rf} {a:Rf}:(ownT T bs a).length≤bs.length:=ZkI
theorem Zmd {T:Rf→Rf→Bool} {bs:List Rf} {a b:Rf}:b∈ownT T bs a↔b∈bs∧T a b=true∧T b a=true:=by
 unfold ownT;rw[ZkJ,List.mem_filter];simp[ownP]
def clM (l:List (List Rf)):List (List AV):=l.map fun c=>[.vsl (acM c)]
theorem Zme (l:List (List Rf)) (c:List Rf):clM (l++[c])=clM l++[[.vsl (acM c)]]:=by simp[clM]
theorem Zmf (l:List (List Rf)):(clM l).length=l.length:=List.length_map _
theorem Zmg (o:List (Nat×AObj)) (l:List (List Rf)):Yd o (.row 1 (clM l))=true:=by
 simp only[Yd,List.all_eq_true,clM,List.mem_map];rintro x ⟨y,-,rfl⟩ w hw;simp only[List.mem_singleton]at hw;subst hw;simp[Ya,AV.keys]
theorem Zmh (l:List Rf):(AV.vsl (acM l)).pure=true:=by simp[AV.pure,acM,ita]
theorem Zmi (l:List (List Rf)):(clM l).all (fun r=>r.all AV.pure)=true:=by simp[clM,Zmh]
theorem Zmj (ok:Nat→Bool) (st:St) (l:List (List Rf)):(clM l).map (fun r=>r.map (frzA ok st))=clM l:=by
 simp only[clM,List.map_map]
 congr 1
 funext w;simp[frzA,frz,AV.keys]
theorem Zmk {r:List Iss} {L:List Stq} {a b:Rf} (hL:L.length≤1000):a∈rcL r L false b↔a∈rfs r∧mayT (edg L) a b=true:=by
 have e:edT false L=edg L:=rfl;have hE:(edg L).length≤1000:=(by simpa [edg] using hL);have hle:=ZjP (y:=b) (x:=a) hE;unfold rcL mayT;rw[List.mem_filter,e];refine and_congr Iff.rfl ?_;simp only[Bool.not_eq_true',decide_eq_false_iff_not,decide_eq_true_eq];omega
theorem Zml {r:List Iss} {L:List Stq} {a b:Rf} (hL:L.length≤1000) (ha:a∈rfs r) (hb:b∈rfs r):(a,b)∈prL r L (rfs r)↔mayT (edg L) a b=true:=by
 rw[ZlW,Zmk hL];exact ⟨fun h=>h.2.2,fun h=>⟨hb,ha,h⟩⟩
theorem Zmm {E:List (Rf×Rf)} (hE:E.length≤1000) (a:Rf):mayT E a a=true:=by
 unfold mayT;rw[decide_eq_true_eq,ZjR hE,ZlO.2 rfl];rfl
theorem ch_ne {r:List Iss} {l:List Nte} {q:List Rul} (h:chS r l q=0):r≠[]:=by
 have:=Zkh h;rintro rfl;simp[Zbi,inR]at this
def clT (n:Nat) (bs:List Rf) (i:Nat):List (Nat×AV):=[(39,.int .i64 i),(38,.int .i64 n),(37,.vsl (bs.map ita)),(12,.mp 32),(10,.ptr 10 0)]
structure CB where
 I:AV
 J:AV
 K:AV
 V:List (List AV)
 m:Int
 day:Int
def CB.M (c:CB) (bs:List Rf):List AV:=[.vptr [c.I,c.J,c.K,.vsl (bs.map ita)] 0,.vsl c.V,.int .i64 c.m,.int .i64 c.day]
def clB (c:CB) (bs:List Rf) (X:List Pr):List (Nat×AObj):=[(32,.mp (prA X)),(10,.box (c.M bs))]
def clL (acc:List (List Rf)):AV:=if acc=[] then .nils else .osl 83 acc.length
def clO (c:CB) (bs:List Rf) (X:List Pr) (acc:List (List Rf)):List (Nat×AObj):=if acc=[] then clB c bs X else (83,.row 1 (clM acc))::clB c bs X
def clS (c:CB) (bs:List Rf) (X:List Pr) (acc:List (List Rf)) (i:Nat):St:=⟨(13,clL acc)::clT bs.length bs i,clO c bs X acc⟩
def clI (c:CB) (bs:List Rf) (X:List Pr) (acc:List (List Rf)) (a:Rf) (own:List Rf) (i k:Nat):St :=
 if own=[] then ⟨(49,.int .i64 k)::(48,.int .i64 bs.length)::(47,.vsl (bs.map ita))::(16,.nils)::(15,.ptr 15 0)::(13,clL acc)::clT bs.length bs i,(15,.box [.int .i64 a.1,.int .i64 a.2])::clO c bs X acc⟩
 else ⟨(49,.int .i64 k)::(48,.int .i64 bs.length)::(47,.vsl (bs.map ita))::(16,.osl 68 own.length)::(15,.ptr 15 0)::(13,clL acc)::clT bs.length bs i,(68,.row 2 (acM own))::(15,.box [.int .i64 a.1,.int .i64 a.2])::clO c bs X acc⟩
def clE (r:List Iss) (l:List Nte) (q:List Rul) (s:List Int) (m day:Int):AV :=
 .tup [if aqN r l q s m day day=0 then Yh (clM (clX (mayT (edg (st5 r l q s m day))) (rfs r) (rfs r).length)) else .nils,.int .i64 (aqN r l q s m day day)]
section
variable {G:Nat→Option (List AV)}
set_option maxHeartbeats 4000000 in
theorem Zmn (hG:GC G) (hN:GN G) (hQ:GQ G) (r:List Iss) (l:List Nte) (q:List Rul) (s:List Int) (m day:Int) (hw:WfN l) (hr:Wf r) (hq:Sml q) (hs:Sml s) :
  PC Tryz.prog G 29 [swa r l q,.vsl (s.map ia),.int .i64 m,.int .i64 day] (clE r l q s m day):=by
 have ha:=Zjq hG hN r l q s m day day hw hr hq hs;unfold clE;unfold moA at ha;by_cases h0:aqN r l q s m day day=0
 case neg =>
  rw[if_neg h0]at ha ⊢;unfold swa at *
  (refine Z5u rfl fun R hG hrd=>Yc Yb 1000 ?_;subst hG)
  simp -implicitDefEqProofs[Z5s,Z5t]
  (first|refine Ye.of (ha) (by simp) ?_|refine Yf.of (ha) (by simp) ?_)
  simp -implicitDefEqProofs[h0]
 have hz:=ZiQ h0;have hne:=ch_ne hz.1;have hp:=Zm7 hG hN hQ r l q s m day hw hr hq hs hz.1 hz.2.1 hne;have hlen:=Zla (s:=s) (m:=m) (day:=day) hz.1;have hE:(edg (st5 r l q s m day)).length≤1000:=(by simp[edg];omega);have hnd:(rfs r).Nodup:=Zk9 (Zkh hz.1);have hch:=Zlj hz.1;have hn:=Zlk r;have lB:(rfs r).length≤60:=(by omega);have pS:(Yl r l q).pure=true:=(by unfold Yl rfA;split <;> simp[AV.pure,isa,na,ra,rfa]);have kS:(Yl r l q).keys=[]:=(by unfold Yl;simp[AV.keys]);have hT:=fun a b ha hb=>Zml (r:=r) (L:=st5 r l q s m day) (a:=a) (b:=b) (by omega) ha hb
 have hself:=fun a=>Zmm hE a
 rw[if_pos h0,h0]at ha ⊢;obtain ⟨cs,eS⟩ : ∃ cs,Yl r l q = .vptr cs 0:=⟨_,rfl⟩
 have eC:cs=[.vsl (r.map isa),.vsl (l.map na),.vsl (q.map ra),.vsl ((rfs r).map ita)]:=by
  unfold Yl at eS;rw[Zlf hne]at eS;injection eS with e1 _
  exact e1.symm
 unfold moC at *;rw[eS]at ha hp pS kS;generalize prL r (st5 r l q s m day) (rfs r)=X at *;generalize mayT (edg (st5 r l q s m day))=T at *;unfold swa at *;subst eC;generalize rfs r=bs at *
 (refine Z5u rfl fun R hG hrd=>Yc Yb 1000 ?_;subst hG)
 simp -implicitDefEqProofs[Z5s,Z5t]
 (first|refine Ye.of (ha) (by simp) ?_|refine Yf.of (ha) (by simp) ?_)
 simp -implicitDefEqProofs[];refine Ye.sem (Z1B.objs hp (fun _=>32) (by simp) (by simp[St.get,lk]) (by simp[AV.pure]at pS ⊢;try simp[pS]) rfl rfl) ?_;simp -implicitDefEqProofs[AV.ren,Ym,Zm0];obtain ⟨c,hc⟩ : ∃ c:CB,c=⟨.vsl (r.map isa),.vsl (l.map na),.vsl (q.map ra),s.map ia,m,day⟩:=⟨_,rfl⟩;have hk:c.I.keys=[]∧c.J.keys=[]∧c.K.keys=[]:=(by rw[hc];simp[AV.keys]);obtain ⟨kI,kJ,kK⟩:=hk;refine ZaV (fun i=>clS c bs X (clX T bs i) i) (fun _=>True) bs.length ?_ trivial ?_ ?_
 · rw[Zm9];have e0:clL [] = .nils:=rfl;have e1:clO c bs X []=clB c bs X:=rfl;simp only[clS,clT,e0,e1,clB];simp only[CB.M,hc]
   ((try simp only[ita]);refine Yn.sub (by simp[lk,Ya,AV.keys,ita]) ?_;simp only[ita,Wkl,ZlY,and_true];(try simp[lk,Yd,Ya,AV.keys,ita]))
 · intro i hi _;have wi:IntKind.i64.wrap ((i:Int)+1)=(i:Int)+1:=Yg (by omega) (by omega);obtain ⟨a,hae⟩ : ∃ a,a=bs[i]:=⟨_,rfl⟩;have hmem:a∈bs:=(by rw[hae];exact List.getElem_mem hi);have sn:=Zma (T:=T) hi;rw[← hae]at sn;have al:=Zmb (T:=T) (bs:=bs) (i:=i);generalize clX T bs i=acc at *;have lnm:=Zmf acc;have bb:(acc.length+1)*24≤70368744177664:=(by omega);refine Yc Yb 1000 ?_;by_cases c0:acc=[]
   case' pos =>
    have hL:clL acc = .nils:=(by simp[clL,c0]);have hO:clO c bs X acc=clB c bs X:=by simp[clO,c0]
   case' neg =>
    have hL:clL acc = .osl 83 acc.length:=(by simp[clL,c0]);have hO:clO c bs X acc=(83,.row 1 (clM acc))::clB c bs X:=by simp[clO,c0]
   all_goals
    simp -implicitDefEqProofs[clS,clT,clB,CB.M,hL,hO,hi,ita,← hae];refine ZaV (fun k=>clI c bs X acc a (dlK (ownP T a) bs k) i k) (fun _=>True) bs.length ?_ trivial ?_ ?_
    · have e0:dlK (ownP T a) bs 0=[]:=rfl;simp only[clI,e0,if_true,clT,clB,CB.M,hL,hO]
      ((try simp only[CB.M,kI,kJ,kK,ita]);refine Yn.sub (by simp[lk,Ya,AV.keys,CB.M,kI,kJ,kK,ita]) ?_;simp only[CB.M,kI,kJ,kK,ita,Wkl,ZlY,Zmg,and_true];(try simp[lk,Yd,Ya,AV.keys,CB.M,kI,kJ,kK,ita]))
    · intro k hk _;have wk:IntKind.i64.wrap ((k:Int)+1)=(k:Int)+1:=Yg (by omega) (by omega);obtain ⟨b,hbe⟩ : ∃ b,b=bs[k]:=⟨_,rfl⟩;have hb:b∈bs:=(by rw[hbe];exact List.getElem_mem hk);have sn2:=Zm8 (T:=T) (a:=a) hk;rw[← hbe]at sn2;have ol:=ZkI (p:=ownP T a) (l:=bs) (j:=k);have g1:=ZlQ (a,b) X;have g2:=ZlQ (b,a) X;have m1:=hT a b hmem hb;have m2:=hT b a hb hmem;simp only[prK]at g1 g2;generalize dlK (ownP T a) bs k=own at *;have em:=Zlm own b;have lo:=Zln own;have b2:(own.length+1)*16≤70368744177664:=(by omega);refine Yc Yb 1000 ?_
      cases t1:T a b
      · rw[t1]at m1 sn2;rw[if_neg (fun h=>by have:=m1.1 h;cases this)]at g1;simp only[Bool.false_and,Bool.false_eq_true,if_false]at sn2;by_cases cx:own=[]
        all_goals
         simp -implicitDefEqProofs[clI,clT,clB,hL,hO,hk,ita,← hbe,wk,g1,cx,sn2]
         ((try simp only[CB.M,kI,kJ,kK,ita]);refine Yn.sub (by simp[lk,Ya,AV.keys,CB.M,kI,kJ,kK,ita]) ?_;simp only[CB.M,kI,kJ,kK,ita,Wkl,ZlY,Zmg,Zlo,and_true];(try simp[lk,Yd,Ya,AV.keys,CB.M,kI,kJ,kK,ita]))
      · rw [t1]at m1 sn2;rw[if_pos (m1.2 rfl)]at g1
        cases t2:T b a
        · rw[t2]at m2 sn2;rw[if_neg (fun h=>by have:=m2.1 h;cases this)]at g2;simp only[Bool.and_false,Bool.false_eq_true,if_false]at sn2;by_cases cx:own=[]
          all_goals
           simp -implicitDefEqProofs[clI,clT,clB,hL,hO,hk,ita,← hbe,wk,g1,g2,cx,sn2]
           ((try simp only[CB.M,kI,kJ,kK,ita]);refine Yn.sub (by simp[lk,Ya,AV.keys,CB.M,kI,kJ,kK,ita]) ?_;simp only[CB.M,kI,kJ,kK,ita,Wkl,ZlY,Zmg,Zlo,and_true];(try simp[lk,Yd,Ya,AV.keys,CB.M,kI,kJ,kK,ita]))
        · rw[t2]at m2 sn2;rw[if_pos (m2.2 rfl)]at g2;simp only[Bool.and_self,if_true]at sn2;by_cases cx:own=[]
          · rw[cx,List.nil_append]at sn2 em;have e0:acM []=[]:=rfl;rw[e0,List.nil_append]at em;simp -implicitDefEqProofs[clI,clT,clB,hL,hO,hk,ita,← hbe,wk,g1,g2,cx,sn2];rw[← em]
            ((try simp only[CB.M,kI,kJ,kK,ita]);refine Yn.sub (by simp[lk,Ya,AV.keys,CB.M,kI,kJ,kK,ita]) ?_;simp only[CB.M,kI,kJ,kK,ita,Wkl,ZlY,Zmg,Zlo,and_true];(try simp[lk,Yd,Ya,AV.keys,CB.M,kI,kJ,kK,ita]))
          · have cx2:¬own++[b]=[]:=(by simp);simp -implicitDefEqProofs[clI,clT,clB,hL,hO,hk,ita,← hbe,wk,g1,g2,cx,cx2,sn2,b2,lo];rw[← em]
            ((try simp only[CB.M,kI,kJ,kK,ita]);refine Yn.sub (by simp[lk,Ya,AV.keys,CB.M,kI,kJ,kK,ita]) ?_;simp only[CB.M,kI,kJ,kK,ita,Wkl,ZlY,Zmg,Zlo,and_true];(try simp[lk,Yd,Ya,AV.keys,CB.M,kI,kJ,kK,ita]))
    · intro _;have eO:dlK (ownP T a) bs bs.length=ownT T bs a:=rfl;rw[eO];have hin:a∈ownT T bs a:=Zmd.2 ⟨hmem,hself a,hself a⟩;have ol:=Zmc (T:=T) (bs:=bs) (a:=a);have hH:hdT T bs a=(decide (1<(ownT T bs a).length)&&decide ((ownT T bs a).head? = some a)):=rfl;rw[hH]at sn;generalize ownT T bs a=own at *
      obtain ⟨x,rest,rfl⟩ : ∃ x rest,own=x::rest:=by
       cases own with
       |nil=>cases hin
       |cons x rest=>exact ⟨x,rest,rfl⟩
      have k5:=Zlp (x::rest);have k6:=Zln (x::rest);have k7:=Zmh (x::rest);refine Yc Yb 1000 ?_;simp -implicitDefEqProofs[clI,clT,clB,CB.M,hL,hO];refine Z2N Yb 2 ?_;simp -implicitDefEqProofs[];refine GO0 (Z2M (st':=⟨(16,.vsl (acM (x::rest)))::(15,.ptr 15 0)::(13,clL acc)::clT bs.length bs i,(15,.box [.int .i64 a.1,.int .i64 a.2])::clO c bs X acc⟩) (Yn.trans (Yn.frz (fun k=>k == 68) _) ?_) ?_)
      · simp only[clT,clB,CB.M,hL,hO]
        ((try simp only[Yj,frzA,frzO,frz,Yi,Yk,St.get,AV.pure,k5,k6,Zmj,Zm2,CB.M,kI,kJ,kK,ita]);refine Yn.sub (by simp[lk,Ya,AV.keys,Yj,frzA,frzO,frz,Yi,Yk,St.get,AV.pure,k5,k6,Zmj,Zm2,CB.M,kI,kJ,kK,ita]) ?_;simp only[Yj,frzA,frzO,frz,Yi,Yk,St.get,AV.pure,k5,k6,Zmj,Zm2,CB.M,kI,kJ,kK,ita,Wkl,ZlY,Zmg,and_true];(try simp[lk,Yd,Ya,AV.keys,Yj,frzA,frzO,frz,Yi,Yk,St.get,AV.pure,k5,k6,Zmj,Zm2,CB.M,kI,kJ,kK,ita]))
      have hrow:acM (x::rest)=[.int .i64 x.1,.int .i64 x.2]::acM rest:=rfl;have lr:=Zln rest;refine Yc Yb 1000 ?_;by_cases c1:rest=[]
      · have sn1:clX T bs (i+1)=acc:=(by rw[sn,c1];simp);have hA:acM [x]=[[.int .i64 x.1,.int .i64 x.2]]:=rfl;simp -implicitDefEqProofs[clT,clB,CB.M,hL,hO,hA,c1,wi,sn1];refine ⟨rfl,?_⟩;refine Z2N Yb 1000 ?_;simp -implicitDefEqProofs[clS,clT,clB,CB.M,hL,hO,wi,sn1]
        ((try simp only[CB.M,kI,kJ,kK,ita]);refine Yn.sub (by simp[lk,Ya,AV.keys,CB.M,kI,kJ,kK,ita]) ?_;simp only[CB.M,kI,kJ,kK,ita,Wkl,ZlY,Zmg,and_true];(try simp[lk,Yd,Ya,AV.keys,CB.M,kI,kJ,kK,ita]))
      · have hl:0<rest.length:=List.length_pos_iff.2 c1;have hl2:(1:Int)<(rest.length:Int)+1:=(by omega);by_cases c2:x=a
        · have sn1:clX T bs (i+1)=acc++[x::rest]:=(by rw[sn,c2];simp[hl]);have em:=Zme acc (x::rest);rw[hrow]at em;subst c2;simp -implicitDefEqProofs[clT,clB,CB.M,hL,hO,hrow,lr,hl2,lnm,bb,wi,sn1];refine ⟨rfl,?_⟩;have hL1:clL (acc++[x::rest]) = .osl 83 (acc.length+1):=(by simp[clL]);have hO1:clO c bs X (acc++[x::rest])=(83,.row 1 (clM (acc++[x::rest])))::clB c bs X:=(by simp[clO]);have e0:clM []=[]:=rfl
          (try (rw[c0]at em sn1 hL1 hO1;simp only[List.nil_append,e0,List.length_nil,Nat.zero_add]at em sn1 hL1 hO1))
          refine Z2N Yb 1000 ?_;simp -implicitDefEqProofs[clS,clT,clB,CB.M,wi,sn1,hL1,hO1];rw[← em]
          ((try simp only[CB.M,kI,kJ,kK,ita]);refine Yn.sub (by simp[lk,Ya,AV.keys,CB.M,kI,kJ,kK,ita]) ?_;simp only[CB.M,kI,kJ,kK,ita,Wkl,ZlY,Zmg,and_true];(try simp[lk,Yd,Ya,AV.keys,CB.M,kI,kJ,kK,ita]))
        · have sn1:clX T bs (i+1)=acc:=by rw[sn];simp[c2]
          have hb:(decide (x.1=a.1)&&decide (x.2=a.2))=false:=by
           cases q:(decide (x.1=a.1)&&decide (x.2=a.2))
           · rfl
           · simp only[Bool.and_eq_true,decide_eq_true_eq]at q;exact absurd (Prod.ext q.1 q.2) c2
          simp -implicitDefEqProofs[clT,clB,CB.M,hL,hO,hrow,lr,hl2,hb,wi,sn1];refine ⟨rfl,?_⟩;refine Z2N Yb 1000 ?_;simp -implicitDefEqProofs[clS,clT,clB,CB.M,hL,hO,wi,sn1]
          ((try simp only[CB.M,kI,kJ,kK,ita]);refine Yn.sub (by simp[lk,Ya,AV.keys,CB.M,kI,kJ,kK,ita]) ?_;simp only[CB.M,kI,kJ,kK,ita,Wkl,ZlY,Zmg,and_true];(try simp[lk,Yd,Ya,AV.keys,CB.M,kI,kJ,kK,ita]))
 · intro _;generalize clX T bs bs.length=acc at *;have k5:=Zmi acc;have k6:=Zmf acc;refine Yc Yb 1000 ?_;by_cases c0:acc=[]
   · have hL:clL acc = .nils:=(by simp[clL,c0]);have hO:clO c bs X acc=clB c bs X:=(by simp[clO,c0]);simp -implicitDefEqProofs[clS,clT,hL,hO];refine Z2N Yb 1000 ?_;have e0:clM []=[]:=rfl;simp -implicitDefEqProofs[c0,Yh,e0]
   · have hL:clL acc = .osl 83 acc.length:=(by simp[clL,c0]);have hO:clO c bs X acc=(83,.row 1 (clM acc))::clB c bs X:=(by simp[clO,c0]);have e0:¬clM acc=[]:=fun h=>c0 (by simpa [clM] using h)
     simp -implicitDefEqProofs[clS,clT,hL,hO];refine Z2N Yb 1000 ?_;simp -implicitDefEqProofs[Yh,k5,k6,e0]
end
def stkP (Y:List Pr) (D:Nat→Bool) (p:Pr):Bool:=(List.range Y.length).any fun i=>D i&&decide (Y[i]? = some p)
theorem Zmo (X Y:List Pr):X.filter (fun p=>!stkP Y (fun _=>false) p)=X:=List.filter_eq_self.2 fun p _=>by simp[stkP]
theorem Zmp {X Y:List Pr} {D:Nat→Bool} {i:Nat} (hi:i<Y.length):(X.filter fun p=>!stkP Y D p).filter (fun p=>!decide (Y[i]=p))=X.filter fun p=>!stkP Y (fun j=>D j||j == i) p:=by
 rw[List.filter_filter];refine List.filter_congr fun p _=>?_
 have e:stkP Y (fun j=>D j||j == i) p=(decide (Y[i]=p)||stkP Y D p):=by
  unfold stkP;rw[Bool.eq_iff_iff];simp only[List.any_eq_true,List.mem_range,Bool.and_eq_true,Bool.or_eq_true,beq_iff_eq,decide_eq_true_eq]
  constructor
  · rintro ⟨j,hj,h1|rfl,h2⟩
    · exact .inr ⟨j,hj,h1,h2⟩
    · rw[List.getElem?_eq_getElem hj]at h2;cases h2;exact .inl rfl
  · rintro (h1 | ⟨j,hj,h1,h2⟩)
    · exact ⟨i,hi,.inr rfl,by rw[List.getElem?_eq_getElem hi,h1]⟩
    · exact ⟨j,hj,.inl h1,h2⟩
 rw[e];simp
theorem Zmq {X Y:List Pr} {D:Nat→Bool} (h:∀ i,i<Y.length→D i=true) {p:Pr}:p∈X.filter (fun p=>!stkP Y D p)↔p∈X∧p ∉ Y:=by
 rw[List.mem_filter];refine and_congr Iff.rfl ?_
 have:stkP Y D p=true↔p∈Y:=by
  unfold stkP;simp only[List.any_eq_true,List.mem_range,Bool.and_eq_true,decide_eq_true_eq]
  constructor
  · rintro ⟨j,hj,-,h2⟩;exact List.mem_of_getElem? h2
  · intro hm;obtain ⟨j,hj,e⟩:=List.getElem_of_mem hm;exact ⟨j,hj,h j hj,by rw[List.getElem?_eq_getElem hj,e]⟩
 rw[← this];simp
def losP (T U:Rf→Rf→Bool) (a b:Rf):Bool:=!(T a b && !U a b)
def losR (T U:Rf→Rf→Bool) (bs:List Rf) (a:Rf) (k:Nat):List Pr:=(dlK (losP T U a) bs k).map fun b=>(a,b)
def losX (T U:Rf→Rf→Bool) (bs:List Rf) (i:Nat):List Pr:=(bs.take i).flatMap fun a=>losR T U bs a bs.length
theorem Zmr {T U:Rf→Rf→Bool} {bs:List Rf} {i:Nat} (h:i<bs.length):losX T U bs (i+1)=losX T U bs i++losR T U bs bs[i] bs.length:=by
 unfold losX;rw[List.take_succ_eq_append_getElem h,List.flatMap_append,List.flatMap_cons,List.flatMap_nil,List.append_nil]
theorem Zms {T U:Rf→Rf→Bool} {bs:List Rf} {a:Rf} {k:Nat} (h:k<bs.length):losR T U bs a (k+1)=if (T a bs[k] && !U a bs[k])=true then losR T U bs a k++[(a,bs[k])] else losR T U bs a k:=by
 unfold losR;rw[ZkK h];unfold losP
 cases T a bs[k] && !U a bs[k] <;> simp
theorem Zmt {T U:Rf→Rf→Bool} {bs:List Rf} {a:Rf} {k:Nat}:(losR T U bs a k).length≤k:=by
 unfold losR;rw[List.length_map];exact ZkI
theorem Zmu {T U:Rf→Rf→Bool} {bs:List Rf}:∀ i,i≤bs.length→(losX T U bs i).length≤i*bs.length
 |0,_=>by simp[losX]
 | i+1,h=>by
   have hi:i<bs.length:=h;have ih:=Zmu (T:=T) (U:=U) (bs:=bs) i (by omega);have:=Zmt (T:=T) (U:=U) (bs:=bs) (a:=bs[i]) (k:=bs.length);rw[Zmr hi,List.length_append,Nat.succ_mul];omega
def pra (p:Pr):List AV:=[.int .i64 p.1.1,.int .i64 p.1.2,.int .i64 p.2.1,.int .i64 p.2.2]
def prM (l:List Pr):List (List AV):=l.map pra
theorem Zmv (l:List Pr) (p:Pr):prM (l++[p])=prM l++[[.int .i64 p.1.1,.int .i64 p.1.2,.int .i64 p.2.1,.int .i64 p.2.2]]:=by simp[prM,pra]
theorem Zmw (l:List Pr):(prM l).length=l.length:=List.length_map _
theorem Zmx (l:List Pr):(prM l).all (fun r=>r.all AV.pure)=true:=by simp[prM,pra,AV.pure]
theorem Zmy (o:List (Nat×AObj)) (l:List Pr):Yd o (.row 4 (prM l))=true:=by
 simp only[Yd,List.all_eq_true,prM,List.mem_map];rintro x ⟨y,-,rfl⟩ w hw;simp only[pra,List.mem_cons,List.not_mem_nil,or_false]at hw;rcases hw with rfl|rfl|rfl|rfl <;> simp[Ya,AV.keys]
def loE (r:List Iss) (l:List Nte) (q:List Rul) (s:List Int) (m d e:Int):AV :=
 .tup [if aqN r l q s m d e=0 then Yh (prM (losX (mayT (edg (st5 r l q s m d))) (mayT (edg (st5 r l q s m e))) (rfs r) (rfs r).length)) else .nils,.int .i64 (aqN r l q s m d e)]
def loD (c:CB) (bs:List Rf) (X Y:List Pr) (D:Nat→Bool):St :=
 ⟨[(39,.vmap (prA Y)),(14,.mp 35),(12,.ptr 12 0)],[(35,.mp (prA (X.filter fun p=>!stkP Y D p))),(12,.box (c.M bs))]⟩
def loT (n:Nat) (bs:List Rf) (i:Nat):List (Nat×AV):=[(53,.int .i64 i),(52,.int .i64 n),(51,.vsl (bs.map ita)),(14,.mp 35),(12,.ptr 12 0)]
def loB (c:CB) (bs:List Rf) (Z:List Pr):List (Nat×AObj):=[(35,.mp (prA Z)),(12,.box (c.M bs))]
def loL (acc:List Pr):AV:=if acc=[] then .nils else .osl 76 acc.length
def loO (c:CB) (bs:List Rf) (Z acc:List Pr):List (Nat×AObj):=if acc=[] then loB c bs Z else (76,.row 4 (prM acc))::loB c bs Z
def loS (c:CB) (bs:List Rf) (Z acc:List Pr) (i:Nat):St:=⟨(16,loL acc)::loT bs.length bs i,loO c bs Z acc⟩
def loI (c:CB) (bs:List Rf) (Z acc:List Pr) (a:Rf) (i k:Nat):St :=
 ⟨(63,.int .i64 k)::(62,.int .i64 bs.length)::(61,.vsl (bs.map ita))::(18,.ptr 18 0)::(16,loL acc)::loT bs.length bs i,(18,.box [.int .i64 a.1,.int .i64 a.2])::loO c bs Z acc⟩
section
variable {G:Nat→Option (List AV)}
set_option maxHeartbeats 4000000 in
theorem Zmz (hG:GC G) (hN:GN G) (hQ:GQ G) (r:List Iss) (l:List Nte) (q:List Rul) (s:List Int) (m d e:Int) (hw:WfN l) (hr:Wf r) (hq:Sml q) (hs:Sml s) :
  PC Tryz.prog G 31 [swa r l q,.vsl (s.map ia),.int .i64 m,.int .i64 d,.int .i64 e] (loE r l q s m d e):=by
 have ha:=Zjq hG hN r l q s m d e hw hr hq hs;unfold loE;unfold moA at ha;by_cases h0:aqN r l q s m d e=0
 case neg =>
  rw[if_neg h0]at ha ⊢;unfold swa at *
  (refine Z5x rfl fun R hG hrd=>Yc Yb 1000 ?_;subst hG)
  simp -implicitDefEqProofs[Z5v,Z5w]
  (first|refine Ye.of (ha) (by simp) ?_|refine Yf.of (ha) (by simp) ?_)
  simp -implicitDefEqProofs[h0]
 have hz:=ZiQ h0;have hne:=ch_ne hz.1;have hp:=Zm7 hG hN hQ r l q s m d hw hr hq hs hz.1 hz.2.1 hne;have hp2:=Zm7 hG hN hQ r l q s m e hw hr hq hs hz.1 hz.2.1 hne;have hlen:=Zla (s:=s) (m:=m) (day:=d) hz.1;have hlen2:=Zla (s:=s) (m:=m) (day:=e) hz.1;have hnd:(rfs r).Nodup:=Zk9 (Zkh hz.1);have hXn:=ZlX (L:=st5 r l q s m d) hnd hnd;have hch:=Zlj hz.1;have hn:=Zlk r;have lB:(rfs r).length≤60:=(by omega);have pS:(Yl r l q).pure=true:=(by unfold Yl rfA;split <;> simp[AV.pure,isa,na,ra,rfa]);have hT:=fun a b ha hb=>Zml (r:=r) (L:=st5 r l q s m d) (a:=a) (b:=b) (by omega) ha hb
 have hU:=fun a b ha hb=>Zml (r:=r) (L:=st5 r l q s m e) (a:=a) (b:=b) (by omega) ha hb
 rw[if_pos h0,h0]at ha ⊢;obtain ⟨cs,eS⟩ : ∃ cs,Yl r l q = .vptr cs 0:=⟨_,rfl⟩
 have eC:cs=[.vsl (r.map isa),.vsl (l.map na),.vsl (q.map ra),.vsl ((rfs r).map ita)]:=by
  unfold Yl at eS;rw[Zlf hne]at eS;injection eS with e1 _
  exact e1.symm
 unfold moC at *;rw[eS]at ha hp hp2 pS;generalize prL r (st5 r l q s m d) (rfs r)=X at *;generalize prL r (st5 r l q s m e) (rfs r)=Y at *;generalize mayT (edg (st5 r l q s m d))=T at *;generalize mayT (edg (st5 r l q s m e))=U at *;unfold swa at *;subst eC;generalize rfs r=bs at *
 (refine Z5x rfl fun R hG hrd=>Yc Yb 1000 ?_;subst hG)
 simp -implicitDefEqProofs[Z5v,Z5w]
 (first|refine Ye.of (ha) (by simp) ?_|refine Yf.of (ha) (by simp) ?_)
 simp -implicitDefEqProofs[];refine Ye.sem (Z1B.objs hp (fun _=>35) (by simp) (by simp[St.get,lk]) (by simp[AV.pure]at pS ⊢;try simp[pS]) rfl rfl) ?_;simp -implicitDefEqProofs[AV.ren,Ym,Zm0];obtain ⟨c,hc⟩ : ∃ c:CB,c=⟨.vsl (r.map isa),.vsl (l.map na),.vsl (q.map ra),s.map ia,m,e⟩:=⟨_,rfl⟩;have hk:c.I.keys=[]∧c.J.keys=[]∧c.K.keys=[]:=(by rw[hc];simp[AV.keys]);obtain ⟨kI,kJ,kK⟩:=hk;refine Z5p (kvs:=prA Y) (loD c bs X Y) (by decide) (by simp[Z1y]) (fun D=>by simp[loD,St.tmp,lk]) (fun D n hn=>by simp at hn;rcases hn with rfl|rfl|rfl|rfl|rfl <;> simp[loD,St.tmp,lk]) ?_ ?_ ?_
 · simp -implicitDefEqProofs[];refine Ye.sem (Z1B.objs hp2 (fun _=>39) (by simp) (by simp[St.get,lk]) (by simp[AV.pure]at pS ⊢;try simp[pS]) rfl rfl) ?_;simp -implicitDefEqProofs[AV.ren,Ym,Zm0];refine Yn.trans (Yn.frz (fun k=>k == 39) _) ?_;simp only[loD,Zmo,CB.M,hc]
   ((try simp only[Yj,frzA,frzO,frz,Yi,Yk,St.get,AV.pure,Zm2,ZlZ]);refine Yn.sub (by simp[lk,Ya,AV.keys,Yj,frzA,frzO,frz,Yi,Yk,St.get,AV.pure,Zm2,ZlZ]) ?_;simp only[Yj,frzA,frzO,frz,Yi,Yk,St.get,AV.pure,Zm2,ZlZ,Wkl,ZlY,and_true];(try simp[lk,Yd,Ya,AV.keys,Yj,frzA,frzO,frz,Yi,Yk,St.get,AV.pure,Zm2,ZlZ]))
 · intro D i k v hkv hD;obtain ⟨hi0,hkv2⟩:=List.getElem?_eq_some_iff.1 hkv;have hi:i<Y.length:=(by simpa [prA] using hi0);have hk1:k=prK Y[i]:=(by simp[prA]at hkv2;exact hkv2.1.symm);subst hk1;have hde:=ZlU (x:=Y[i]) (l:=X.filter fun p=>!stkP Y D p) (hXn.sublist List.filter_sublist);rw[Zmp hi]at hde;simp only[prK]at hde;simp -implicitDefEqProofs[loD,prK,hde]
   ((try simp only[CB.M,kI,kJ,kK]);refine Yn.sub (by simp[lk,Ya,AV.keys,CB.M,kI,kJ,kK]) ?_;simp only[CB.M,kI,kJ,kK,Wkl,ZlY,and_true];(try simp[lk,Yd,Ya,AV.keys,CB.M,kI,kJ,kK]))
 · intro D hD;have hmem:=fun p=>Zmq (X:=X) (Y:=Y) (D:=D) (by simpa [prA] using hD) (p:=p)
   simp only[loD];generalize X.filter (fun p=>!stkP Y D p)=Z at *
   have hZ:∀ a b,a∈bs→b∈bs→((a,b)∈Z↔(T a b && !U a b)=true):=fun a b h1 h2=>by
    rw[hmem,hT a b h1 h2,hU a b h1 h2]
    cases T a b <;> cases U a b <;> simp
   clear hD hmem;refine Z2N Yb 1000 ?_;simp -implicitDefEqProofs[CB.M];refine ZaV (fun i=>loS c bs Z (losX T U bs i) i) (fun _=>True) bs.length ?_ trivial ?_ ?_
   · have e0:losX T U bs 0=[]:=rfl;have e1:loL [] = .nils:=rfl;have e2:loO c bs Z []=loB c bs Z:=rfl;simp only[loS,loT,loB,CB.M,e0,e1,e2]
     ((try simp only[kI,kJ,kK,ita]);refine Yn.sub (by simp[lk,Ya,AV.keys,kI,kJ,kK,ita]) ?_;simp only[kI,kJ,kK,ita,Wkl,ZlY,and_true];(try simp[lk,Yd,Ya,AV.keys,kI,kJ,kK,ita]))
   · intro i hi _;have wi:IntKind.i64.wrap ((i:Int)+1)=(i:Int)+1:=Yg (by omega) (by omega);obtain ⟨a,hae⟩ : ∃ a,a=bs[i]:=⟨_,rfl⟩;have hma:a∈bs:=(by rw[hae];exact List.getElem_mem hi);have sn:=Zmr (T:=T) (U:=U) hi;rw[← hae]at sn;have al:=Zmu (T:=T) (U:=U) (bs:=bs) i (by omega);have al2:i*bs.length≤60*60:=Nat.mul_le_mul (by omega) lB;generalize losX T U bs i=A at *;refine Yc Yb 1000 ?_
     have init:∀ st',Yn st' (loI c bs Z A a i 0)→Yn st' (loI c bs Z (A++losR T U bs a 0) a i 0):=fun st' h=>by
      have e:losR T U bs a 0=[]:=rfl;rw[e,List.append_nil];exact h
     by_cases c0:A=[]
     case' pos =>
      have hL:loL A = .nils:=(by simp[loL,c0]);have hO:loO c bs Z A=loB c bs Z:=by simp[loO,c0]
     case' neg =>
      have hL:loL A = .osl 76 A.length:=(by simp[loL,c0]);have hO:loO c bs Z A=(76,.row 4 (prM A))::loB c bs Z:=by simp[loO,c0]
     all_goals
      simp -implicitDefEqProofs[loS,loT,loB,CB.M,hL,hO,hi,ita,← hae];refine ZaV (fun k=>loI c bs Z (A++losR T U bs a k) a i k) (fun _=>True) bs.length ?_ trivial ?_ ?_
      · refine init _ ?_;simp only[loI,loT,loB,CB.M,hL,hO]
        ((try simp only[kI,kJ,kK,ita]);refine Yn.sub (by simp[lk,Ya,AV.keys,kI,kJ,kK,ita]) ?_;simp only[kI,kJ,kK,ita,Wkl,ZlY,Zmy,and_true];(try simp[lk,Yd,Ya,AV.keys,kI,kJ,kK,ita]))
      · clear hL hO init;intro k hk _;have wk:IntKind.i64.wrap ((k:Int)+1)=(k:Int)+1:=Yg (by omega) (by omega);obtain ⟨b,hbe⟩ : ∃ b,b=bs[k]:=⟨_,rfl⟩;have hmb:b∈bs:=(by rw[hbe];exact List.getElem_mem hk);have sn2:=Zms (T:=T) (U:=U) (a:=a) hk;rw[← hbe]at sn2;have g1:=ZlQ (a,b) Z;have m1:=hZ a b hma hmb;simp only[prK]at g1
        have sn3:A++losR T U bs a (k+1)=if (T a b && !U a b)=true then (A++losR T U bs a k)++[(a,b)] else A++losR T U bs a k:=by
         rw[sn2];split <;> simp
        have ol:(A++losR T U bs a k).length≤60*60+60:=by
         have:=Zmt (T:=T) (U:=U) (bs:=bs) (a:=a) (k:=k);rw[List.length_append];omega
        generalize A++losR T U bs a k=acc at *;have em:=Zmv acc (a,b);have lo:=Zmw acc;have bb:(acc.length+1)*32≤70368744177664:=(by omega);refine Yc Yb 1000 ?_;by_cases t1:(T a b && !U a b)=true
        · rw[if_pos t1]at sn3;rw[if_pos (m1.2 t1)]at g1;have hL1:loL (acc++[(a,b)]) = .osl 76 (acc.length+1):=(by simp[loL]);have hO1:loO c bs Z (acc++[(a,b)])=(76,.row 4 (prM (acc++[(a,b)])))::loB c bs Z:=(by simp[loO]);by_cases cx:acc=[]
          · have hL:loL acc = .nils:=(by simp[loL,cx]);have hO:loO c bs Z acc=loB c bs Z:=(by simp[loO,cx]);have e0:prM []=[]:=rfl;rw[cx]at em sn3 hL1 hO1;simp only[List.nil_append,e0,List.length_nil,Nat.zero_add]at em sn3 hL1 hO1;simp -implicitDefEqProofs[loI,loT,loB,CB.M,hL,hO,hk,ita,← hbe,wk,g1,sn3,hL1,hO1];rw[← em]
            ((try simp only[kI,kJ,kK,ita]);refine Yn.sub (by simp[lk,Ya,AV.keys,kI,kJ,kK,ita]) ?_;simp only[kI,kJ,kK,ita,Wkl,ZlY,Zmy,and_true];(try simp[lk,Yd,Ya,AV.keys,kI,kJ,kK,ita]))
          · have hL:loL acc = .osl 76 acc.length:=(by simp[loL,cx]);have hO:loO c bs Z acc=(76,.row 4 (prM acc))::loB c bs Z:=(by simp[loO,cx]);simp -implicitDefEqProofs[loI,loT,loB,CB.M,hL,hO,hk,ita,← hbe,wk,g1,sn3,hL1,hO1,lo,bb];rw[← em]
            ((try simp only[kI,kJ,kK,ita]);refine Yn.sub (by simp[lk,Ya,AV.keys,kI,kJ,kK,ita]) ?_;simp only[kI,kJ,kK,ita,Wkl,ZlY,Zmy,and_true];(try simp[lk,Yd,Ya,AV.keys,kI,kJ,kK,ita]))
        · rw[if_neg t1]at sn3;rw[if_neg (fun h=>t1 (m1.1 h))]at g1;by_cases cx:acc=[]
          case' pos =>
           have hL:loL acc = .nils:=(by simp[loL,cx]);have hO:loO c bs Z acc=loB c bs Z:=by simp[loO,cx]
          case' neg =>
           have hL:loL acc = .osl 76 acc.length:=(by simp[loL,cx]);have hO:loO c bs Z acc=(76,.row 4 (prM acc))::loB c bs Z:=by simp[loO,cx]
          all_goals
           simp -implicitDefEqProofs[loI,loT,loB,CB.M,hL,hO,hk,ita,← hbe,wk,g1,sn3]
           ((try simp only[kI,kJ,kK,ita]);refine Yn.sub (by simp[lk,Ya,AV.keys,kI,kJ,kK,ita]) ?_;simp only[kI,kJ,kK,ita,Wkl,ZlY,Zmy,and_true];(try simp[lk,Yd,Ya,AV.keys,kI,kJ,kK,ita]))
      · intro _;rw[← sn];clear hL hO init sn;obtain ⟨acc,hacc⟩ : ∃ acc,acc=losX T U bs (i+1):=⟨_,rfl⟩;rw[← hacc];refine Yc Yb 1000 ?_;by_cases cx:acc=[]
        case' pos =>
         have hL:loL acc = .nils:=(by simp[loL,cx]);have hO:loO c bs Z acc=loB c bs Z:=by simp[loO,cx]
        case' neg =>
         have hL:loL acc = .osl 76 acc.length:=(by simp[loL,cx]);have hO:loO c bs Z acc=(76,.row 4 (prM acc))::loB c bs Z:=by simp[loO,cx]
        all_goals
         simp -implicitDefEqProofs[loI,loT,loB,CB.M,hL,hO,wi];refine Z2N Yb 1000 ?_;simp -implicitDefEqProofs[loS,loT,loB,CB.M,← hacc,hL,hO,wi]
         ((try simp only[kI,kJ,kK,ita]);refine Yn.sub (by simp[lk,Ya,AV.keys,kI,kJ,kK,ita]) ?_;simp only[kI,kJ,kK,ita,Wkl,ZlY,Zmy,and_true];(try simp[lk,Yd,Ya,AV.keys,kI,kJ,kK,ita]))
   · intro _;generalize losX T U bs bs.length=acc at *;have k5:=Zmx acc;have k6:=Zmw acc;refine Yc Yb 1000 ?_;by_cases cx:acc=[]
     · have hL:loL acc = .nils:=(by simp[loL,cx]);have hO:loO c bs Z acc=loB c bs Z:=(by simp[loO,cx]);simp -implicitDefEqProofs[loS,loT,hL,hO];refine Z2N Yb 1000 ?_;have e0:prM []=[]:=rfl;simp -implicitDefEqProofs[cx,Yh,e0]
     · have hL:loL acc = .osl 76 acc.length:=(by simp[loL,cx]);have hO:loO c bs Z acc=(76,.row 4 (prM acc))::loB c bs Z:=(by simp[loO,cx]);have e0:¬prM acc=[]:=fun h=>cx (by simpa [prM] using h)
       simp -implicitDefEqProofs[loS,loT,hL,hO];refine Z2N Yb 1000 ?_;simp -implicitDefEqProofs[Yh,k5,k6,e0]
end
def fsB (T:Rf→Rf→Bool) (bs:List Rf) (i:Nat):Nat→Bool
 |0=>true
 |k+1=>fsB T bs i k&&(!(T (bs.getD i default) (bs.getD k default)&&T (bs.getD k default) (bs.getD i default))||decide (i≤k))
theorem ZmA {T:Rf→Rf→Bool} {bs:List Rf} {i:Nat}:∀ k,fsB T bs i k=true↔∀ j,j<k→(T (bs.getD i default) (bs.getD j default)&&T (bs.getD j default) (bs.getD i default))=true→i≤j
 |0=>by simp[fsB]
 | k + 1=>by
   rw[fsB,Bool.and_eq_true,ZmA k,Bool.or_eq_true,Bool.not_eq_true',decide_eq_true_eq]
   constructor
   · rintro ⟨h1,h2⟩ j hj hp;by_cases e:j=k
     · subst e;rcases h2 with h2|h2
       · rw[h2]at hp;cases hp
       · exact h2
     · exact h1 j (by omega) hp
   · intro h;refine ⟨fun j hj=>h j (by omega),?_⟩
     cases q:(T (bs.getD i default) (bs.getD k default)&&T (bs.getD k default) (bs.getD i default))
     · exact .inl rfl
     · exact .inr (h k (by omega) q)
theorem ZmB {bs:List Rf} {i:Nat} (h:i<bs.length):bs.getD i default=bs[i]:=by simp[List.getD_eq_getElem?_getD,h]
theorem ZmC {T:Rf→Rf→Bool} {bs:List Rf} (hn:bs.Nodup) (hT:∀ a,T a a=true) {i:Nat} (hi:i<bs.length):hdT T bs bs[i]=(decide (1<(ownT T bs bs[i]).length)&&fsB T bs i bs.length):=by
 unfold hdT
 congr 1
 obtain ⟨a,ha⟩ : ∃ a,a=bs[i]:=⟨_,rfl⟩;rw[← ha]
 have e1:ownT T bs a=bs.filter fun b=>T a b&&T b a:=by
  unfold ownT;rw[ZkJ];exact List.filter_congr fun b _=>by simp[ownP]
 have e2:bs=bs.take i++a::bs.drop (i+1):=by
  rw[ha,List.getElem_cons_drop,List.take_append_drop]
 have e3:(bs.filter fun b=>T a b&&T b a)=((bs.take i).filter fun b=>T a b&&T b a)++a::((bs.drop (i+1)).filter fun b=>T a b&&T b a):=by
  conv=>lhs;rw[e2]
  rw[List.filter_append,List.filter_cons_of_pos (by simp[hT])]
 have e4:fsB T bs i bs.length=true↔((bs.take i).filter fun b=>T a b&&T b a)=[]:=by
  rw[ZmA,List.filter_eq_nil_iff,ZmB hi,← ha]
  constructor
  · intro h b hb hp;obtain ⟨j,hj,e⟩:=List.getElem_of_mem hb;have hj2:j<i:=(by simp at hj;omega);rw[List.getElem_take]at e;have:=h j (by omega) (by rw[ZmB (by omega),e];exact hp);omega
  · intro h j hj hp;rcases Nat.lt_or_ge j i with c|c
    · exfalso;rw[ZmB hj]at hp;exact h bs[j] (List.mem_take_iff_getElem.2 ⟨j,by omega,rfl⟩) hp
    · exact c
 rw[e1,e3,Bool.eq_iff_iff,e4,decide_eq_true_eq]
 constructor
 · intro h
   cases q:(bs.take i).filter fun b=>T a b&&T b a with
   |nil=>rfl
   | cons x rest =>
     rw[q]at h;simp only[List.cons_append,List.head?_cons,Option.some.injEq]at h;subst h;have hx:x∈bs.take i:=(List.mem_filter.1 (q ▸ List.mem_cons_self ..)).1;obtain ⟨j,hj,e⟩:=List.getElem_of_mem hx;have hj2:j<i:=(by simp at hj;omega);rw[List.getElem_take]at e;exact absurd (e.trans ha) ((List.pairwise_iff_getElem.1 hn) j i (by omega) hi hj2)
 · intro h;rw[h];rfl
theorem ZmD (E:List (Rf×Rf)) (bs:List Rf):(tbW E bs).length=bs.length:=by simp[tbW]
def tbX (E:List (Rf×Rf)) (bs:List Rf) (i:Nat):List (List AV):=tbR (tbV E bs) bs.length bs.length 0 i
theorem ZmE {E:List (Rf×Rf)} {bs:List Rf} {i:Nat} (h:i<bs.length):(tbW E bs)[i]'(by rw[ZmD];exact h)=[.vsl (tbX E bs i)]:=by simp[tbW,tbX]
theorem ZmF (E:List (Rf×Rf)) (bs:List Rf) (i:Nat):(tbX E bs i).length=bs.length:=ZlB _ _ _ _ _
theorem ZmG {E:List (Rf×Rf)} {bs:List Rf} {i k:Nat} (hi:i<bs.length) (hk:k<bs.length):(tbX E bs i)[k]'(by rw[ZmF];exact hk)=[.bool (mayT E bs[i] bs[k])]:=by
 simp only[tbX,tbR,List.getElem_map,List.getElem_range,tbV,mayT,ZmB hi,ZmB hk];simp[hk]
theorem ZmH (E:List (Rf×Rf)) (bs:List Rf):(AV.vsl (tbW E bs)).pure=true:=by
 simp[AV.pure,tbW,tbR]
theorem ZmI (E:List (Rf×Rf)) (bs:List Rf):∃ (W:List (List AV)) (XF:Nat→List (List AV)),W=tbW E bs∧∃ (wl:W.length=bs.length) (xl:∀ i,(XF i).length=bs.length),
  (∀ i (hi:i<bs.length),W[i]'(by omega)=[.vsl (XF i)])∧∀ i k (hi:i<bs.length) (hk:k<bs.length),(XF i)[k]'(by rw[xl i];exact hk)=[.bool (mayT E bs[i] bs[k])] :=
 ⟨tbW E bs,tbX E bs,rfl,ZmD E bs,ZmF E bs,fun _ hi=>ZmE hi,fun _ _ hi hk=>ZmG hi hk⟩
def c5T (bs:List Rf) (W:List (List AV)) (i:Nat):List (Nat×AV):=[(14,.int .i64 i),(12,.vsl W),(11,.vsl (bs.map ita))]
def c5L (acc:List (List Rf)):AV:=if acc=[] then .nils else .osl 86 acc.length
def c5O (acc:List (List Rf)):List (Nat×AObj):=if acc=[] then [] else [(86,.row 1 (clM acc))]
def c5S (bs:List Rf) (W:List (List AV)) (acc:List (List Rf)) (i:Nat):St:=⟨(13,c5L acc)::c5T bs W i,c5O acc⟩
def c5I (bs:List Rf) (W:List (List AV)) (acc:List (List Rf)) (own:List Rf) (f:Bool) (i k:Nat):St :=
 if own=[] then ⟨(17,.int .i64 k)::(16,.bool f)::(15,.nils)::(13,c5L acc)::c5T bs W i,c5O acc⟩
 else ⟨(17,.int .i64 k)::(16,.bool f)::(15,.osl 70 own.length)::(13,c5L acc)::c5T bs W i,(70,.row 2 (acM own))::c5O acc⟩
section
variable {G:Nat→Option (List AV)}
set_option maxHeartbeats 4000000 in
theorem ZmJ (r:List Iss) (l:List Nte) (q:List Rul) (s:List Int) (m day:Int) (hw:WfN l) (hr:Wf r) (hq:Sml q) (hs:Sml s) :
  PC Tryz.prog G 30 [swa r l q,.vsl (s.map ia),.int .i64 m,.int .i64 day] (clE r l q s m day):=by
 have ha:=ZiM (G:=G) r l q s m day day hw hr hq hs;unfold clE;by_cases h0:aqN r l q s m day day=0
 case neg =>
  rw[if_neg h0];unfold swa at *
  (refine Z61 rfl fun R hG hrd=>Yc Yb 1000 ?_;subst hG)
  simp -implicitDefEqProofs[Z5Z,Z60]
  (first|refine Ye.of (ha) (by simp) ?_|refine Yf.of (ha) (by simp) ?_)
  simp -implicitDefEqProofs[h0]
 have hz:=ZiQ h0;have hne:=ch_ne hz.1;have hR:=ZjW (G:=G) r hr.1.1;rw[Zlf hne]at hR;have hW:=ZlN (G:=G) r l q s m day hw hr hs hz.1 hne;have hlen:=Zla (s:=s) (m:=m) (day:=day) hz.1;have hE:(edg (st5 r l q s m day)).length≤1000:=(by simp[edg];omega);have hnd:(rfs r).Nodup:=Zk9 (Zkh hz.1);have hch:=Zlj hz.1;have hn:=Zlk r;have lB:(rfs r).length≤60:=(by omega);have hself:=fun a=>Zmm hE a
 obtain ⟨W,XF,hWe,wl,xl,wa,xa⟩:=ZmI (edg (st5 r l q s m day)) (rfs r);have wp:=ZmH (edg (st5 r l q s m day)) (rfs r);rw[← hWe]at hW wp;clear hWe;rw[h0]at ha;rw[if_pos h0,h0];generalize mayT (edg (st5 r l q s m day))=T at *;unfold swa at *;generalize rfs r=bs at *
 (refine Z61 rfl fun R hG hrd=>Yc Yb 1000 ?_;subst hG)
 simp -implicitDefEqProofs[Z5Z,Z60]
 (first|refine Ye.of (ha) (by simp) ?_|refine Yf.of (ha) (by simp) ?_)
 simp -implicitDefEqProofs[];refine Yf.of hR (by simp[AV.pure,isa]) ?_;simp -implicitDefEqProofs[];refine Yf.of hW (by simp[AV.pure,isa,na,ra,ia]) ?_;simp -implicitDefEqProofs[];refine ⟨rfl,?_⟩;refine ZaV (fun i=>c5S bs W (clX T bs i) i) (fun _=>True) bs.length ?_ trivial ?_ ?_
 · rw[Zm9];have e0:c5L [] = .nils:=rfl;have e1:c5O []=[]:=rfl;simp only[c5S,c5T,e0,e1]
   ((try simp only[ita]);refine Yn.sub (by simp[lk,Ya,AV.keys,ita]) ?_;simp only[ita,Wkl,and_true];(try simp[lk,Yd,Ya,AV.keys,ita]))
 · intro i hi _;have wi:IntKind.i64.wrap ((i:Int)+1)=(i:Int)+1:=Yg (by omega) (by omega);obtain ⟨a,hae⟩ : ∃ a,a=bs[i]:=⟨_,rfl⟩;have hhd:=ZmC hnd hself hi;have sn:=Zma (T:=T) hi;rw[← hae]at sn hhd;rw[hhd]at sn;have al:=Zmb (T:=T) (bs:=bs) (i:=i);generalize clX T bs i=acc at *;have lnm:=Zmf acc;have bb:(acc.length+1)*24≤70368744177664:=(by omega);have wai:=wa i hi;have xli:=xl i;have gDi:=ZmB hi;refine Yc Yb 1000 ?_;by_cases c0:acc=[]
   case' pos =>
    have hL:c5L acc = .nils:=(by simp[c5L,c0]);have hO:c5O acc=[]:=by simp[c5O,c0]
   case' neg =>
    have hL:c5L acc = .osl 86 acc.length:=(by simp[c5L,c0]);have hO:c5O acc=[(86,.row 1 (clM acc))]:=by simp[c5O,c0]
   all_goals
    simp -implicitDefEqProofs[c5S,c5T,hL,hO,hi];refine ZaV (fun k=>c5I bs W acc (dlK (ownP T a) bs k) (fsB T bs i k) i k) (fun _=>True) bs.length ?_ trivial ?_ ?_
    · have e0:dlK (ownP T a) bs 0=[]:=rfl;have e1:fsB T bs i 0=true:=rfl;simp only[c5I,e0,e1,if_true,c5T,hL,hO]
      ((try simp only[ita]);refine Yn.sub (by simp[lk,Ya,AV.keys,ita]) ?_;simp only[ita,Wkl,Zmg,and_true];(try simp[lk,Yd,Ya,AV.keys,ita]))
    · intro k hk _;have wk:IntKind.i64.wrap ((k:Int)+1)=(k:Int)+1:=Yg (by omega) (by omega);obtain ⟨b,hbe⟩ : ∃ b,b=bs[k]:=⟨_,rfl⟩;have sn2:=Zm8 (T:=T) (a:=a) hk;have gDk:=ZmB hk;have sn3:fsB T bs i (k+1)=(fsB T bs i k&&(!(T a b&&T b a)||decide (i≤k))):=(by rw[fsB,gDi,gDk,← hae,← hbe]);rw[← hbe]at sn2;have ol:=ZkI (p:=ownP T a) (l:=bs) (j:=k);have wak:=wa k hk;have xlk:=xl k;have x1:=xa i k hi hk;have x2:=xa k i hk hi;rw[← hae,← hbe]at x1 x2;generalize dlK (ownP T a) bs k=own at *;generalize fsB T bs i k=f at *;have em:=Zlm own b;have lo:=Zln own;have b2:(own.length+1)*16≤70368744177664:=(by omega);have ik:((i:Int)≤(k:Int))=(i≤k):=(by simp);refine Yc Yb 1000 ?_
      cases t1:T a b
      · rw[t1]at x1 sn2 sn3;simp only[Bool.false_and,Bool.false_eq_true,if_false,Bool.not_false,Bool.true_or,Bool.and_true]at sn2 sn3;by_cases cx:own=[]
        all_goals
         simp -implicitDefEqProofs[c5I,c5T,hL,hO,hi,hk,wl,wai,wak,xli,xlk,x1,wk,cx,sn2,sn3]
         ((try simp only[ita]);refine Yn.sub (by simp[lk,Ya,AV.keys,ita]) ?_;simp only[ita,Wkl,Zmg,Zlo,and_true];(try simp[lk,Yd,Ya,AV.keys,ita]))
      · rw [t1]at x1 sn2 sn3
        cases t2:T b a
        · rw[t2]at x2 sn2 sn3;simp only[Bool.and_false,Bool.false_eq_true,if_false,Bool.not_false,Bool.true_or,Bool.and_true]at sn2 sn3;by_cases cx:own=[]
          all_goals
           simp -implicitDefEqProofs[c5I,c5T,hL,hO,hi,hk,wl,wai,wak,xli,xlk,x1,x2,wk,cx,sn2,sn3]
           ((try simp only[ita]);refine Yn.sub (by simp[lk,Ya,AV.keys,ita]) ?_;simp only[ita,Wkl,Zmg,Zlo,and_true];(try simp[lk,Yd,Ya,AV.keys,ita]))
        · rw [t2]at x2 sn2 sn3;simp only[Bool.and_self,if_true,Bool.not_true,Bool.false_or]at sn2 sn3;by_cases cx:own=[]
          · rw[cx,List.nil_append]at sn2 em;have e0:acM []=[]:=rfl;rw[e0,List.nil_append]at em
            cases f
            all_goals
             simp only[Bool.false_and,Bool.true_and]at sn3;simp -implicitDefEqProofs[c5I,c5T,hL,hO,hi,hk,ita,← hbe,wl,wai,wak,xli,xlk,x1,x2,wk,cx,sn2,sn3];rw[← em]
             ((try simp only[ita]);refine Yn.sub (by simp[lk,Ya,AV.keys,ita]) ?_;simp only[ita,Wkl,Zmg,Zlo,and_true];(try simp[lk,Yd,Ya,AV.keys,ita]))
          · have cx2:¬own++[b]=[]:=by simp
            cases f
            all_goals
             simp only[Bool.false_and,Bool.true_and]at sn3;simp -implicitDefEqProofs[c5I,c5T,hL,hO,hi,hk,ita,← hbe,wl,wai,wak,xli,xlk,x1,x2,wk,cx,cx2,sn2,sn3,b2,lo];rw[← em]
             ((try simp only[ita]);refine Yn.sub (by simp[lk,Ya,AV.keys,ita]) ?_;simp only[ita,Wkl,Zmg,Zlo,and_true];(try simp[lk,Yd,Ya,AV.keys,ita]))
    · intro _;have eO:dlK (ownP T a) bs bs.length=ownT T bs a:=rfl;rw[eO];have hin:a∈ownT T bs a:=Zmd.2 ⟨by rw[hae];exact List.getElem_mem hi,hself a,hself a⟩;have ol:=Zmc (T:=T) (bs:=bs) (a:=a);generalize fsB T bs i bs.length=f at *;generalize ownT T bs a=own at *;have hno:¬own=[]:=(by rintro rfl;cases hin);have k5:=Zlp own;have k6:=Zln own;have hpos:0<own.length:=List.length_pos_iff.2 hno;refine Yc Yb 1000 ?_;simp -implicitDefEqProofs[c5I,c5T,hL,hO,hno];refine Z2N Yb 2 ?_;simp -implicitDefEqProofs[];refine GO0 (Z2M (st':=⟨(16,.bool f)::(15,.vsl (acM own))::(13,c5L acc)::c5T bs W i,c5O acc⟩) (Yn.trans (Yn.frz (fun k=>k == 70) _) ?_) ?_)
      · simp only[c5T,hL,hO]
        ((try simp only[Yj,frzA,frzO,frz,Yi,Yk,St.get,AV.pure,k5,k6,Zmj,ita]);refine Yn.sub (by simp[lk,Ya,AV.keys,Yj,frzA,frzO,frz,Yi,Yk,St.get,AV.pure,k5,k6,Zmj,ita]) ?_;simp only[Yj,frzA,frzO,frz,Yi,Yk,St.get,AV.pure,k5,k6,Zmj,ita,Wkl,Zmg,and_true];(try simp[lk,Yd,Ya,AV.keys,Yj,frzA,frzO,frz,Yi,Yk,St.get,AV.pure,k5,k6,Zmj,ita]))
      refine Yc Yb 1000 ?_
      cases f
      · simp only[Bool.and_false,Bool.false_eq_true,if_false]at sn;simp -implicitDefEqProofs[c5T,hL,hO];refine Z2N Yb 1000 ?_;simp -implicitDefEqProofs[c5S,c5T,hL,hO,wi,sn]
        ((try simp only[ita]);refine Yn.sub (by simp[lk,Ya,AV.keys,ita]) ?_;simp only[ita,Wkl,Zmg,and_true];(try simp[lk,Yd,Ya,AV.keys,ita]))
      · simp only[Bool.and_true,decide_eq_true_eq]at sn;by_cases c1:1<own.length
        · rw[if_pos c1]at sn;have hl2:(1:Int)<(own.length:Int):=(by omega);have em:=Zme acc own;have hL1:c5L (acc++[own]) = .osl 86 (acc.length+1):=(by simp[c5L]);have hO1:c5O (acc++[own])=[(86,.row 1 (clM (acc++[own])))]:=(by simp[c5O]);have e0:clM []=[]:=rfl;simp -implicitDefEqProofs[c5T,hL,hO,k6,hl2,lnm,bb]
          (try (rw[c0]at em sn hL1 hO1;simp only[List.nil_append,e0,List.length_nil,Nat.zero_add]at em sn hL1 hO1))
          refine Z2N Yb 1000 ?_;simp -implicitDefEqProofs[c5S,c5T,wi,sn,hL1,hO1];rw[← em]
          ((try simp only[ita]);refine Yn.sub (by simp[lk,Ya,AV.keys,ita]) ?_;simp only[ita,Wkl,Zmg,and_true];(try simp[lk,Yd,Ya,AV.keys,ita]))
        · rw[if_neg c1]at sn;have hl2:¬(1:Int)<(own.length:Int):=(by omega);simp -implicitDefEqProofs[c5T,hL,hO,k6,hl2];refine Z2N Yb 1000 ?_;simp -implicitDefEqProofs[c5S,c5T,hL,hO,wi,sn]
          ((try simp only[ita]);refine Yn.sub (by simp[lk,Ya,AV.keys,ita]) ?_;simp only[ita,Wkl,Zmg,and_true];(try simp[lk,Yd,Ya,AV.keys,ita]))
 · intro _;generalize clX T bs bs.length=acc at *;have k5:=Zmi acc;have k6:=Zmf acc;refine Yc Yb 1000 ?_;by_cases c0:acc=[]
   · have hL:c5L acc = .nils:=(by simp[c5L,c0]);have hO:c5O acc=[]:=(by simp[c5O,c0]);simp -implicitDefEqProofs[c5S,c5T,hL,hO];refine Z2N Yb 1000 ?_;have e0:clM []=[]:=rfl;simp -implicitDefEqProofs[c0,Yh,e0]
   · have hL:c5L acc = .osl 86 acc.length:=(by simp[c5L,c0]);have hO:c5O acc=[(86,.row 1 (clM acc))]:=(by simp[c5O,c0]);have e0:¬clM acc=[]:=fun h=>c0 (by simpa [clM] using h)
     simp -implicitDefEqProofs[c5S,c5T,hL,hO];refine Z2N Yb 1000 ?_;simp -implicitDefEqProofs[Yh,k5,k6,e0]
end
def l5T (bs:List Rf) (W Z:List (List AV)) (i:Nat):List (Nat×AV):=[(17,.int .i64 i),(15,.vsl Z),(14,.vsl W),(13,.vsl (bs.map ita))]
def l5L (acc:List Pr):AV:=if acc=[] then .nils else .osl 82 acc.length
def l5O (acc:List Pr):List (Nat×AObj):=if acc=[] then [] else [(82,.row 4 (prM acc))]
def l5S (bs:List Rf) (W Z:List (List AV)) (acc:List Pr) (i:Nat):St:=⟨(16,l5L acc)::l5T bs W Z i,l5O acc⟩
def l5I (bs:List Rf) (W Z:List (List AV)) (acc:List Pr) (i k:Nat):St:=⟨(18,.int .i64 k)::(16,l5L acc)::l5T bs W Z i,l5O acc⟩
section
variable {G:Nat→Option (List AV)}
set_option maxHeartbeats 4000000 in
theorem ZmK (r:List Iss) (l:List Nte) (q:List Rul) (s:List Int) (m d e:Int) (hw:WfN l) (hr:Wf r) (hq:Sml q) (hs:Sml s) :
  PC Tryz.prog G 32 [swa r l q,.vsl (s.map ia),.int .i64 m,.int .i64 d,.int .i64 e] (loE r l q s m d e):=by
 have ha:=ZiM (G:=G) r l q s m d e hw hr hq hs;unfold loE;by_cases h0:aqN r l q s m d e=0
 case neg =>
  rw[if_neg h0];unfold swa at *
  (refine Z64 rfl fun R hG hrd=>Yc Yb 1000 ?_;subst hG)
  simp -implicitDefEqProofs[Z62,Z63]
  (first|refine Ye.of (ha) (by simp) ?_|refine Yf.of (ha) (by simp) ?_)
  simp -implicitDefEqProofs[h0]
 have hz:=ZiQ h0;have hne:=ch_ne hz.1;have hR:=ZjW (G:=G) r hr.1.1;rw[Zlf hne]at hR;have hW:=ZlN (G:=G) r l q s m d hw hr hs hz.1 hne;have hZ:=ZlN (G:=G) r l q s m e hw hr hs hz.1 hne;have hch:=Zlj hz.1;have hn:=Zlk r;have lB:(rfs r).length≤60:=(by omega);obtain ⟨W,XF,hWe,wl,xl,wa,xa⟩:=ZmI (edg (st5 r l q s m d)) (rfs r);obtain ⟨Z,YF,hZe,zl,yl,za,ya⟩:=ZmI (edg (st5 r l q s m e)) (rfs r);have wp:=ZmH (edg (st5 r l q s m d)) (rfs r);have zp:=ZmH (edg (st5 r l q s m e)) (rfs r);rw[← hWe]at hW wp;rw[← hZe]at hZ zp;clear hWe hZe;rw[h0]at ha;rw[if_pos h0,h0];generalize mayT (edg (st5 r l q s m d))=T at *;generalize mayT (edg (st5 r l q s m e))=U at *;unfold swa at *;generalize rfs r=bs at *
 (refine Z64 rfl fun R hG hrd=>Yc Yb 1000 ?_;subst hG)
 simp -implicitDefEqProofs[Z62,Z63]
 (first|refine Ye.of (ha) (by simp) ?_|refine Yf.of (ha) (by simp) ?_)
 simp -implicitDefEqProofs[];refine Yf.of hR (by simp[AV.pure,isa]) ?_;simp -implicitDefEqProofs[];refine Yf.of hW (by simp[AV.pure,isa,na,ra,ia]) ?_;simp -implicitDefEqProofs[];refine Yf.of hZ (by simp[AV.pure,isa,na,ra,ia]) ?_;simp -implicitDefEqProofs[];refine ⟨rfl,?_⟩;refine ZaV (fun i=>l5S bs W Z (losX T U bs i) i) (fun _=>True) bs.length ?_ trivial ?_ ?_
 · have e0:losX T U bs 0=[]:=rfl;have e1:l5L [] = .nils:=rfl;have e2:l5O []=[]:=rfl;simp only[l5S,l5T,e0,e1,e2]
   ((try simp only[ita]);refine Yn.sub (by simp[lk,Ya,AV.keys,ita]) ?_;simp only[ita,Wkl,and_true];(try simp[lk,Yd,Ya,AV.keys,ita]))
 · intro i hi _;have wi:IntKind.i64.wrap ((i:Int)+1)=(i:Int)+1:=Yg (by omega) (by omega);obtain ⟨a,hae⟩ : ∃ a,a=bs[i]:=⟨_,rfl⟩;have sn:=Zmr (T:=T) (U:=U) hi;rw[← hae]at sn;have al:=Zmu (T:=T) (U:=U) (bs:=bs) i (by omega);have al2:i*bs.length≤60*60:=Nat.mul_le_mul (by omega) lB;generalize losX T U bs i=A at *;have wai:=wa i hi;have xli:=xl i;have zai:=za i hi;have yli:=yl i
   have init:∀ st',Yn st' (l5I bs W Z A i 0)→Yn st' (l5I bs W Z (A++losR T U bs a 0) i 0):=fun st' h=>by
    have e:losR T U bs a 0=[]:=rfl;rw[e,List.append_nil];exact h
   refine Yc Yb 1000 ?_;by_cases c0:A=[]
   case' pos =>
    have hL:l5L A = .nils:=(by simp[l5L,c0]);have hO:l5O A=[]:=by simp[l5O,c0]
   case' neg =>
    have hL:l5L A = .osl 82 A.length:=(by simp[l5L,c0]);have hO:l5O A=[(82,.row 4 (prM A))]:=by simp[l5O,c0]
   all_goals
    simp -implicitDefEqProofs[l5S,l5T,hL,hO,hi];refine ZaV (fun k=>l5I bs W Z (A++losR T U bs a k) i k) (fun _=>True) bs.length ?_ trivial ?_ ?_
    · refine init _ ?_;simp only[l5I,l5T,hL,hO]
      ((try simp only[ita]);refine Yn.sub (by simp[lk,Ya,AV.keys,ita]) ?_;simp only[ita,Wkl,Zmy,and_true];(try simp[lk,Yd,Ya,AV.keys,ita]))
    · clear hL hO init;intro k hk _;have wk:IntKind.i64.wrap ((k:Int)+1)=(k:Int)+1:=Yg (by omega) (by omega);obtain ⟨b,hbe⟩ : ∃ b,b=bs[k]:=⟨_,rfl⟩;have sn2:=Zms (T:=T) (U:=U) (a:=a) hk;rw[← hbe]at sn2;have x1:=xa i k hi hk;have y1:=ya i k hi hk;rw[← hae,← hbe]at x1 y1
      have sn3:A++losR T U bs a (k+1)=if (T a b && !U a b)=true then (A++losR T U bs a k)++[(a,b)] else A++losR T U bs a k:=by
       rw[sn2];split <;> simp
      have ol:(A++losR T U bs a k).length≤60*60+60:=by
       have:=Zmt (T:=T) (U:=U) (bs:=bs) (a:=a) (k:=k);rw[List.length_append];omega
      generalize A++losR T U bs a k=acc at *;have em:=Zmv acc (a,b);have lo:=Zmw acc;have bb:(acc.length+1)*32≤70368744177664:=(by omega);refine Yc Yb 1000 ?_
      cases t1:T a b
      case' true=>cases t2:U a b
      case' true.false =>
       rw[t1]at x1 sn3;rw[t2]at y1 sn3;simp only[Bool.not_false,Bool.and_self,if_true]at sn3;have hL1:l5L (acc++[(a,b)]) = .osl 82 (acc.length+1):=(by simp[l5L]);have hO1:l5O (acc++[(a,b)])=[(82,.row 4 (prM (acc++[(a,b)])))]:=(by simp[l5O]);by_cases cx:acc=[]
       · have hL:l5L acc = .nils:=(by simp[l5L,cx]);have hO:l5O acc=[]:=(by simp[l5O,cx]);have e0:prM []=[]:=rfl;rw[cx]at em sn3 hL1 hO1;simp only[List.nil_append,e0,List.length_nil,Nat.zero_add]at em sn3 hL1 hO1;simp -implicitDefEqProofs[l5I,l5T,hL,hO,hi,hk,ita,← hae,← hbe,wl,zl,wai,zai,xli,yli,x1,y1,wk,sn3,hL1,hO1];refine ⟨rfl,?_⟩;rw[← em]
         ((try simp only[ita]);refine Yn.sub (by simp[lk,Ya,AV.keys,ita]) ?_;simp only[ita,Wkl,Zmy,and_true];(try simp[lk,Yd,Ya,AV.keys,ita]))
       · have hL:l5L acc = .osl 82 acc.length:=(by simp[l5L,cx]);have hO:l5O acc=[(82,.row 4 (prM acc))]:=(by simp[l5O,cx]);simp -implicitDefEqProofs[l5I,l5T,hL,hO,hi,hk,ita,← hae,← hbe,wl,zl,wai,zai,xli,yli,x1,y1,wk,sn3,hL1,hO1,lo,bb];refine ⟨rfl,?_⟩;rw[← em]
         ((try simp only[ita]);refine Yn.sub (by simp[lk,Ya,AV.keys,ita]) ?_;simp only[ita,Wkl,Zmy,and_true];(try simp[lk,Yd,Ya,AV.keys,ita]))
      case' true.true =>
       rw[t2]at y1 sn3
      all_goals
       rw[t1]at x1 sn3;simp only[Bool.not_true,Bool.and_false,Bool.false_and,Bool.false_eq_true,if_false]at sn3;by_cases cx:acc=[]
       case' pos =>
        have hL:l5L acc = .nils:=(by simp[l5L,cx]);have hO:l5O acc=[]:=by simp[l5O,cx]
       case' neg =>
        have hL:l5L acc = .osl 82 acc.length:=(by simp[l5L,cx]);have hO:l5O acc=[(82,.row 4 (prM acc))]:=by simp[l5O,cx]
       all_goals
        simp -implicitDefEqProofs[l5I,l5T,hL,hO,hi,hk,wl,zl,wai,zai,xli,yli,x1,y1,wk,sn3]
        ((try simp only[ita]);refine Yn.sub (by simp[lk,Ya,AV.keys,ita]) ?_;simp only[ita,Wkl,Zmy,and_true];(try simp[lk,Yd,Ya,AV.keys,ita]))
    · intro _;rw[← sn];clear hL hO init sn;obtain ⟨acc,hacc⟩ : ∃ acc,acc=losX T U bs (i+1):=⟨_,rfl⟩;rw[← hacc];refine Yc Yb 1000 ?_;by_cases cx:acc=[]
      case' pos =>
       have hL:l5L acc = .nils:=(by simp[l5L,cx]);have hO:l5O acc=[]:=by simp[l5O,cx]
      case' neg =>
       have hL:l5L acc = .osl 82 acc.length:=(by simp[l5L,cx]);have hO:l5O acc=[(82,.row 4 (prM acc))]:=by simp[l5O,cx]
      all_goals
       simp -implicitDefEqProofs[l5I,l5T,hL,hO,wi];refine Z2N Yb 1000 ?_;simp -implicitDefEqProofs[l5S,l5T,← hacc,hL,hO,wi]
       ((try simp only[ita]);refine Yn.sub (by simp[lk,Ya,AV.keys,ita]) ?_;simp only[ita,Wkl,Zmy,and_true];(try simp[lk,Yd,Ya,AV.keys,ita]))
 · intro _;generalize losX T U bs bs.length=acc at *;have k5:=Zmx acc;have k6:=Zmw acc;refine Yc Yb 1000 ?_;by_cases cx:acc=[]
   · have hL:l5L acc = .nils:=(by simp[l5L,cx]);have hO:l5O acc=[]:=(by simp[l5O,cx]);simp -implicitDefEqProofs[l5S,l5T,hL,hO];refine Z2N Yb 1000 ?_;have e0:prM []=[]:=rfl;simp -implicitDefEqProofs[cx,Yh,e0]
   · have hL:l5L acc = .osl 82 acc.length:=(by simp[l5L,cx]);have hO:l5O acc=[(82,.row 4 (prM acc))]:=(by simp[l5O,cx]);have e0:¬prM acc=[]:=fun h=>cx (by simpa [prM] using h)
     simp -implicitDefEqProofs[l5S,l5T,hL,hO];refine Z2N Yb 1000 ?_;simp -implicitDefEqProofs[Yh,k5,k6,e0]
end
theorem PC.out {P:Program} {G:Nat→Option (List AV)} {f:FuncId} {xs:List AV} {v w:AV} (h:PC P G f xs v) (hs:Nsub v w):PC P G f xs w :=
 ⟨h.1,fun M W vs a b c d=>(h.2 M W vs a b c d).mono fun _ _ ⟨u,h1,h2,h3⟩=>⟨u,h1,hs _ _ _ h2,h3⟩⟩
def iaM (l:List Int):List (List AV):=l.map ia
theorem ZmL (l:List Int) (x:Int):iaM (l++[x])=iaM l++[[.int .i64 x]]:=by simp[iaM,ia]
theorem ZmM (l:List Int):(iaM l).length=l.length:=List.length_map _
theorem ZmN (o:List (Nat×AObj)) (l:List Int):Yd o (.row 1 (iaM l))=true:=Zh4 o l
theorem ZmO (l:List Int):(iaM l).all (fun r=>r.all AV.pure)=true:=by simp[iaM,ia,AV.pure]
section
variable {G:Nat→Option (List AV)}
end
def zN1:Nte:=⟨0,0,0,0,1,0,0,0,false,0⟩
def byV (s:List Int) (m:Int) (l:List Nte) (d:Int):Nat→Nte
 |0=>zN1
 |i+1=>if (nAt l i).dr=d∧fB s [] m l i=true then nAt l i else byV s m l d i
def byK (s:List Int) (m:Int) (l:List Nte) (d:Int):Nat→List (Int×Bool)→List (Int×Bool)
 |0,K=>K
 |i+1,K=>if (nAt l i).dr=d then if fB s [] m l i=true then ifK s [] m l l.length i K else byK s m l d i (ifK s [] m l l.length i K) else byK s m l d i K
theorem ZmP {s:List Int} {m:Int} {l:List Nte} {d:Int}:∀ i {K:List (Int×Bool)},OkK s [] m l K→OkK s [] m l (byK s m l d i K)
 |0,_,h=>h
 | i + 1,K,h=>by
   rw[byK]
   split
   · split
     · exact Zhx _ _ h
     · exact ZmP i (Zhx _ _ h)
   · exact ZmP i h
def ltL (s:List Int) (m:Int) (l:List Nte) (ds:List Int):List Int:=ds.map fun d=>(byV s m l d l.length).lt
def ltK (s:List Int) (m:Int) (l:List Nte) (ds:List Int) (i:Nat):List (Int×Bool):=(ds.take i).foldl (fun K d=>byK s m l d l.length K) []
theorem ZmQ {s:List Int} {m:Int} {l:List Nte} {ds:List Int} {i:Nat} (h:i<ds.length):ltK s m l ds (i+1)=byK s m l ds[i] l.length (ltK s m l ds i):=by
 unfold ltK;rw[List.take_succ_eq_append_getElem h,List.foldl_append];rfl
theorem ZmR {s:List Int} {m:Int} {l:List Nte} {ds:List Int}:∀ i,i≤ds.length→OkK s [] m l (ltK s m l ds i)
 |0,_=>fun _ _ h=>by cases h
 |i+1,h=>by rw[ZmQ h];exact ZmP _ (ZmR i (by omega))
def z10:List AV:=[.int .i64 0,.int .i64 0,.int .u8 0,.int .i64 0,.int .i64 0,.int .i64 0,.int .i64 0,.int .i64 0,.bool false,.int .u8 0]
def byS (F sV:AV) (m d:Int) (x:Nat×List (Int×Bool)):St :=
 ⟨[(7,.int .i64 ((x.1:Int)-1)),(6,.ptr 6 0),(0,F),(1,.func (.func 147) [] fcC),(2,.int .i64 d)],(6,.box z10)::fcO F sV .nils m x.2⟩
section
variable {G:Nat→Option (List AV)}
set_option maxHeartbeats 2000000 in
theorem by_pb (r:List Iss) (l:List Nte) (s:List Int) (m d:Int) (K:List (Int×Bool)) (hl:l.length≤12) (hs:Sml s) (hK:OkK s [] m l K) :
  PB Tryz.prog G 137 (fcO (fileA r l) (.vsl (s.map ia)) .nils m K) [fileA r l,.func (.func 147) [] fcC,.int .i64 d] (.agg (na (byV s m l d l.length))) (fcO (fileA r l) (.vsl (s.map ia)) .nils m (byK s m l d l.length K)):=by
 have hI:=fun i K hi hK=>is_pb (G:=G) r l false true s [] m hl hs (by simp[Sml]) l.length i K hi (by omega) hK
 have e1:liA false s = .vsl (s.map ia):=(by simp[liA]);have e2:liA true [] = .nils:=(by simp[liA]);rw[e1,e2]at hI;have hF:fileA r l = .vptr [.vsl (r.map isa),.vsl (l.map na),.vsl ((nums r).map ia),opA l] 0:=rfl;have fF:∀ ok st,frz ok st 6 (fileA r l)=some (fileA r l):=fun ok st=>by rw[hF];simp[frz,AV.keys]
 have kF:(fileA r l).keys=[]:=(by rw[hF];simp[AV.keys]);have rF:=fun ρ=>AV.ren_pure (ρ:=ρ) (fileA r l) (ZhN r l)
 simp only[hF]at hI fF kF rF ⊢;refine Z5J (Nat.le_of_ble_eq_true rfl) fun R hG hrd=>?_
 subst hG;refine Yc Yb 1000 ?_;have w0:IntKind.i64.wrap ((l.length:Int)-1)=(l.length:Int)-1:=Yg (by omega) (by omega);simp -implicitDefEqProofs[Z5H,Z5I,fcO,fcC,w0];refine Z1Q (byS (.vptr [.vsl (r.map isa),.vsl (l.map na),.vsl ((nums r).map ia),opA l] 0) (.vsl (s.map ia)) m d) (fun x=>x.1≤l.length∧OkK s [] m l x.2∧byV s m l d x.1=byV s m l d l.length∧byK s m l d x.1 x.2=byK s m l d l.length K) (fun x=>x.1) (l.length,K) ?_ ⟨Nat.le_refl _,hK,rfl,rfl⟩ ?_
 · simp only[byS,z10,fcO,fcC]
   ((try simp only[ia]);refine Yn.sub (by simp[lk,Ya,AV.keys,ia]) ?_;simp only[ia,Wkl,ZhB,and_true];(try simp[lk,Yd,Ya,AV.keys,ia]))
 rintro ⟨i,K'⟩ ⟨h1,h2,h3,h4⟩;simp only at h1 h2 h3 h4
 cases i with
 | zero =>
   refine Yc Yb 1000 ?_;simp -implicitDefEqProofs[byS,z10,fcO,fcC];refine Z2N Yb 1000 ?_;rw[← h3,← h4];simp -implicitDefEqProofs[byV,byK,zN1,na];simp -implicitDefEqProofs[FinB,Yj,newK,ZhD,ZhI,frzA,frz,fF,tupV,Z29,Z5I]
 | succ i =>
   have hi:i<l.length:=h1;have hI:=hI i K' hi h2;have hx:=ZdJ hi;rw[byV]at h3;rw[byK]at h4;generalize hxx:nAt l i=x at *;have hlx:l[i]=x:=hx.symm;have hnx:na x=[.int .i64 x.nu,.int .i64 x.dy,.int .u8 x.sg,.int .i64 x.dr,.int .i64 x.lt,.int .i64 x.fr,.int .i64 x.tu,.int .i64 x.ca,.bool x.up,.int .u8 x.wy]:=rfl;have w1:IntKind.i64.wrap ((i:Int)-1)=(i:Int)-1:=Yg (by omega) (by omega);have w2:((i:Int)+1-1)=(i:Int):=(by omega);refine Yc Yb 1000 ?_;by_cases c:x.dr=d
   · simp only[fcO]at hI;simp -implicitDefEqProofs[byS,z10,fcO,fcC,hi,hlx,hnx,c,w2];refine Ye.sem (Z1B.byref hI id (by simp) (by simp) (by simp[St.get,lk,AV.ren,AObj.ren,ZhC,ia,rF]) (by simp only[List.mem_cons,List.not_mem_nil,or_false,forall_eq_or_imp,forall_eq,ZhB,and_true];simp[lk,Yd,Ya,AV.keys]) (by simp[Ya,AV.keys,lk,fcC]) rfl (by simp[AV.ren,fcC]) rfl rfl) ?_;simp -implicitDefEqProofs[Ym,AV.ren,AObj.ren,ZhC,ia,rF]
     cases hb:fB s [] m l i
     · rw[if_pos c,hb,if_neg (by simp)]at h4;rw[if_neg (fun h=>by rw[hb]at h;cases h.2)]at h3;simp -implicitDefEqProofs[w1];refine ⟨(i,ifK s [] m l l.length i K'),?_,⟨by omega,Zhx _ _ h2,h3,h4⟩,Nat.lt_succ_self _⟩;simp only[byS,z10,fcO,fcC]
       (refine Yn.sub (by simp[lk,Ya,AV.keys]) ?_;simp only[Wkl,ZhB,and_true];(try simp[lk,Yd,Ya,AV.keys]))
     · rw[if_pos c,hb,if_pos rfl]at h4;rw[if_pos ⟨c,hb⟩]at h3;rw[← h3,← h4];have hnd:na x=[.int .i64 x.nu,.int .i64 x.dy,.int .u8 x.sg,.int .i64 d,.int .i64 x.lt,.int .i64 x.fr,.int .i64 x.tu,.int .i64 x.ca,.bool x.up,.int .u8 x.wy]:=(by rw[← c];rfl);simp -implicitDefEqProofs[hnd];refine Z2N Yb 1000 ?_;simp -implicitDefEqProofs[FinB,Yj,newK,ZhD,ZhI,frzA,frz,fF,tupV,Z29,Z5I]
   · rw[if_neg (fun h=>c h.1)]at h3;rw[if_neg c]at h4;simp -implicitDefEqProofs[byS,z10,fcO,fcC,hi,hlx,hnx,c,w1,w2];refine ⟨(i,K'),?_,⟨by omega,h2,h3,h4⟩,Nat.lt_succ_self _⟩;simp only[byS,z10,fcO,fcC]
     ((try simp only[ia]);refine Yn.sub (by simp[lk,Ya,AV.keys,ia]) ?_;simp only[ia,Wkl,ZhB,and_true];(try simp[lk,Yd,Ya,AV.keys,ia]))
def ltS (r:List Iss) (l:List Nte) (s:List Int) (m:Int) (ds:List Int) (i:Nat):St :=
 if i=0 then ⟨[(20,.int .i64 i),(19,.int .i64 ds.length),(18,.vsl (ds.map ia)),(8,.nils),(7,.func (.func 147) [] [.ptr 209 0,.ptr 204 0,.ptr 205 0,.ptr 206 0,.ptr 207 0,.ptr 210 0]),(0,fileA r l)],fcQ (fileA r l) (.vsl (s.map ia)) .nils m (ltK s m l ds i)⟩
 else ⟨[(20,.int .i64 i),(19,.int .i64 ds.length),(18,.vsl (ds.map ia)),(8,.osl 31 i),(7,.func (.func 147) [] [.ptr 209 0,.ptr 204 0,.ptr 205 0,.ptr 206 0,.ptr 207 0,.ptr 210 0]),(0,fileA r l)],(31,.row 1 (iaM (ltL s m l (ds.take i))))::fcQ (fileA r l) (.vsl (s.map ia)) .nils m (ltK s m l ds i)⟩
set_option maxHeartbeats 2000000 in
theorem ZmS (r:List Iss) (l:List Nte) (s:List Int) (m:Int) (hl:l.length≤12) (hs:Sml s) (h20:(nums r).length≤20) :
  PC Tryz.prog G 102 [fileA r l,.vsl (s.map ia),.int .i64 m] (Yh ((ltL s m l (nums r)).map ia)):=by
 have hf:=ZhS (G:=G) r l false true s [] m;have e1:liA false s = .vsl (s.map ia):=(by simp[liA]);have e2:liA true [] = .nils:=(by simp[liA]);rw[e1,e2]at hf;have hB:=fun d K hK=>by_pb (G:=G) r l s m d K hl hs hK
 have hp:=ZhN r l;have kF:(fileA r l).keys=[]:=AV.pure_keys _ hp;have rF:=fun ρ=>AV.ren_pure (ρ:=ρ) (fileA r l) hp
 have hF:fileA r l = .vptr [.vsl (r.map isa),.vsl (l.map na),.vsl ((nums r).map ia),opA l] 0:=rfl;have e5:=fun K=>ZhC (fun k=>k-800) K
 generalize hds:nums r=ds at *
 (refine Z5G rfl fun R hG hrd=>Yc Yb 1000 ?_;subst hG)
 simp only[hF,fcO]at hf hB kF rF hp ⊢;simp -implicitDefEqProofs[Z5E,Z5F];refine Ye.sem (Z1B.objs hf (fun k=>k+200) (by simp[ffO]) (by simp[ffO,St.get,lk]) (by simp[hp,AV.pure]) rfl rfl) ?_;simp -implicitDefEqProofs[Ym,ffO,ffC,AV.ren,AObj.ren,rF];refine ZaV (ltS r l s m ds) (fun _=>True) ds.length ?_ trivial ?_ ?_
 · have e3:ltK s m l ds 0=[]:=rfl;have e4:mpA AV.bool []=[]:=rfl;simp only[ltS,fcQ,e3,e4,hF,if_true]
   ((try simp only[kF]);refine Yn.sub (by simp[lk,Ya,AV.keys,kF]) ?_;simp only[kF,Wkl,and_true];(try simp[lk,Yd,Ya,AV.keys,kF]))
 · intro i hi _;obtain ⟨d,hd⟩ : ∃ d,d=ds[i]:=⟨_,rfl⟩;have hB:=hB d (ltK s m l ds i) (ZmR i (by omega));have ks:=ZmQ (s:=s) (m:=m) (l:=l) hi;rw[← hd]at ks;rw[← ks]at hB;have wi:IntKind.i64.wrap ((i:Int)+1)=(i:Int)+1:=Yg (by omega) (by omega);have bb:(i+1)*8≤70368744177664:=by omega
   have ls:ltL s m l (ds.take (i+1))=ltL s m l (ds.take i)++[(byV s m l d l.length).lt]:=by
    unfold ltL;rw[List.take_succ_eq_append_getElem hi,List.map_append,hd];rfl
   have ll:(ltL s m l (ds.take i)).length=i:=(by unfold ltL;rw[List.length_map,List.length_take];omega);generalize byV s m l d l.length=x at *;have hnx:na x=[.int .i64 x.nu,.int .i64 x.dy,.int .u8 x.sg,.int .i64 x.dr,.int .i64 x.lt,.int .i64 x.fr,.int .i64 x.tu,.int .i64 x.ca,.bool x.up,.int .u8 x.wy]:=rfl;have em:=ZmL (ltL s m l (ds.take i)) x.lt;rw[← ls]at em;have lm:=ZmM (ltL s m l (ds.take i));rw[ll]at lm;rw[hnx]at hB;refine Yc Yb 1000 ?_;by_cases i0:i=0
   case' pos =>
    have hS:ltS r l s m ds i=⟨[(20,.int .i64 i),(19,.int .i64 ds.length),(18,.vsl (ds.map ia)),(8,.nils),(7,.func (.func 147) [] [.ptr 209 0,.ptr 204 0,.ptr 205 0,.ptr 206 0,.ptr 207 0,.ptr 210 0]),(0,fileA r l)],fcQ (fileA r l) (.vsl (s.map ia)) .nils m (ltK s m l ds i)⟩:=(by unfold ltS;rw[if_pos i0]);have eL0:ltL s m l (ds.take i)=[]:=(by rw[i0];rfl);have e0:iaM []=[]:=rfl;rw[eL0,e0,List.nil_append]at em
   case' neg =>
    have hS:ltS r l s m ds i=⟨[(20,.int .i64 i),(19,.int .i64 ds.length),(18,.vsl (ds.map ia)),(8,.osl 31 i),(7,.func (.func 147) [] [.ptr 209 0,.ptr 204 0,.ptr 205 0,.ptr 206 0,.ptr 207 0,.ptr 210 0]),(0,fileA r l)],(31,.row 1 (iaM (ltL s m l (ds.take i))))::fcQ (fileA r l) (.vsl (s.map ia)) .nils m (ltK s m l ds i)⟩:=by unfold ltS;rw[if_neg i0]
   all_goals
    simp -implicitDefEqProofs[hS,fcQ,hF,hi,ia,← hd];refine Ye.sem (Z1B.byref hB (fun k=>k-800) (by simp) (by simp) (by simp[St.get,lk,AV.ren,AObj.ren,ZhC,rF,ia,fcC]) (by simp only[List.mem_cons,List.not_mem_nil,or_false,forall_eq_or_imp,forall_eq,ZhB,and_true];simp[lk,Yd,Ya,AV.keys,fcC]) (by simp[Ya,AV.keys,lk,fcC]) rfl (by simp[AV.ren,fcC]) rfl rfl) ?_;simp -implicitDefEqProofs[Ym,AV.ren,AObj.ren,ZhC,rF,wi,bb,lm,ia,fcC];have hS1:ltS r l s m ds (i+1)=⟨[(20,.int .i64 ((i+1:Nat):Int)),(19,.int .i64 ds.length),(18,.vsl (ds.map ia)),(8,.osl 31 (i+1)),(7,.func (.func 147) [] [.ptr 209 0,.ptr 204 0,.ptr 205 0,.ptr 206 0,.ptr 207 0,.ptr 210 0]),(0,fileA r l)],(31,.row 1 (iaM (ltL s m l (ds.take (i+1)))))::fcQ (fileA r l) (.vsl (s.map ia)) .nils m (ltK s m l ds (i+1))⟩:=(by unfold ltS;rw[if_neg (by omega)]);rw[hS1,← em];simp only[fcQ,hF]
    ((try simp only[kF,i0]);refine Yn.sub (by simp[lk,Ya,AV.keys,kF,i0]) ?_;simp only[kF,i0,Wkl,ZhB,ZmN,and_true];(try simp[lk,Yd,Ya,AV.keys,kF,i0]))
 · intro _;have hall:ds.take ds.length=ds:=List.take_length;have lm:=ZmM (ltL s m l ds);have ll:(ltL s m l ds).length=ds.length:=(by simp[ltL]);have eM:(ltL s m l ds).map ia=iaM (ltL s m l ds):=rfl;have k5:=ZmO (ltL s m l ds);rw[ll]at lm;rw[eM];refine Yc Yb 1000 ?_;by_cases i0:ds.length=0
   · have hS:ltS r l s m ds ds.length=⟨[(20,.int .i64 ds.length),(19,.int .i64 ds.length),(18,.vsl (ds.map ia)),(8,.nils),(7,.func (.func 147) [] [.ptr 209 0,.ptr 204 0,.ptr 205 0,.ptr 206 0,.ptr 207 0,.ptr 210 0]),(0,fileA r l)],fcQ (fileA r l) (.vsl (s.map ia)) .nils m (ltK s m l ds ds.length)⟩:=(by unfold ltS;rw[if_pos i0]);have e0:iaM (ltL s m l ds)=[]:=(by rw[List.length_eq_zero_iff.1 i0];rfl);simp -implicitDefEqProofs[hS,fcQ,hF];refine Z2N Yb 1000 ?_;simp -implicitDefEqProofs[Yh,e0]
   · have hS:ltS r l s m ds ds.length=⟨[(20,.int .i64 ds.length),(19,.int .i64 ds.length),(18,.vsl (ds.map ia)),(8,.osl 31 ds.length),(7,.func (.func 147) [] [.ptr 209 0,.ptr 204 0,.ptr 205 0,.ptr 206 0,.ptr 207 0,.ptr 210 0]),(0,fileA r l)],(31,.row 1 (iaM (ltL s m l (ds.take ds.length))))::fcQ (fileA r l) (.vsl (s.map ia)) .nils m (ltK s m l ds ds.length)⟩:=(by unfold ltS;rw[if_neg i0]);rw[hall]at hS;have e0:¬iaM (ltL s m l ds)=[]:=fun h=>i0 (by rw[← lm,h];rfl)
     simp -implicitDefEqProofs[hS,fcQ,hF];refine Z2N Yb 1000 ?_;simp -implicitDefEqProofs[Yh,e0,k5,lm]
end
def lsI (f:Nat→Bool) (l:List Nte) (d:Int):Nat→Int
 |0=>-1
 |i+1=>if (f i&&decide ((nAt l i).dr=d))=true then (i:Int) else lsI f l d i
theorem ZmT {f:Nat→Bool} {l:List Nte} {d:Int}:∀ i,-1≤lsI f l d i∧lsI f l d i<i
 |0=>by simp[lsI]
 | i+1=>by
   have:=ZmT (f:=f) (l:=l) (d:=d) i;rw[lsI]
   split <;> omega
theorem ZmU (s:List Int) (m:Int) (l:List Nte) (d:Int):∀ i,(byV s m l d i).lt=if 0≤lsI (fB s [] m l) l d i then (nAt l (lsI (fB s [] m l) l d i).toNat).lt else 1
 |0=>by simp[byV,lsI,zN1]
 | i + 1=>by
   rw[byV,lsI];by_cases c:(fB s [] m l i&&decide ((nAt l i).dr=d))=true
   · rw[if_pos c];simp only[Bool.and_eq_true,decide_eq_true_eq]at c;rw[if_pos ⟨c.2,c.1⟩,if_pos (by omega)];simp
   · rw[if_neg c];simp only[Bool.and_eq_true,decide_eq_true_eq]at c;rw[if_neg (fun h=>c ⟨h.2,h.1⟩)];exact ZmU s m l d i
def ltA (r:List Iss) (l:List Nte) (s:List Int) (m:Int):AV:=.tup [if asN r l s m=0 then Yh ((ltL s m l (nums r)).map ia) else .nils,.int .i64 (asN r l s m)]
theorem ZmV {r:List Iss} {l:List Nte} {s:List Int} {m:Int} (h:asN r l s m=0):chN r l=0∧truB l s=true:=by
 unfold asN at h
 split at h
 · rename_i h1
   split at h
   · rename_i h2;exact ⟨h1,h2⟩
   · cases h
 · rename_i e;exact absurd h e
theorem ZmW {r:List Iss} {l:List Nte} (h:chN r l=0):openV r=0:=by
 unfold chN at h
 split at h
 · rename_i h1;exact h1
 · rename_i e;exact absurd h e
theorem ZmX {r:List Iss} (h:openV r=0):r≠[]∧(nums r).length≤20:=by
 have hL:Zbi r=true:=by
  unfold openV at h
  split at h
  · assumption
  · cases h
 simp only[Zbi,Bool.and_eq_true,decide_eq_true_eq]at hL;refine ⟨?_,hL.2⟩;rintro rfl;have:=hL.1.1.1.1;simp[inR]at this
theorem ZmY {l:List (List AV)} (h:(Yh l).pure=true) (ok:Nat→Bool) (st:St):Yi ok st 6 (Yh l)=some (Yh l):=by
 unfold Yh at *
 split at h
 · rename_i e;rw[if_pos e];simp[Yi,AV.pure]
 · rename_i e;rw[if_neg e];simp[Yi,h]
section
variable {G:Nat→Option (List AV)}
theorem ZmZ (hG:GC G) (hN:GN G) (r:List Iss) (l:List Nte) (s:List Int) (m:Int) (hw:WfN l) (hr:Wf r) (hs:Sml s):PC Tryz.prog G 69 [.agg [.vsl (r.map isa),.vsl (l.map na)],.vsl (s.map ia),.int .i64 m] (ltA r l s m):=by
 have ha:=ZhR hG hN r l s m hw hr hs;unfold askA at ha;unfold ltA;by_cases h0:asN r l s m=0
 · obtain ⟨h1,h2⟩:=ZmV h0;have hlt:=ZmS (G:=G) r l s m (Zib (Zi9 h1)) hs (ZmX (ZmW h1)).2;have hp:=ZhN r l;have pV:=Zfc (l:=(ltL s m l (nums r)).map ia) (by simp[ia,AV.pure]);have sV:=fun ok st=>ZmY pV ok st
   rw[if_pos h0,h0]at ha;rw[if_pos h0,h0];generalize Yh ((ltL s m l (nums r)).map ia)=V at *;generalize fileA r l=F at *
   (refine Z5D rfl fun R hG hrd=>Yc Yb 1000 ?_;subst hG)
   simp -implicitDefEqProofs[Z5B,Z5C]
   (first|refine Ye.of (ha) (by simp) ?_|refine Yf.of (ha) (by simp) ?_)
   simp -implicitDefEqProofs[];refine Ye.of hlt (by simp[hp,AV.pure]) ?_;simp -implicitDefEqProofs[sV]
 · rw[if_neg h0]at ha;rw[if_neg h0]
   (refine Z5D rfl fun R hG hrd=>Yc Yb 1000 ?_;subst hG)
   simp -implicitDefEqProofs[Z5B,Z5C]
   (first|refine Ye.of (ha) (by simp) ?_|refine Yf.of (ha) (by simp) ?_)
   simp -implicitDefEqProofs[h0]
theorem Zn0 (r:List Iss) (l:List Nte) (f:Nat→Bool) (d:Int) (hl:l.length≤12):PC Tryz.prog G 164 [.agg [.vsl (r.map isa),.vsl (l.map na)],.vsl ((rbK f l.length 0).map ba),.int .i64 d] (.int .i64 (lsI f l d l.length)):=by
 have hat:=fun i (hi:i<l.length)=>Zi4 (f:=f) (k:=0) (Nat.zero_le i) hi
 have hlen:=Zi3 (f:=f) (n:=l.length) (k:=0);generalize rbK f l.length 0=B at *
 (refine Z5V rfl fun R hG hrd=>Yc Yb 1000 ?_;subst hG)
 simp -implicitDefEqProofs[Z5T,Z5U];refine ZaV (fun i=>⟨[(8,.int .i64 i),(7,.int .i64 (lsI f l d i)),(3,.ptr 3 0),(1,.vsl (B.map ba)),(2,.int .i64 d)],[(3,.box [.vsl (r.map isa),.vsl (l.map na)])]⟩) (fun _=>True) l.length ?_ trivial ?_ ?_
 · ((try simp only[lsI]);refine Yn.sub (by simp[lk,Ya,AV.keys,lsI]) ?_;simp only[lsI,Wkl,and_true];(try simp[lk,Yd,Ya,AV.keys,lsI]))
 · intro i hi _;have wi:IntKind.i64.wrap ((i:Int)+1)=(i:Int)+1:=Yg (by omega) (by omega);obtain ⟨hb,eb⟩:=List.getElem?_eq_some_iff.1 (hat i hi);have hx:=ZdJ hi;have sn:lsI f l d (i+1)=if (f i&&decide ((nAt l i).dr=d))=true then (i:Int) else lsI f l d i:=rfl
   rw[hx]at sn;generalize hlx:l[i]=x at *;have hnx:na x=[.int .i64 x.nu,.int .i64 x.dy,.int .u8 x.sg,.int .i64 x.dr,.int .i64 x.lt,.int .i64 x.fr,.int .i64 x.tu,.int .i64 x.ca,.bool x.up,.int .u8 x.wy]:=rfl;refine Yc Yb 1000 ?_
   cases hf:f i
   · rw[hf]at eb sn;simp only[Bool.false_and,Bool.false_eq_true,if_false]at sn;simp -implicitDefEqProofs[hlen,hi,hb,eb,ba,wi,sn]
     (refine Yn.sub (by simp[lk,Ya,AV.keys]) ?_;simp only[Wkl,and_true];(try simp[lk,Yd,Ya,AV.keys]))
   · rw[hf]at eb sn;by_cases c:x.dr=d
     · simp only[c,decide_true,Bool.and_self,if_true]at sn;simp -implicitDefEqProofs[hlen,hi,hb,eb,ba,hlx,hnx,c,wi,sn]
       (refine Yn.sub (by simp[lk,Ya,AV.keys]) ?_;simp only[Wkl,and_true];(try simp[lk,Yd,Ya,AV.keys]))
     · simp only[c,decide_false,Bool.and_false,Bool.false_eq_true,if_false]at sn;simp -implicitDefEqProofs[hlen,hi,hb,eb,ba,hlx,hnx,c,wi,sn]
       (refine Yn.sub (by simp[lk,Ya,AV.keys]) ?_;simp only[Wkl,and_true];(try simp[lk,Yd,Ya,AV.keys]))
 · intro _;refine Yc Yb 1000 ?_;simp -implicitDefEqProofs[hlen];refine Z2N Yb 1000 ?_;simp -implicitDefEqProofs[]
theorem Zn1 (r:List Iss) (l:List Nte) (s:List Int) (m d:Int) (hl:l.length≤12):PC Tryz.prog G 144 [.agg [.vsl (r.map isa),.vsl (l.map na)],.vsl ((rbK (fB s [] m l) l.length 0).map ba),.int .i64 d] (.int .i64 (byV s m l d l.length).lt):=by
 have hb:=Zn0 (G:=G) r l (fB s [] m l) d hl;have hlt:=ZmT (f:=fB s [] m l) (l:=l) (d:=d) l.length;have hV:=ZmU s m l d l.length;generalize lsI (fB s [] m l) l d l.length=k at *;generalize (byV s m l d l.length).lt=V at *
 (refine Z5S rfl fun R hG hrd=>Yc Yb 1000 ?_;subst hG)
 simp -implicitDefEqProofs[Z5Q,Z5R]
 (first|refine Ye.of (hb) (by simp) ?_|refine Yf.of (hb) (by simp) ?_)
 by_cases c:0≤k
 · obtain ⟨n,rfl⟩:=Int.eq_ofNat_of_zero_le c;have hn:n<l.length:=(by omega);have hx:=ZdJ hn;rw[if_pos c]at hV;simp only[Int.ofNat_eq_natCast,Int.toNat_natCast]at hV;rw[hx]at hV;generalize hlx:l[n]=x at *;have hnx:na x=[.int .i64 x.nu,.int .i64 x.dy,.int .u8 x.sg,.int .i64 x.dr,.int .i64 x.lt,.int .i64 x.fr,.int .i64 x.tu,.int .i64 x.ca,.bool x.up,.int .u8 x.wy]:=rfl;simp -implicitDefEqProofs[c,hn,hlx,hnx,hV]
 · rw[if_neg c]at hV;simp -implicitDefEqProofs[c,hV]
def l3S (r:List Iss) (l:List Nte) (s:List Int) (m:Int) (B:List Bool) (ds:List Int) (i:Nat):St :=
 if i=0 then ⟨[(10,.int .i64 i),(9,.vsl (ds.map ia)),(8,.nils),(7,.vsl (B.map ba)),(3,.ptr 3 0)],[(3,.box [.vsl (r.map isa),.vsl (l.map na)])]⟩
 else ⟨[(10,.int .i64 i),(9,.vsl (ds.map ia)),(8,.osl 33 i),(7,.vsl (B.map ba)),(3,.ptr 3 0)],[(33,.row 1 (iaM (ltL s m l (ds.take i)))),(3,.box [.vsl (r.map isa),.vsl (l.map na)])]⟩
set_option maxHeartbeats 1000000 in
theorem Zn2 (r:List Iss) (l:List Nte) (s:List Int) (m:Int) (hl:l.length≤12) (hs:Sml s) (hne:r≠[]) (hr:Sml r) (h20:(nums r).length≤20) :
  PC Tryz.prog G 105 [.agg [.vsl (r.map isa),.vsl (l.map na)],.vsl (s.map ia),.int .i64 m] (Yh ((ltL s m l (nums r)).map ia)):=by
 have hf:=Zi8 (G:=G) r l false true s [] m hl hs (by simp[Sml]);have e1:liA false s = .vsl (s.map ia):=(by simp[liA]);have e2:liA true [] = .nils:=(by simp[liA]);rw[e1,e2]at hf;have hnm:=Zbg (G:=G) r hr hne;have hlt:=fun d=>Zn1 (G:=G) r l s m d hl
 unfold rega at hnm;generalize nums r=ds at *;have pB:(AV.vsl ((rbK (fB s [] m l) l.length 0).map ba)).pure=true:=(by simp[AV.pure,ba]);generalize rbK (fB s [] m l) l.length 0=B at *
 (refine Z5P rfl fun R hG hrd=>Yc Yb 1000 ?_;subst hG)
 simp -implicitDefEqProofs[Z5N,Z5O]
 (first|refine Ye.of (hf) (by simp) ?_|refine Yf.of (hf) (by simp) ?_)
 simp -implicitDefEqProofs[]
 (first|refine Ye.of (hnm) (by simp) ?_|refine Yf.of (hnm) (by simp) ?_)
 simp -implicitDefEqProofs[];refine ZaV (l3S r l s m B ds) (fun _=>True) ds.length ?_ trivial ?_ ?_
 · simp only[l3S,if_true]
   (refine Yn.sub (by simp[lk,Ya,AV.keys]) ?_;simp only[Wkl,and_true];(try simp[lk,Yd,Ya,AV.keys]))
 · intro i hi _;have wi:IntKind.i64.wrap ((i:Int)+1)=(i:Int)+1:=Yg (by omega) (by omega);have bb:(i+1)*8≤70368744177664:=(by omega);obtain ⟨d,hd⟩ : ∃ d,d=ds[i]:=⟨_,rfl⟩;have hltd:=hlt d
   have ls:ltL s m l (ds.take (i+1))=ltL s m l (ds.take i)++[(byV s m l d l.length).lt]:=by
    unfold ltL;rw[List.take_succ_eq_append_getElem hi,List.map_append,hd];rfl
   have ll:(ltL s m l (ds.take i)).length=i:=(by unfold ltL;rw[List.length_map,List.length_take];omega);generalize (byV s m l d l.length).lt=V at *;have em:=ZmL (ltL s m l (ds.take i)) V;rw[← ls]at em;have lm:=ZmM (ltL s m l (ds.take i));rw[ll]at lm;have hS1:l3S r l s m B ds (i+1)=⟨[(10,.int .i64 ((i+1:Nat):Int)),(9,.vsl (ds.map ia)),(8,.osl 33 (i+1)),(7,.vsl (B.map ba)),(3,.ptr 3 0)],[(33,.row 1 (iaM (ltL s m l (ds.take (i+1))))),(3,.box [.vsl (r.map isa),.vsl (l.map na)])]⟩:=(by unfold l3S;rw[if_neg (by omega)]);refine Yc Yb 1000 ?_;by_cases i0:i=0
   case' pos =>
    have hS:l3S r l s m B ds i=⟨[(10,.int .i64 i),(9,.vsl (ds.map ia)),(8,.nils),(7,.vsl (B.map ba)),(3,.ptr 3 0)],[(3,.box [.vsl (r.map isa),.vsl (l.map na)])]⟩:=(by unfold l3S;rw[if_pos i0]);have eL0:ltL s m l (ds.take i)=[]:=(by rw[i0];rfl);have e0:iaM []=[]:=rfl;rw[eL0,e0,List.nil_append]at em
   case' neg =>
    have hS:l3S r l s m B ds i=⟨[(10,.int .i64 i),(9,.vsl (ds.map ia)),(8,.osl 33 i),(7,.vsl (B.map ba)),(3,.ptr 3 0)],[(33,.row 1 (iaM (ltL s m l (ds.take i)))),(3,.box [.vsl (r.map isa),.vsl (l.map na)])]⟩:=by unfold l3S;rw[if_neg i0]
   all_goals
    simp -implicitDefEqProofs[hS,hi,ia,← hd];refine Yf.of hltd (by simp[AV.pure,isa,na,ba]) ?_;simp -implicitDefEqProofs[wi,bb,lm];refine ⟨rfl,?_⟩;rw[hS1,← em]
    ((try simp only[i0]);refine Yn.sub (by simp[lk,Ya,AV.keys,i0]) ?_;simp only[i0,Wkl,ZmN,and_true];(try simp[lk,Yd,Ya,AV.keys,i0]))
 · intro _;have hall:ds.take ds.length=ds:=List.take_length;have lm:=ZmM (ltL s m l ds);have ll:(ltL s m l ds).length=ds.length:=(by simp[ltL]);have eM:(ltL s m l ds).map ia=iaM (ltL s m l ds):=rfl;have k5:=ZmO (ltL s m l ds);rw[ll]at lm;rw[eM];refine Yc Yb 1000 ?_;by_cases i0:ds.length=0
   · have hS:l3S r l s m B ds ds.length=⟨[(10,.int .i64 ds.length),(9,.vsl (ds.map ia)),(8,.nils),(7,.vsl (B.map ba)),(3,.ptr 3 0)],[(3,.box [.vsl (r.map isa),.vsl (l.map na)])]⟩:=(by unfold l3S;rw[if_pos i0]);have e0:iaM (ltL s m l ds)=[]:=(by rw[List.length_eq_zero_iff.1 i0];rfl);simp -implicitDefEqProofs[hS];refine Z2N Yb 1000 ?_;simp -implicitDefEqProofs[Yh,e0]
   · have hS:l3S r l s m B ds ds.length=⟨[(10,.int .i64 ds.length),(9,.vsl (ds.map ia)),(8,.osl 33 ds.length),(7,.vsl (B.map ba)),(3,.ptr 3 0)],[(33,.row 1 (iaM (ltL s m l (ds.take ds.length)))),(3,.box [.vsl (r.map isa),.vsl (l.map na)])]⟩:=(by unfold l3S;rw[if_neg i0]);rw[hall]at hS;have e0:¬iaM (ltL s m l ds)=[]:=fun h=>i0 (by rw[← lm,h];rfl)
     simp -implicitDefEqProofs[hS];refine Z2N Yb 1000 ?_;simp -implicitDefEqProofs[Yh,e0,k5,lm]
theorem Zn3 (r:List Iss) (l:List Nte) (s:List Int) (m:Int) (hw:WfN l) (hr:Wf r) (hs:Sml s):PC Tryz.prog G 71 [.agg [.vsl (r.map isa),.vsl (l.map na)],.vsl (s.map ia),.int .i64 m] (ltA r l s m):=by
 have ha:=Zic (G:=G) r l s m hw hr hs;unfold ltA;by_cases h0:asN r l s m=0
 · obtain ⟨h1,h2⟩:=ZmV h0;have hn:=ZmX (ZmW h1);have hlt:=Zn2 (G:=G) r l s m (Zib (Zi9 h1)) hs hn.1 hr.1.1 hn.2;have pV:=Zfc (l:=(ltL s m l (nums r)).map ia) (by simp[ia,AV.pure]);have sV:=fun ok st=>ZmY pV ok st
   rw[h0]at ha;rw[if_pos h0,h0];generalize Yh ((ltL s m l (nums r)).map ia)=V at *
   (refine Z5M rfl fun R hG hrd=>Yc Yb 1000 ?_;subst hG)
   simp -implicitDefEqProofs[Z5K,Z5L]
   (first|refine Ye.of (ha) (by simp) ?_|refine Yf.of (ha) (by simp) ?_)
   simp -implicitDefEqProofs[]
   (first|refine Ye.of (hlt) (by simp) ?_|refine Yf.of (hlt) (by simp) ?_)
   simp -implicitDefEqProofs[sV]
 · rw[if_neg h0]
   (refine Z5M rfl fun R hG hrd=>Yc Yb 1000 ?_;subst hG)
   simp -implicitDefEqProofs[Z5K,Z5L]
   (first|refine Ye.of (ha) (by simp) ?_|refine Yf.of (ha) (by simp) ?_)
   simp -implicitDefEqProofs[h0]
end
theorem Zn4 {r:List Iss} {d:Int}:∀ i,i≤r.length→d∈numsN r i→∃ l,(d,l)∈rfs r
 |0,_,h=>by cases h
 | i + 1,hi,h=>by
   rw[numsN]at h
   split at h
   · rcases List.mem_append.1 h with h|h
     · exact Zn4 i (by omega) h
     · rw[List.mem_singleton]at h;have e:=at_eq (r:=r) (i:=i) hi;rw[e]at h;exact ⟨r[i].l,List.mem_map.2 ⟨r[i],List.getElem_mem _,by rw[h]⟩⟩
   · exact Zn4 i (by omega) h
theorem Zn5 {r : List Iss} (h:Zbi r=true) {d:Int}:∀ (n:Nat) (l:Int),l=(n:Int)+1→(d,l)∈rfs r→(d,1)∈rfs r
 | 0, l, e, hm => by have:l=1:=by omega
                     rwa [this]at hm
 |n+1,l,e,hm=>Zn5 h n (l-1) (by omega) (Zkb h hm (by omega))
theorem Zn6 {r:List Iss} (h:Zbi r=true) {d:Int} (hd:d∈nums r):(d,1)∈rfs r∧1≤d:=by
 obtain ⟨l,hl⟩:=Zn4 r.length (Nat.le_refl _) hd;have h1:=Zkc h hl;refine ⟨Zn5 h (l-1).toNat l (by omega) hl,?_⟩;obtain ⟨x,hx,e⟩:=List.mem_map.1 hl;rw[Prod.mk.injEq]at e;obtain ⟨rfl,rfl⟩:=e;simp only[Zbi,Bool.and_eq_true]at h;have h1:=List.all_eq_true.1 h.1.1.1.2 x hx;simp only[issB,headB,Bool.and_eq_true]at h1;have h2:=h1.1.1.1.1.1;simp only[inR,decide_eq_true_eq]at h2;exact h2.1
theorem Zn7 {r:List Iss} {l:List Nte} (h:Zbi r=true) (hB:ZdM r l=true) {s:List Int} {m d:Int} (hd:d∈nums r):∀ i,i≤l.length→(d,(byV s m l d i).lt)∈rfs r
 |0,_=>(Zn6 h hd).1
 | i + 1,hi=>by
   rw[byV]
   split
   · rename_i hc;obtain ⟨rfl,-⟩:=hc;simp only[ZdM,Bool.and_eq_true]at hB;have h1:=Zbf.1 hB.1.2 i hi;simp only[noteB,Bool.and_eq_true]at h1;have h2:=h1.1.1.1.1.2;have h3:=(Zn6 h hd).2;simp only[cN4]at h2;rw[if_neg (by omega)]at h2;exact Zka.1 h2
   · exact Zn7 h hB hd i (by omega)
def plX (r:List Iss) (L:List Stq) (ds ls:List Int):List (Rf×List Rf):=(ds.zip ls).map fun x=>(x,rcL r L false x)
def plR (w:Bool) (p:Rf×List Rf):List AV:=[.int .i64 p.1.1,.int .i64 p.1.2,if w=true then Yh (acM p.2) else .vsl (acM p.2)]
def plM (w:Bool) (l:List (Rf×List Rf)):List (List AV):=l.map (plR w)
theorem Zn8 (w:Bool) (l:List (Rf×List Rf)) (p:Rf×List Rf):plM w (l++[p])=plM w l++[plR w p]:=by simp[plM]
theorem Zn9 (w:Bool) (l:List (Rf×List Rf)):(plM w l).length=l.length:=List.length_map _
theorem Zna (l:List Rf):(Yh (acM l)).pure=true∧(Yh (acM l)).keys=[]:=⟨Zfc (Zlp l),Zfd _⟩
theorem Znb (w:Bool) (l:List (Rf×List Rf)):(plM w l).all (fun r=>r.all AV.pure)=true:=by
 simp only[plM,List.all_eq_true,List.mem_map];rintro _ ⟨p,-,rfl⟩ x hx;simp only[plR,List.mem_cons,List.not_mem_nil,or_false]at hx;rcases hx with rfl|rfl|rfl
 · simp[AV.pure]
 · simp[AV.pure]
 · split
   · exact (Zna p.2).1
   · exact Zmh p.2
theorem Znc (w:Bool) (o:List (Nat×AObj)) (l:List (Rf×List Rf)):Yd o (.row 3 (plM w l))=true:=by
 simp only[Yd,List.all_eq_true];intro r hr x hx;have:=List.all_eq_true.1 (List.all_eq_true.1 (Znb w l) r hr) x hx;simp[Ya,AV.pure_keys x this]
theorem Znd {r:List Iss} {L:List Stq} {ds ls:List Int} (h:ls.length=ds.length):(plX r L ds ls).length=ds.length:=by simp[plX,h]
theorem Zne {r:List Iss} {L:List Stq} {ds ls:List Int} {i:Nat} (h:ls.length=ds.length) (hi:i<ds.length):(plX r L ds ls).take (i+1)=(plX r L ds ls).take i++[((ds[i],ls[i]),rcL r L false (ds[i],ls[i]))]:=by
 have h1:i<(plX r L ds ls).length:=(by rw[Znd h];exact hi);rw[List.take_succ_eq_append_getElem h1];simp[plX]
def plE (w:Bool) (r:List Iss) (l:List Nte) (q:List Rul) (s:List Int) (m day:Int):AV :=
 .tup [if aqN r l q s m day day=0 then Yh (plM w (plX r (st5 r l q s m day) (nums r) (ltL s m l (nums r)))) else .nils,.int .i64 (aqN r l q s m day day)]
theorem aq_as {r:List Iss} {l:List Nte} {q:List Rul} {s:List Int} {m d e:Int} (h:aqN r l q s m d e=0):asN r l s m=0:=by
 obtain ⟨h1,h2,h3,-⟩:=ZiQ h;unfold asN;rw[if_pos (Zit h1).1,if_pos h2,if_pos h3]
def plT (ds ls:List Int) (i:Nat):List (Nat×AV):=[(49,.int .i64 i),(48,.int .i64 ds.length),(47,.vsl (ds.map ia)),(12,Yh (ls.map ia)),(10,.ptr 10 0)]
def plS (M:List AV) (ds ls:List Int) (X:List (Rf×List Rf)) (i:Nat):St :=
 if i=0 then ⟨(16,.nils)::plT ds ls i,[(10,.box M)]⟩ else ⟨(16,.osl 67 i)::plT ds ls i,[(67,.row 3 (plM false (X.take i))),(10,.box M)]⟩
section
variable {G:Nat→Option (List AV)}
set_option maxHeartbeats 2000000 in
theorem Znf (hG:GC G) (hN:GN G) (hQ:GQ G) (r:List Iss) (l:List Nte) (q:List Rul) (s:List Int) (m day:Int) (hw:WfN l) (hr:Wf r) (hq:Sml q) (hs:Sml s) :
  PC Tryz.prog G 33 [swa r l q,.vsl (s.map ia),.int .i64 m,.int .i64 day] (plE false r l q s m day):=by
 have ha:=Zjq hG hN r l q s m day day hw hr hq hs;unfold plE;unfold moA at ha;by_cases h0:aqN r l q s m day day=0
 case neg =>
  rw[if_neg h0]at ha ⊢;unfold swa at *
  (refine Z5A rfl fun R hG hrd=>Yc Yb 1000 ?_;subst hG)
  simp -implicitDefEqProofs[Z5y,Z5z]
  (first|refine Ye.of (ha) (by simp) ?_|refine Yf.of (ha) (by simp) ?_)
  simp -implicitDefEqProofs[h0]
 have hz:=ZiQ h0;have hne:=ch_ne hz.1;have has:=aq_as h0;have hlt:=ZmZ hG hN r l s m hw hr hs;have ho:=ZmW (ZmV has).1;have hdr:=Zdh hG r hr;have h20:=(ZmX ho).2;have hrc:=fun b1 b2=>Zli hG hN hQ r l q s m day b1 b2 false hw hr hq hs hz.1 hz.2.1 hne (by have:=Zlj hz.1;omega)
 have pS:(Yl r l q).pure=true:=(by unfold Yl rfA;split <;> simp[AV.pure,isa,na,ra,rfa]);have kS:(Yl r l q).keys=[]:=(by unfold Yl;simp[AV.keys]);have pM:∀ x∈moC r l q s m day,x.pure=true:=(by simp[moC,AV.pure,pS,ia]);rw[if_pos h0,h0]at ha ⊢;unfold ltA at hlt;rw[if_pos has,has]at hlt;rw[if_pos ho,ho]at hdr;unfold rega at hdr;have hll:(ltL s m l (nums r)).length=(nums r).length:=(by simp[ltL]);have hsc:=fun i (hi:i<(nums r).length)=>Zne (r:=r) (L:=st5 r l q s m day) hll hi
 have hXl:=Znd (r:=r) (L:=st5 r l q s m day) hll;generalize ltL s m l (nums r)=ls at *;generalize nums r=ds at *;obtain ⟨cs,eS⟩ : ∃ cs,Yl r l q = .vptr cs 0:=⟨_,rfl⟩;unfold moC at *;rw[eS]at ha hrc pS kS pM;have pV:=Zfc (l:=ls.map ia) (by simp[ia,AV.pure]);have kV:=Zfd (ls.map ia);have sV:=fun ok st=>ZmY pV ok st
 generalize hX:plX r (st5 r l q s m day) ds ls=X at *;unfold swa at *
 (refine Z5A rfl fun R hG hrd=>Yc Yb 1000 ?_;subst hG)
 simp -implicitDefEqProofs[Z5y,Z5z]
 (first|refine Ye.of (ha) (by simp) ?_|refine Yf.of (ha) (by simp) ?_)
 simp -implicitDefEqProofs[]
 (first|refine Ye.of (hlt) (by simp) ?_|refine Yf.of (hlt) (by simp) ?_)
 simp -implicitDefEqProofs[]
 (first|refine Ye.of (hdr) (by simp) ?_|refine Yf.of (hdr) (by simp) ?_)
 simp -implicitDefEqProofs[];generalize hM:[AV.vptr cs 0,.vsl (s.map ia),.int .i64 m,.int .i64 day]=M at *;have hk:∀ x∈M,x.keys=[]:=by rw[← hM];simp[AV.keys]
 have hMk:∀ o,Yd o (.box M)=true:=fun o=>by
  simp only[Yd,List.all_eq_true];intro x hx;simp[Ya,hk x hx]
 refine ZaV (plS M ds ls X) (fun _=>True) ds.length ?_ trivial ?_ ?_
 · simp only[plS,plT,if_true,← hM]
   ((try simp only[kV]);refine Yn.sub (by simp[lk,Ya,AV.keys,kV]) ?_;simp only[kV,Wkl,and_true];(try simp[lk,Yd,Ya,AV.keys,kV]))
 · intro i hi _;have wi:IntKind.i64.wrap ((i:Int)+1)=(i:Int)+1:=Yg (by omega) (by omega)
   have hne2:¬ls.map ia=[]:=fun h=>by
    have:ls.length=0:=(by rw[← List.length_map (f:=ia),h];rfl);omega
   have eV:Yh (ls.map ia) = .vsl (ls.map ia):=(by rw[Yh,if_neg hne2]);have hil:i<ls.length:=(by omega);have sc:=hsc i hi;have hm:=hrc ds[i] ls[i];have hrow:∀ (d e:Int) (V:List Rf),plR false ((d,e),V)=[.int .i64 d,.int .i64 e,.vsl (acM V)]:=fun d e V=>rfl
   generalize rcL r (st5 r l q s m day) false (ds[i],ls[i])=V at *;have em:=Zn8 false (X.take i) ((ds[i],ls[i]),V);rw[← sc,hrow]at em;have lm:=Zn9 false (X.take i);rw[List.length_take,hXl,Nat.min_eq_left (by omega)]at lm;have bb:(i+1)*40≤70368744177664:=(by omega);have eA:V.map ita=acM V:=rfl;rw[eA]at hm;refine Yc Yb 1000 ?_;by_cases i0:i=0
   case' pos =>
    have hS:plS M ds ls X i=⟨(16,.nils)::plT ds ls i,[(10,.box M)]⟩:=(by unfold plS;rw[if_pos i0]);have e1:plM false (X.take i)=[]:=(by rw[i0]at lm ⊢;exact List.length_eq_zero_iff.1 lm);rw[e1,List.nil_append]at em
   case' neg =>
    have hS:plS M ds ls X i=⟨(16,.osl 67 i)::plT ds ls i,[(67,.row 3 (plM false (X.take i))),(10,.box M)]⟩:=by unfold plS;rw[if_neg i0]
   all_goals
    rw[hS];simp -implicitDefEqProofs[plT,eV,hi,hil,ia,← hM];rw[hM];refine Yf.of hm (by simp[AV.pure];exact pM) ?_;simp -implicitDefEqProofs[bb,lm];refine ⟨rfl,?_⟩;have hS1:plS M ds ls X (i+1)=⟨(16,.osl 67 (i+1))::plT ds ls (i+1),[(67,.row 3 (plM false (X.take (i+1)))),(10,.box M)]⟩:=(by unfold plS;rw[if_neg (by omega)]);rw[hS1,← em];simp only[plT,eV];have w1:IntKind.i64.wrap 1=1:=rfl
    ((try simp only[wi,w1,i0]);refine Yn.sub (by simp[lk,Ya,AV.keys,wi,w1,i0]) ?_;simp only[wi,w1,i0,Wkl,Znc,hMk,and_true];(try simp[lk,Yd,Ya,AV.keys,wi,w1,i0]))
 · intro _;have hall:X.take ds.length=X:=(by rw[← hXl];exact List.take_length);have lm:=Zn9 false X;have k5:=Znb false X;rw[hXl]at lm;refine Yc Yb 1000 ?_;by_cases i0:ds.length=0
   · have hS:plS M ds ls X ds.length=⟨(16,.nils)::plT ds ls ds.length,[(10,.box M)]⟩:=(by unfold plS;rw[if_pos i0]);have e0:plM false X=[]:=(by rw[i0]at lm;exact List.length_eq_zero_iff.1 lm);rw[hS];simp -implicitDefEqProofs[plT];refine Z2N Yb 1000 ?_;simp -implicitDefEqProofs[Yh,e0]
   · have hS:plS M ds ls X ds.length=⟨(16,.osl 67 ds.length)::plT ds ls ds.length,[(67,.row 3 (plM false (X.take ds.length))),(10,.box M)]⟩:=(by unfold plS;rw[if_neg i0]);rw[hall]at hS;have e0:¬plM false X=[]:=fun h=>i0 (by rw[← lm,h];rfl)
     rw[hS];simp -implicitDefEqProofs[plT];refine Z2N Yb 1000 ?_;simp -implicitDefEqProofs[Yh,e0,k5,lm]
def p5T (ds ls:List Int) (m day:Int) (sV:AV) (i:Nat):List (Nat×AV):=[(15,.int .i64 i),(13,.vsl (ds.map ia)),(11,Yh (ls.map ia)),(4,.ptr 4 0),(1,sV),(2,.int .i64 m),(3,.int .i64 day)]
def p5S (M:List AV) (ds ls:List Int) (m day:Int) (sV:AV) (X:List (Rf×List Rf)) (i:Nat):St :=
 if i=0 then ⟨(14,.nils)::p5T ds ls m day sV i,[(4,.box M)]⟩ else ⟨(14,.osl 63 i)::p5T ds ls m day sV i,[(63,.row 3 (plM true (X.take i))),(4,.box M)]⟩
set_option maxHeartbeats 2000000 in
theorem Zng (r:List Iss) (l:List Nte) (q:List Rul) (s:List Int) (m day:Int) (hw:WfN l) (hr:Wf r) (hq:Sml q) (hs:Sml s) :
  PC Tryz.prog G 34 [swa r l q,.vsl (s.map ia),.int .i64 m,.int .i64 day] (plE true r l q s m day):=by
 have ha:=ZiM (G:=G) r l q s m day day hw hr hq hs;unfold plE;by_cases h0:aqN r l q s m day day=0
 case neg =>
  rw[if_neg h0];unfold swa at *
  (refine Z67 rfl fun R hG hrd=>Yc Yb 1000 ?_;subst hG)
  simp -implicitDefEqProofs[Z65,Z66]
  (first|refine Ye.of (ha) (by simp) ?_|refine Yf.of (ha) (by simp) ?_)
  simp -implicitDefEqProofs[h0]
 have hz:=ZiQ h0;have has:=aq_as h0;have hlt:=Zn3 (G:=G) r l s m hw hr hs;have hN0:=ZmV has;have ho:=ZmX (ZmW hN0.1);have hnm:=Zbg (G:=G) r hr.1.1 ho.1;have h20:=ho.2;have hin:=fun d hd=>Zn7 (r:=r) (l:=l) (Zkh hz.1) (Zi9 hN0.1) (s:=s) (m:=m) (d:=d) hd l.length (Nat.le_refl _)
 have hpc:=fun b1 b2 hb=>Zlq (G:=G) r l q s m day b1 b2 hw hr hs hz.1 hb
 rw[h0]at ha;rw[if_pos h0,h0];unfold ltA at hlt;rw[if_pos has,has]at hlt;unfold rega at hnm;have hll:(ltL s m l (nums r)).length=(nums r).length:=(by simp[ltL]);have hsc:=fun i (hi:i<(nums r).length)=>Zne (r:=r) (L:=st5 r l q s m day) hll hi
 have hXl:=Znd (r:=r) (L:=st5 r l q s m day) hll
 have hmem:∀ i (hi:i<(nums r).length),((nums r)[i],(ltL s m l (nums r))[i]'(by rw[hll];exact hi))∈rfs r:=fun i hi=>by
  have:=hin (nums r)[i] (List.getElem_mem hi);simpa [ltL] using this
 generalize ltL s m l (nums r)=ls at *;generalize nums r=ds at *;have pV:=Zfc (l:=ls.map ia) (by simp[ia,AV.pure]);have kV:=Zfd (ls.map ia);have sV:=fun ok st=>ZmY pV ok st
 generalize hX:plX r (st5 r l q s m day) ds ls=X at *;unfold swa at *
 (refine Z67 rfl fun R hG hrd=>Yc Yb 1000 ?_;subst hG)
 simp -implicitDefEqProofs[Z65,Z66]
 (first|refine Ye.of (ha) (by simp) ?_|refine Yf.of (ha) (by simp) ?_)
 simp -implicitDefEqProofs[]
 (first|refine Ye.of (hlt) (by simp) ?_|refine Yf.of (hlt) (by simp) ?_)
 simp -implicitDefEqProofs[]
 (first|refine Ye.of (hnm) (by simp) ?_|refine Yf.of (hnm) (by simp) ?_)
 simp -implicitDefEqProofs[];generalize hM:[AV.vsl (r.map isa),.vsl (l.map na),.vsl (q.map ra)]=M at *;have hk:∀ x∈M,x.keys=[]:=(by rw[← hM];simp[AV.keys]);have pM:∀ x∈M,x.pure=true:=by rw[← hM];simp[AV.pure,isa,na,ra]
 have hMk:∀ o,Yd o (.box M)=true:=fun o=>by
  simp only[Yd,List.all_eq_true];intro x hx;simp[Ya,hk x hx]
 refine ZaV (p5S M ds ls m day (.vsl (s.map ia)) X) (fun _=>True) ds.length ?_ trivial ?_ ?_
 · simp only[p5S,p5T,if_true,← hM]
   ((try simp only[kV]);refine Yn.sub (by simp[lk,Ya,AV.keys,kV]) ?_;simp only[kV,Wkl,and_true];(try simp[lk,Yd,Ya,AV.keys,kV]))
 · intro i hi _;have wi:IntKind.i64.wrap ((i:Int)+1)=(i:Int)+1:=Yg (by omega) (by omega)
   have hne2:¬ls.map ia=[]:=fun h=>by
    have:ls.length=0:=(by rw[← List.length_map (f:=ia),h];rfl);omega
   have eV:Yh (ls.map ia) = .vsl (ls.map ia):=(by rw[Yh,if_neg hne2]);have hil:i<ls.length:=(by omega);have sc:=hsc i hi;have hm:=hpc ds[i] ls[i] (hmem i hi);have hrow:∀ (d e:Int) (V:List Rf),plR true ((d,e),V)=[.int .i64 d,.int .i64 e,Yh (acM V)]:=fun d e V=>rfl
   generalize rcL r (st5 r l q s m day) false (ds[i],ls[i])=V at *;have em:=Zn8 true (X.take i) ((ds[i],ls[i]),V);rw[← sc,hrow]at em;have lm:=Zn9 true (X.take i);rw[List.length_take,hXl,Nat.min_eq_left (by omega)]at lm;have bb:(i+1)*40≤70368744177664:=(by omega);have eA:V.map ita=acM V:=rfl;rw[eA]at hm
   obtain ⟨OV,hOV,hc⟩ : ∃ OV,Yh (acM V)=OV∧(OV = .nils∨OV = .vsl (acM V)):=by
    refine ⟨_,rfl,?_⟩;unfold Yh
    split
    · exact .inl rfl
    · exact .inr rfl
   rw[hOV]at hm em;have aP:=Zlp V;refine Yc Yb 1000 ?_;by_cases i0:i=0
   case' pos =>
    have hS:p5S M ds ls m day (.vsl (s.map ia)) X i=⟨(14,.nils)::p5T ds ls m day (.vsl (s.map ia)) i,[(4,.box M)]⟩:=(by unfold p5S;rw[if_pos i0]);have e1:plM true (X.take i)=[]:=(by rw[i0]at lm ⊢;exact List.length_eq_zero_iff.1 lm);rw[e1,List.nil_append]at em
   case' neg =>
    have hS:p5S M ds ls m day (.vsl (s.map ia)) X i=⟨(14,.osl 63 i)::p5T ds ls m day (.vsl (s.map ia)) i,[(63,.row 3 (plM true (X.take i))),(4,.box M)]⟩:=by unfold p5S;rw[if_neg i0]
   all_goals
    rw[hS];simp -implicitDefEqProofs[p5T,eV,hi,hil,ia,← hM];refine ⟨rfl,?_⟩;rw[hM];refine Yf.of hm (by simp[AV.pure,ia];exact pM) ?_;rcases hc with rfl|rfl
    all_goals
     simp -implicitDefEqProofs[bb,lm,wi];refine ⟨rfl,?_⟩;have hS1:p5S M ds ls m day (.vsl (s.map ia)) X (i+1)=⟨(14,.osl 63 (i+1))::p5T ds ls m day (.vsl (s.map ia)) (i+1),[(63,.row 3 (plM true (X.take (i+1)))),(4,.box M)]⟩:=(by unfold p5S;rw[if_neg (by omega)]);rw[hS1,← em];simp only[p5T,eV];have w1:IntKind.i64.wrap 1=1:=rfl
     ((try simp only[wi,w1,i0]);refine Yn.sub (by simp[lk,Ya,AV.keys,wi,w1,i0]) ?_;simp only[wi,w1,i0,Wkl,Znc,hMk,and_true];(try simp[lk,Yd,Ya,AV.keys,wi,w1,i0]))
 · intro _;have hall:X.take ds.length=X:=(by rw[← hXl];exact List.take_length);have lm:=Zn9 true X;have k5:=Znb true X;rw[hXl]at lm;refine Yc Yb 1000 ?_;by_cases i0:ds.length=0
   · have hS:p5S M ds ls m day (.vsl (s.map ia)) X ds.length=⟨(14,.nils)::p5T ds ls m day (.vsl (s.map ia)) ds.length,[(4,.box M)]⟩:=(by unfold p5S;rw[if_pos i0]);have e0:plM true X=[]:=(by rw[i0]at lm;exact List.length_eq_zero_iff.1 lm);rw[hS];simp -implicitDefEqProofs[p5T];refine Z2N Yb 1000 ?_;simp -implicitDefEqProofs[Yh,e0]
   · have hS:p5S M ds ls m day (.vsl (s.map ia)) X ds.length=⟨(14,.osl 63 ds.length)::p5T ds ls m day (.vsl (s.map ia)) ds.length,[(63,.row 3 (plM true (X.take ds.length))),(4,.box M)]⟩:=(by unfold p5S;rw[if_neg i0]);rw[hall]at hS;have e0:¬plM true X=[]:=fun h=>i0 (by rw[← lm,h];rfl)
     rw[hS];simp -implicitDefEqProofs[p5T];refine Z2N Yb 1000 ?_;simp -implicitDefEqProofs[Yh,e0,k5,lm]
end
section
variable {G:Nat→Option (List AV)}
end
section
variable {G:Nat→Option (List AV)}
end
open Go.ChangeShapes Go.WideShapes Go.ChangeAt Go.WideMaps Go.WideElems Go.RowKit Go.Deep
theorem own:ownKnob Tryz.prog.godebug=none:=by kernel_rfl
theorem Znp:laidOutB Tryz.prog=true:=by kernel_rfl
theorem cF:Tryz.prog.cellsOf 220=1:=by kernel_rfl
theorem Znq {P:Program} {G:Nat→Option (List AV)} {f:FuncId} {args:List AV} {W:World} {vs:Array Value} (h:PC P G f args (.bool true)) (hG:GR G noM W) (hs:vs.size=args.length)
  (hv:∀ (i:Nat) (x:AV) (u:Value),args[i]? = some x→vs[i]? = some u→PV noM W x u):Calls P f vs W fun e W'=>e = .returned (.bool true)∧Ext W W' :=
 (h.2 noM W vs (fun _ h=>h.elim) hG hs hv).mono fun e W' ⟨v,h1,h2,h3⟩=>by
  cases h2
  exact ⟨h1,h3⟩
def itK:List TY:=[.int .i64,.int .i64]
def dmK:List TY:=[.int .i64,.int .i64,.int .i64]
def isK2:List TY:=[.int .i64,.int .i64,.int .u8,.sl itK,.sl dmK]
theorem Znr {xs:List AV} (h:TVs itK xs):∃ p:Int×Int,xs=ita p:=by
 obtain ⟨x0,_,rfl,h0,h⟩:=h.cons_inv;obtain ⟨x1,_,rfl,h1,h⟩:=h.cons_inv;obtain rfl:=h.nil_inv;obtain ⟨n,rfl,-⟩:=h0.int_inv;obtain ⟨l,rfl,-⟩:=h1.int_inv;exact ⟨(n,l),rfl⟩
theorem Zns {xs:List AV} (h:TVs dmK xs):∃ d:Dm,xs=dma d:=by
 obtain ⟨x0,_,rfl,h0,h⟩:=h.cons_inv;obtain ⟨x1,_,rfl,h1,h⟩:=h.cons_inv;obtain ⟨x2,_,rfl,h2,h⟩:=h.cons_inv;obtain rfl:=h.nil_inv;obtain ⟨n,rfl,-⟩:=h0.int_inv;obtain ⟨l,rfl,-⟩:=h1.int_inv;obtain ⟨u,rfl,-⟩:=h2.int_inv;exact ⟨⟨n,l,u⟩,rfl⟩
def KOk (x:Iss):Prop:=0≤x.k∧x.k≤255
theorem Znt {xs:List AV} (h:TVs isK2 xs):∃ x:Iss,xs=isa x∧KOk x:=by
 obtain ⟨x0,_,rfl,h0,h⟩:=h.cons_inv;obtain ⟨x1,_,rfl,h1,h⟩:=h.cons_inv;obtain ⟨x2,_,rfl,h2,h⟩:=h.cons_inv;obtain ⟨x3,_,rfl,h3,h⟩:=h.cons_inv;obtain ⟨x4,_,rfl,h4,h⟩:=h.cons_inv;obtain rfl:=h.nil_inv;obtain ⟨n,rfl,-⟩:=h0.int_inv;obtain ⟨l,rfl,-⟩:=h1.int_inv;obtain ⟨k,rfl,hk⟩:=h2.int_inv;obtain ⟨r3,rfl,-,g3⟩:=h3.sl_inv;obtain ⟨r4,rfl,-,g4⟩:=h4.sl_inv;obtain ⟨its,rfl⟩:=Znm (f:=ita) fun r hr=>Znr (g3 r hr)
 obtain ⟨dms,rfl⟩:=Znm (f:=dma) fun r hr=>Zns (g4 r hr)
 exact ⟨⟨n,l,k,its,dms⟩,rfl,bounds_u8 hk⟩
theorem Znu {α β:Type} {f:α→β} {p:α→Prop} {rows:List β} (h:∀ r∈rows,∃ d,r=f d∧p d):∃ l:List α,rows=l.map f∧∀ x∈l,p x:=by
 induction rows with
 |nil=>exact ⟨[],rfl,by simp⟩
 | cons r rows ih =>
   obtain ⟨d,rfl,hd⟩:=h r (List.mem_cons_self ..);obtain ⟨l,rfl,hl⟩:=ih fun r hr=>h r (List.mem_cons_of_mem _ hr)
   exact ⟨d::l,rfl,fun x hx=>by
    rcases List.mem_cons.1 hx with rfl|hx
    · exact hd
    · exact hl x hx⟩
theorem Znv {G:Nat→Option (List AV)} (r:List Iss):PC Tryz.prog G 73 [rega r] (.bool (Zb9 r)):=by
 by_cases h1:80<r.length
 · (refine ZaP rfl fun R hG hrd=>Yc Yb 1000 ?_;subst hG)
   have h1':(80:Int)<r.length:=(by omega);simp -implicitDefEqProofs[ZaN,ZaO,rega,h1',Zb9,h1]
 · exact Zbd r (by unfold Sml;omega)
theorem Znw {r:List Iss} (h:Zb9 r=false) (hk:∀ x∈r,KOk x):Wf r:=by
 simp only[Zb9,Bool.or_eq_false_iff,decide_eq_false_iff_not,List.any_eq_false,Bool.or_eq_true,decide_eq_true_eq,not_or]at h;exact ⟨⟨by unfold Sml;omega,fun x hx=>by have:=h.2 x hx;unfold Sml;omega⟩,hk⟩
section
variable {G:Nat→Option (List AV)}
theorem Znx (r:List Iss) (l:List Nte):PC Tryz.prog G 38 [.agg [.vsl (r.map isa),.vsl (l.map na)]] (.bool (Zb9 r||decide (16<l.length))):=by
 have hg:=Znv (G:=G) r;rw[rega]at hg
 (refine ZeL rfl fun R hG hrd=>Yc Yb 1000 ?_;subst hG)
 simp -implicitDefEqProofs[ZeJ,ZeK]
 (first|refine Ye.of (hg) (by simp) ?_|refine Yf.of (hg) (by simp) ?_)
 cases q:Zb9 r
 · have e:decide ((16:Int)<l.length)=decide (16<l.length):=(by rw[decide_eq_decide];omega);simp -implicitDefEqProofs[e]
 · simp -implicitDefEqProofs[]
theorem Zny (r:List Iss) (l:List Nte) (q:List Rul):PC Tryz.prog G 7 [swa r l q] (.bool (Zb9 r||decide (16<l.length)||decide (20<q.length))):=by
 have hg:=Znx (G:=G) r l
 (refine Z8o rfl fun R hG hrd=>Yc Yb 1000 ?_;subst hG)
 simp -implicitDefEqProofs[Z8m,Z8n,swa]
 (first|refine Ye.of (hg) (by simp) ?_|refine Yf.of (hg) (by simp) ?_)
 cases h1:(Zb9 r||decide (16<l.length))
 · have e:decide ((20:Int)<q.length)=decide (20<q.length):=(by rw[decide_eq_decide];omega);simp -implicitDefEqProofs[e]
 · simp -implicitDefEqProofs[]
def NOk (x:Nte):Prop:=0≤x.sg∧x.sg≤255∧0≤x.wy∧x.wy≤255
end
section
variable {G:Nat→Option (List AV)}
theorem Znz (X:List (List Rf)) (hX:Sml X) (hc:∀ c∈X,Sml c):PC Tryz.prog G 35 [.vsl (clM X),.vsl (clM X)] (.bool true):=by
 have ll:=Zmf X;unfold Sml at hX
 (refine Z6a rfl fun R hG hrd=>Yc Yb 1000 ?_;subst hG)
 simp -implicitDefEqProofs[Z68,Z69,ll];refine ZaV (fun i=>⟨[(5,.int .i64 i),(0,.vsl (clM X)),(1,.vsl (clM X))],[]⟩) (fun _=>True) X.length ?_ trivial ?_ ?_
 · (refine Yn.sub (by simp[lk,Ya,AV.keys]) ?_;simp only[Wkl,and_true];(try simp[lk,Yd,Ya,AV.keys]))
 · intro i hi _;have wi:IntKind.i64.wrap ((i:Int)+1)=(i:Int)+1:=Yg (by omega) (by omega);have ha:(clM X)[i]'(by rw[ll];exact hi)=[.vsl (acM X[i])]:=(by simp[clM]);have hs:=Zfb (G:=R.G) X[i] X[i] (hc _ (List.getElem_mem hi));have eA:X[i].map ita=acM X[i]:=rfl;rw[eA]at hs;refine Yc Yb 1000 ?_;simp -implicitDefEqProofs[hi,ll,ha];refine Yf.of hs (by simp[Zmh]) ?_;simp -implicitDefEqProofs[wi];refine ⟨rfl,?_⟩
   (refine Yn.sub (by simp[lk,Ya,AV.keys]) ?_;simp only[Wkl,and_true];(try simp[lk,Yd,Ya,AV.keys]))
 · intro _;refine Yc Yb 1000 ?_;simp -implicitDefEqProofs[ll];refine Z2N Yb 1000 ?_;simp -implicitDefEqProofs[]
theorem ZnA (X:List Pr) (hX:X.length≤4000):PC Tryz.prog G 36 [.vsl (prM X),.vsl (prM X)] (.bool true):=by
 have ll:=Zmw X
 (refine Z6d rfl fun R hG hrd=>Yc Yb 1000 ?_;subst hG)
 simp -implicitDefEqProofs[Z6b,Z6c,ll];refine ZaV (fun i=>⟨[(5,.int .i64 i),(0,.vsl (prM X)),(1,.vsl (prM X))],[]⟩) (fun _=>True) X.length ?_ trivial ?_ ?_
 · (refine Yn.sub (by simp[lk,Ya,AV.keys]) ?_;simp only[Wkl,and_true];(try simp[lk,Yd,Ya,AV.keys]))
 · intro i hi _;have wi:IntKind.i64.wrap ((i:Int)+1)=(i:Int)+1:=Yg (by omega) (by omega);have ha:(prM X)[i]'(by rw[ll];exact hi)=[.int .i64 X[i].1.1,.int .i64 X[i].1.2,.int .i64 X[i].2.1,.int .i64 X[i].2.2]:=(by simp[prM,pra]);refine Yc Yb 1000 ?_;simp -implicitDefEqProofs[hi,ll,ha,wi];refine ⟨rfl,?_⟩
   (refine Yn.sub (by simp[lk,Ya,AV.keys]) ?_;simp only[Wkl,and_true];(try simp[lk,Yd,Ya,AV.keys]))
 · intro _;refine Yc Yb 1000 ?_;simp -implicitDefEqProofs[ll];refine Z2N Yb 1000 ?_;simp -implicitDefEqProofs[]
theorem ZnB (X:List (Rf×List Rf)) (hX:Sml X) (hc:∀ c∈X,Sml c.2):PC Tryz.prog G 37 [.vsl (plM false X),.vsl (plM true X)] (.bool true):=by
 have l1:=Zn9 false X;have l2:=Zn9 true X;unfold Sml at hX
 (refine Z6g rfl fun R hG hrd=>Yc Yb 1000 ?_;subst hG)
 simp -implicitDefEqProofs[Z6e,Z6f,l1,l2];refine ZaV (fun i=>⟨[(5,.int .i64 i),(0,.vsl (plM false X)),(1,.vsl (plM true X))],[]⟩) (fun _=>True) X.length ?_ trivial ?_ ?_
 · (refine Yn.sub (by simp[lk,Ya,AV.keys]) ?_;simp only[Wkl,and_true];(try simp[lk,Yd,Ya,AV.keys]))
 · intro i hi _;have wi:IntKind.i64.wrap ((i:Int)+1)=(i:Int)+1:=Yg (by omega) (by omega);have ha:(plM false X)[i]'(by rw[l1];exact hi)=[.int .i64 X[i].1.1,.int .i64 X[i].1.2,.vsl (acM X[i].2)]:=(by simp[plM,plR]);have hb:(plM true X)[i]'(by rw[l2];exact hi)=[.int .i64 X[i].1.1,.int .i64 X[i].1.2,Yh (acM X[i].2)]:=(by simp[plM,plR]);have hs:=PC.sub (Zfb (G:=R.G) X[i].2 X[i].2 (hc _ (List.getElem_mem hi))) (xs:=[.vsl (acM X[i].2),Yh (acM X[i].2)]) ⟨.rfl',.orNil _,trivial⟩;have oP:=Zna X[i].2;generalize Yh (acM X[i].2)=OV at *;have oK:=oP.2;have oQ:=oP.1;refine Yc Yb 1000 ?_;simp -implicitDefEqProofs[hi,l1,l2,ha,hb];refine Yf.of hs (by simp[Zmh,oQ]) ?_;simp -implicitDefEqProofs[wi];refine ⟨rfl,?_⟩
   (refine Yn.sub (by simp[lk,Ya,AV.keys]) ?_;simp only[Wkl,and_true];(try simp[lk,Yd,Ya,AV.keys]))
 · intro _;refine Yc Yb 1000 ?_;simp -implicitDefEqProofs[l1];refine Z2N Yb 1000 ?_;simp -implicitDefEqProofs[]
theorem ZnC {r:List Iss} {l:List Nte} {q:List Rul} {T:Rf→Rf→Bool} (h:chS r l q=0):Sml (clX T (rfs r) (rfs r).length)∧∀ c∈clX T (rfs r) (rfs r).length,Sml c:=by
 have hn:=Zlk r;have hl:=(Zlj h).1;have h1:=Zmb (T:=T) (bs:=rfs r) (i:=(rfs r).length);refine ⟨by unfold Sml;omega,fun c hc=>?_⟩;obtain ⟨a,-,rfl⟩:=List.mem_map.1 hc;have:=Zmc (T:=T) (bs:=rfs r) (a:=a);unfold Sml;omega
theorem ZnD {r:List Iss} {l:List Nte} {q:List Rul} {T U:Rf→Rf→Bool} (h:chS r l q=0):(losX T U (rfs r) (rfs r).length).length≤4000:=by
 have hn:=Zlk r;have hl:=(Zlj h).1;have h1:=Zmu (T:=T) (U:=U) (bs:=rfs r) (rfs r).length (Nat.le_refl _);have h2:(rfs r).length*(rfs r).length≤60*60:=Nat.mul_le_mul (by omega) (by omega);omega
theorem ZnE {r:List Iss} {l:List Nte} {q:List Rul} {L:List Stq} {ls:List Int} (h:chS r l q=0) (h2:ls.length=(nums r).length) (h20:(nums r).length≤20):Sml (plX r L (nums r) ls)∧∀ c∈plX r L (nums r) ls,Sml c.2:=by
 have hl:=(Zlj h).1;have h1:=Znd (r:=r) (L:=L) h2;refine ⟨by unfold Sml;omega,fun c hc=>?_⟩;obtain ⟨a,-,rfl⟩:=List.mem_map.1 hc;have:=Zm3 (r:=r) (L:=L) (t:=false) (x:=a);unfold Sml;simp only;omega
set_option maxHeartbeats 2000000 in
theorem ZnF (hG:GC G) (hN:GN G) (hQ:GQ G) (r:List Iss) (l:List Nte) (q:List Rul) (s:List Int) (m d e:Int) (hw:WfN l) (hr:Wf r) (hq:Sml q) (hs:Sml s) :
  PC Tryz.prog G 6 [swa r l q,.vsl (s.map ia),.int .i64 m,.int .i64 d,.int .i64 e] (.bool true):=by
 have c6:=Zil (G:=G) r l q hr.1.1;have c7:=Zin (G:=G) r l q hr.1 hw.1 hq;have c8:=Zmn hG hN hQ r l q s m d hw hr hq hs;have c9:=ZmJ (G:=G) r l q s m d hw hr hq hs;have c10:=Zmz hG hN hQ r l q s m d e hw hr hq hs;have c11:=ZmK (G:=G) r l q s m d e hw hr hq hs;have c12:=Znf hG hN hQ r l q s m d hw hr hq hs;have c13:=Zng (G:=G) r l q s m d hw hr hq hs;have c16:=Zio (G:=G) r r l l q q hr.1 hw.1 hq;unfold clE at c8 c9;unfold loE at c10 c11;unfold plE at c12 c13
 obtain ⟨V1,e1,p1,k1,c17⟩ : ∃ V,(if aqN r l q s m d d=0 then Yh (clM (clX (mayT (edg (st5 r l q s m d))) (rfs r) (rfs r).length)) else .nils)=V∧V.pure=true∧V.keys=[]∧PC Tryz.prog G 35 [V,V] (.bool true):=by
  refine ⟨_,rfl,?_⟩
  split
  · rename_i h;have hc:=ZnC (T:=mayT (edg (st5 r l q s m d))) (ZiQ h).1;exact ⟨Zfc (Zmi _),Zfd _,PC.sub (Znz _ hc.1 hc.2) ⟨.orNil _,.orNil _,trivial⟩⟩
  · exact ⟨by simp[AV.pure],by simp[AV.keys],PC.sub (Znz [] (by simp[Sml]) (by simp)) ⟨.nils,.nils,trivial⟩⟩
 obtain ⟨V2,e2,p2,k2,c18⟩ : ∃ V,(if aqN r l q s m d e=0 then Yh (prM (losX (mayT (edg (st5 r l q s m d))) (mayT (edg (st5 r l q s m e))) (rfs r) (rfs r).length)) else .nils)=V∧V.pure=true∧V.keys=[]∧PC Tryz.prog G 36 [V,V] (.bool true):=by
  refine ⟨_,rfl,?_⟩
  split
  · rename_i h;exact ⟨Zfc (Zmx _),Zfd _,PC.sub (ZnA _ (ZnD (ZiQ h).1)) ⟨.orNil _,.orNil _,trivial⟩⟩
  · exact ⟨by simp[AV.pure],by simp[AV.keys],PC.sub (ZnA [] (by simp)) ⟨.nils,.nils,trivial⟩⟩
 obtain ⟨V3,V4,e3,e4,p3,k3,p4,k4,c19⟩ : ∃ V W,(if aqN r l q s m d d=0 then Yh (plM false (plX r (st5 r l q s m d) (nums r) (ltL s m l (nums r)))) else .nils)=V∧(if aqN r l q s m d d=0 then Yh (plM true (plX r (st5 r l q s m d) (nums r) (ltL s m l (nums r)))) else .nils)=W ∧
   V.pure=true∧V.keys=[]∧W.pure=true∧W.keys=[]∧PC Tryz.prog G 37 [V,W] (.bool true):=by
  refine ⟨_,_,rfl,rfl,?_⟩
  split
  · rename_i h;have hc:=ZnE (L:=st5 r l q s m d) (ls:=ltL s m l (nums r)) (ZiQ h).1 (by simp[ltL]) (ZmX (ZmW (ZmV (aq_as h)).1)).2;exact ⟨Zfc (Znb _ _),Zfd _,Zfc (Znb _ _),Zfd _,PC.sub (ZnB _ hc.1 hc.2) ⟨.orNil _,.orNil _,trivial⟩⟩
  · exact ⟨by simp[AV.pure],by simp[AV.keys],by simp[AV.pure],by simp[AV.keys],PC.sub (ZnB [] (by simp[Sml]) (by simp)) ⟨.nils,.nils,trivial⟩⟩
 rw[e1]at c8 c9;rw[e2]at c10 c11;rw[e3]at c12;rw[e4]at c13;clear e1 e2 e3 e4;generalize aqN r l q s m d d=y at *;generalize aqN r l q s m d e=z at *;unfold swa at *
 (refine Z6j rfl fun R hG hrd=>Yc Yb 1000 ?_;subst hG)
 simp -implicitDefEqProofs[Z6h,Z6i]
 (first|refine Ye.of (c6) (by simp) ?_|refine Yf.of (c6) (by simp) ?_)
 cases h6:(Zb9 r||decide (16<l.length)||decide (20<q.length))
 · by_cases h7:(20:Int)<s.length
   · simp -implicitDefEqProofs[h7]
   simp -implicitDefEqProofs[h7]
   (first|refine Ye.of (c7) (by simp) ?_|refine Yf.of (c7) (by simp) ?_)
   simp -implicitDefEqProofs[]
   (first|refine Ye.of (c8) (by simp) ?_|refine Yf.of (c8) (by simp) ?_)
   simp -implicitDefEqProofs[]
   (first|refine Ye.of (c9) (by simp) ?_|refine Yf.of (c9) (by simp) ?_)
   simp -implicitDefEqProofs[]
   (first|refine Ye.of (c10) (by simp) ?_|refine Yf.of (c10) (by simp) ?_)
   simp -implicitDefEqProofs[]
   (first|refine Ye.of (c11) (by simp) ?_|refine Yf.of (c11) (by simp) ?_)
   simp -implicitDefEqProofs[]
   (first|refine Ye.of (c12) (by simp) ?_|refine Yf.of (c12) (by simp) ?_)
   simp -implicitDefEqProofs[]
   (first|refine Ye.of (c13) (by simp) ?_|refine Yf.of (c13) (by simp) ?_)
   simp -implicitDefEqProofs[];refine Ye.of c17 (by simp[p1]) ?_;simp -implicitDefEqProofs[];refine Ye.of c18 (by simp[p2]) ?_;simp -implicitDefEqProofs[];refine Ye.of c19 (by simp[p3,p4]) ?_;simp -implicitDefEqProofs[]
   (first|refine Ye.of (c16) (by simp) ?_|refine Yf.of (c16) (by simp) ?_)
   simp -implicitDefEqProofs[]
 · simp -implicitDefEqProofs[]
theorem ZnG (hG:GC G) (hN:GN G) (hQ:GQ G) (r:List Iss) (l:List Nte) (q:List Rul) (s:List Int) (m d e:Int) (hr:∀ x∈r,KOk x) (hl:∀ x∈l,NOk x) :
  PC Tryz.prog G 6 [swa r l q,.vsl (s.map ia),.int .i64 m,.int .i64 d,.int .i64 e] (.bool true):=by
 have c6:=Zny (G:=G) r l q;by_cases h:(Zb9 r||decide (16<l.length)||decide (20<q.length))=true
 · rw[h]at c6;unfold swa at *
   (refine Z6j rfl fun R hG hrd=>Yc Yb 1000 ?_;subst hG)
   simp -implicitDefEqProofs[Z6h,Z6i]
   (first|refine Ye.of (c6) (by simp) ?_|refine Yf.of (c6) (by simp) ?_)
   simp -implicitDefEqProofs[]
 · have h':(Zb9 r||decide (16<l.length)||decide (20<q.length))=false:=(by simpa using h);by_cases h7:(20:Int)<s.length
   · rw[h']at c6;unfold swa at *
     (refine Z6j rfl fun R hG hrd=>Yc Yb 1000 ?_;subst hG)
     simp -implicitDefEqProofs[Z6h,Z6i]
     (first|refine Ye.of (c6) (by simp) ?_|refine Yf.of (c6) (by simp) ?_)
     simp -implicitDefEqProofs[h7]
   · simp only[Bool.or_eq_false_iff,decide_eq_false_iff_not]at h';exact ZnF hG hN hQ r l q s m d e ⟨by unfold Sml;omega,hl⟩ (Znw h'.1.1 hr) (by unfold Sml;omega) (by unfold Sml;omega)
end
theorem ZnH {xs:List AV} (h:TVs [.int .i64] xs):∃ n:Int,xs=ia n:=by
 obtain ⟨x0,_,rfl,h0,h⟩:=h.cons_inv;obtain rfl:=h.nil_inv;obtain ⟨n,rfl,-⟩:=h0.int_inv;exact ⟨n,rfl⟩
open Go.ChangeShapes Go.WideShapes Go.ChangeAt Go.WideMaps Go.WideElems Go.RowKit Go.Deep
def laid5:List (String×DataW Unit):=[("blueline/sheet.checks",Rows.laid_blueline_sheet_checks),("blueline/note.checks",Rows.laid_blueline_note_checks),("blueline/swap.sources",Rows.laid_blueline_swap_sources)]
theorem ZnI (os:Os) (args:Array Value):laidMetH Tryz.prog laid5 ((World.doorLaid Tryz.prog 41 os).forCall (fun _ _=>0) ⟨#[],args,[]⟩).memory :=
 laidMetH_of_parts3 (fuel:=8) (laidMet_of_run' 8 (by kernel_rfl) (by kernel_rfl)) (by kernel_rfl) (by kernel_rfl)
theorem cellF {W:World} {fuel:Nat} {c:Value} {y:DataW (List UInt8)×List MemPlace} {tE:Nat} {fld:Field} {ps rs:Array TypeId} {vd:Bool} {b:UInt8} {s:List UInt8} {f0:FuncId}
  (uE:Tryz.prog.underlying tE=some (.struct #[fld])) (hfo:fld.offset=0) (uF:Tryz.prog.underlying fld.type=some (.func ps rs vd)) (cF:Tryz.prog.cellsOf fld.type=1)
  (hone:((List.range Tryz.prog.funcs.size).filter fun f=>(Tryz.prog.funcs[f]?).any (·.name.toUTF8.data.toList == b::s))=[f0])
  (h:DataW.trod (funcToken Tryz.prog) Tryz.prog W 0 (fun _=>true) true fuel tE [c]=some y) (hy:y.1 = .agg [.held (b::s)]):c = .func (.func f0) #[] #[]:=by
 obtain ⟨y0,n,rfl,-,h0⟩:=trod_struct1 uE h;rw[hfo,List.drop_zero,cF]at h0;simp only[DataW.agg.injEq,List.cons.injEq,and_true]at hy;exact func_of_trod (q:=y0.2) uF hone (by rw[← hy];simpa using h0)
theorem ZnJ {W:World} {laid:List (String×DataW Unit)} {nm:String} {d:DataW Unit} {g tA tE:Nat} {fld:Field} {ps rs:Array TypeId} {vd:Bool} {n:Nat} (toks:List (List UInt8)) (fs:List FuncId)
  (h:laidMetH Tryz.prog laid W) (hm:(nm,DataW.iface "func table" d)∈laid) (hg:Tryz.prog.globalNamed nm=some g) (ht:(Tryz.prog.globals[g]?).map (·.type)=some tA)
  (uA:Tryz.prog.underlying tA=some (.array n tE)) (uE:Tryz.prog.underlying tE=some (.struct #[fld])) (hfo:fld.offset=0) (uF:Tryz.prog.underlying fld.type=some (.func ps rs vd))
  (cA:Tryz.prog.cellsOf tA=n) (cE:Tryz.prog.cellsOf tE=1) (cF:Tryz.prog.cellsOf fld.type=1) (hl1:toks.length=n) (hl2:fs.length=n)
  (hd0:(d.funcsOut:DataW (List UInt8)) = .agg (toks.map fun s=>.agg [.held s]))
  (hone:∀ (i:Nat) (s:List UInt8) (f:FuncId),toks[i]? = some s→fs[i]? = some f→∃ b r,s=b::r∧((List.range Tryz.prog.funcs.size).filter fun f=>(Tryz.prog.funcs[f]?).any (·.name.toUTF8.data.toList == b::r))=[f]) :
  ∃ t fr,W.heap[g]? = some (.cells ((fs.map fun f=>Value.func (.func f) #[] #[]).toArray) t fr):=by
 obtain ⟨g',t,cs,fuel,p,hg',ht',hv,hd⟩:=h.funcs hm;obtain rfl:=Option.some.inj (hg.symm.trans hg');obtain rfl:=Option.some.inj (ht.symm.trans ht');obtain ⟨xs,m,rfl,hx,hlen,hn,hel⟩:=DataW.trod_array uA hd;rw[cA]at hlen;rw[cE]at hel;rw[hd0,Prod.mk.injEq,DataW.agg.injEq]at hx;have hx:=hx.1
 have hcs:cs.toList=fs.map fun f=>Value.func (.func f) #[] #[]:=by
  refine List.ext_getElem? fun i=>?_
  by_cases hi:i<n
  · have e:=hel i hi;have h1:i<xs.length:=(by omega);have h2:i<toks.length:=(by omega);have h3:i<fs.length:=(by omega);have h4:i<cs.toList.length:=(by omega);obtain ⟨b,r,hb,ho⟩:=hone i _ _ (List.getElem?_eq_getElem h2) (List.getElem?_eq_getElem h3);rw[Nat.mul_one,List.drop_eq_getElem_cons h4,List.take_succ_cons,List.take_zero,List.getElem?_eq_getElem h1]at e;have ey:=congrArg (fun l=>l[i]?) hx;simp only[List.getElem?_map,List.getElem?_eq_getElem h2,List.getElem?_eq_getElem h1,Option.map_some,Option.some.injEq]at ey;rw[hb]at ey;have:=cellF uE hfo uF cF ho e ey.symm;rw[List.getElem?_eq_getElem h4,List.getElem?_map,List.getElem?_eq_getElem h3,this];rfl
  · rw[List.getElem?_eq_none (by omega),List.getElem?_eq_none (by simp;omega)]
 simp only[World.var?,hg,Option.bind_some]at hv
 split at hv
 · rename_i cs' t fr heq;injection hv with hv
   have e:cs=(fs.map fun f=>Value.func (.func f) #[] #[]).toArray:=(by rw[← hcs]);exact ⟨t,fr,by rw[heq,hv,e]⟩
 · cases hv
def TabB (W:World) (g:Nat) (fs:List FuncId):Prop:=∃ t fr,W.heap[g]? = some (.cells ((fs.map fun f=>Value.func (.func f) #[] #[]).toArray) t fr)
def tabA (fs:List FuncId):List AV:=fs.map fun f=>.func (.func f) [] []
theorem ZnK {W:World} {g:Nat} {fs:List FuncId} (h:TabB W g fs):PV noM W (.vptr (tabA fs) 0) (.pointer (some ⟨g,0,none⟩)):=by
 obtain ⟨t,fr,hb⟩:=h;refine .vptr _ 0 g 0 (fun j=>(((fs.map fun f=>Value.func (.func f) #[] #[]).toArray)[j]?).getD undef) (Array.getElem?_eq_some_iff.1 hb).1 id ?_ ?_
 · intro j hj;have hj':j<fs.length:=(by simpa [tabA] using hj);simp[World.cell?,hb,hj']
 · intro j x hx;unfold tabA at hx;rw[List.getElem?_map,Option.map_eq_some_iff]at hx;obtain ⟨f,hf,rfl⟩:=hx;have hj':=(List.getElem?_eq_some_iff.1 hf).1;have e:((fs.map fun f=>Value.func (.func f) #[] #[]).toArray)[j]? = some (.func (.func f) #[] #[]):=(by simp[hf]);rw[e];exact .func _ [] [] #[] #[] rfl rfl (by simp) (by simp)
def fsC:List FuncId:=[193,194,195,196]
def fsN:List FuncId:=[203,204,205,206,208,209,212,214]
def fsQ:List FuncId:=[191,192]
set_option maxRecDepth 100000 in
theorem ZnL {W:World} (h:laidMetH Tryz.prog laid5 W):TabB W 1 fsC :=
 ZnJ [[98,108,117,101,108,105,110,101,47,115,104,101,101,116,46,99,104,101,99,107,115,36,49],[98,108,117,101,108,105,110,101,47,115,104,101,101,116,46,99,104,101,99,107,115,36,50],[98,108,117,101,108,105,110,101,47,115,104,101,101,116,46,99,104,101,99,107,115,36,51],[98,108,117,101,108,105,110,101,47,115,104,101,101,116,46,99,104,101,99,107,115,36,52]] fsC h (List.mem_cons_self ..) (by kernel_rfl) (by kernel_rfl) Tryz.underlying222 (fld:=_) Tryz.underlying221 rfl Tryz.underlying220 (by kernel_rfl) (by kernel_rfl) (by kernel_rfl) rfl rfl rfl
 (fun i s f hs hf=>by
  match i,hs,hf with
  |0,hs,hf=>cases hs;cases hf;exact ⟨_,_,rfl,by kernel_rfl⟩
  |1,hs,hf=>cases hs;cases hf;exact ⟨_,_,rfl,by kernel_rfl⟩
  |2,hs,hf=>cases hs;cases hf;exact ⟨_,_,rfl,by kernel_rfl⟩
  |3,hs,hf=>cases hs;cases hf;exact ⟨_,_,rfl,by kernel_rfl⟩
  |i+4,hs,_=>simp at hs)
set_option maxRecDepth 100000 in
theorem ZnM {W:World} (h:laidMetH Tryz.prog laid5 W):TabB W 2 fsN :=
 ZnJ [[98,108,117,101,108,105,110,101,47,110,111,116,101,46,99,104,101,99,107,115,36,49],[98,108,117,101,108,105,110,101,47,110,111,116,101,46,99,104,101,99,107,115,36,50],[98,108,117,101,108,105,110,101,47,110,111,116,101,46,99,104,101,99,107,115,36,51],[98,108,117,101,108,105,110,101,47,110,111,116,101,46,99,104,101,99,107,115,36,52],[98,108,117,101,108,105,110,101,47,110,111,116,101,46,99,104,101,99,107,115,36,53],[98,108,117,101,108,105,110,101,47,110,111,116,101,46,99,104,101,99,107,115,36,54],[98,108,117,101,108,105,110,101,47,110,111,116,101,46,99,104,101,99,107,115,36,55],[98,108,117,101,108,105,110,101,47,110,111,116,101,46,99,104,101,99,107,115,36,56]] fsN h (List.mem_cons_of_mem _ (List.mem_cons_self ..)) (by kernel_rfl) (by kernel_rfl) Tryz.underlying233 (fld:=_) Tryz.underlying232 rfl Tryz.underlying199 (by kernel_rfl) (by kernel_rfl) (by kernel_rfl) rfl rfl rfl
 (fun i s f hs hf=>by
  match i,hs,hf with
  |0,hs,hf=>cases hs;cases hf;exact ⟨_,_,rfl,by kernel_rfl⟩
  |1,hs,hf=>cases hs;cases hf;exact ⟨_,_,rfl,by kernel_rfl⟩
  |2,hs,hf=>cases hs;cases hf;exact ⟨_,_,rfl,by kernel_rfl⟩
  |3,hs,hf=>cases hs;cases hf;exact ⟨_,_,rfl,by kernel_rfl⟩
  |4,hs,hf=>cases hs;cases hf;exact ⟨_,_,rfl,by kernel_rfl⟩
  |5,hs,hf=>cases hs;cases hf;exact ⟨_,_,rfl,by kernel_rfl⟩
  |6,hs,hf=>cases hs;cases hf;exact ⟨_,_,rfl,by kernel_rfl⟩
  |7,hs,hf=>cases hs;cases hf;exact ⟨_,_,rfl,by kernel_rfl⟩
  |i+8,hs,_=>simp at hs)
set_option maxRecDepth 100000 in
theorem ZnN {W:World} (h:laidMetH Tryz.prog laid5 W):TabB W 0 fsQ :=
 ZnJ [[40,98,108,117,101,108,105,110,101,47,115,119,97,112,46,109,111,109,101,110,116,41,46,98,121,78,111,116,101,115],[40,98,108,117,101,108,105,110,101,47,115,119,97,112,46,109,111,109,101,110,116,41,46,98,121,82,117,108,101,115]] fsQ h (List.mem_cons_of_mem _ (List.mem_cons_of_mem _ (List.mem_cons_self ..))) (by kernel_rfl) (by kernel_rfl) Tryz.underlying159 (fld:=_) Tryz.underlying158 rfl Tryz.underlying156 (by kernel_rfl) (by kernel_rfl) (by kernel_rfl) rfl rfl rfl
 (fun i s f hs hf=>by
  match i,hs,hf with
  |0,hs,hf=>cases hs;cases hf;exact ⟨_,_,rfl,by kernel_rfl⟩
  |1,hs,hf=>cases hs;cases hf;exact ⟨_,_,rfl,by kernel_rfl⟩
  |i+2,hs,_=>simp at hs)
def G5:Nat→Option (List AV):=fun g=>if g=1 then some (tabA fsC) else if g=2 then some (tabA fsN) else if g=0 then some (tabA fsQ) else none
theorem ZnO:GC G5:=rfl
theorem ZnP:GN G5:=rfl
theorem ZnQ:GQ G5:=rfl
theorem ZnR {W:World} (h:laidMetH Tryz.prog laid5 W):GR G5 noM W:=by
 intro g cs hg;simp only[G5]at hg
 split at hg
 · rename_i e;subst e;cases hg;exact ZnK (ZnL h)
 · split at hg
   · rename_i e;subst e;cases hg;exact ZnK (ZnM h)
   · split at hg
     · rename_i e;subst e;cases hg;exact ZnK (ZnN h)
     · cases hg
def nteK:List TY:=[.int .i64,.int .i64,.int .u8,.int .i64,.int .i64,.int .i64,.int .i64,.int .i64,.bool,.int .u8]
def rulK:List TY:=[.int .i64,.int .i64,.int .i64,.int .i64,.int .i64,.int .i64,.bool,.int .i64]
def swpK:List TY:=[.sl isK2,.sl nteK,.sl rulK]
theorem ZnS {xs:List AV} (h:TVs nteK xs):∃ x:Nte,xs=na x∧NOk x:=by
 obtain ⟨x0,_,rfl,h0,h⟩:=h.cons_inv;obtain ⟨x1,_,rfl,h1,h⟩:=h.cons_inv;obtain ⟨x2,_,rfl,h2,h⟩:=h.cons_inv;obtain ⟨x3,_,rfl,h3,h⟩:=h.cons_inv;obtain ⟨x4,_,rfl,h4,h⟩:=h.cons_inv;obtain ⟨x5,_,rfl,h5,h⟩:=h.cons_inv;obtain ⟨x6,_,rfl,h6,h⟩:=h.cons_inv;obtain ⟨x7,_,rfl,h7,h⟩:=h.cons_inv;obtain ⟨x8,_,rfl,h8,h⟩:=h.cons_inv;obtain ⟨x9,_,rfl,h9,h⟩:=h.cons_inv;obtain rfl:=h.nil_inv;obtain ⟨v0,rfl,-⟩:=h0.int_inv;obtain ⟨v1,rfl,-⟩:=h1.int_inv;obtain ⟨v2,rfl,k2⟩:=h2.int_inv;obtain ⟨v3,rfl,-⟩:=h3.int_inv;obtain ⟨v4,rfl,-⟩:=h4.int_inv;obtain ⟨v5,rfl,-⟩:=h5.int_inv;obtain ⟨v6,rfl,-⟩:=h6.int_inv;obtain ⟨v7,rfl,-⟩:=h7.int_inv;obtain ⟨v8,rfl⟩:=h8.bool_inv;obtain ⟨v9,rfl,k9⟩:=h9.int_inv;obtain ⟨a2,b2⟩:=bounds_u8 k2;obtain ⟨a9,b9⟩:=bounds_u8 k9;exact ⟨⟨v0,v1,v2,v3,v4,v5,v6,v7,v8,v9⟩,rfl,a2,b2,a9,b9⟩
theorem ZnT {xs:List AV} (h:TVs rulK xs):∃ x:Rul,xs=ra x:=by
 obtain ⟨x0,_,rfl,h0,h⟩:=h.cons_inv;obtain ⟨x1,_,rfl,h1,h⟩:=h.cons_inv;obtain ⟨x2,_,rfl,h2,h⟩:=h.cons_inv;obtain ⟨x3,_,rfl,h3,h⟩:=h.cons_inv;obtain ⟨x4,_,rfl,h4,h⟩:=h.cons_inv;obtain ⟨x5,_,rfl,h5,h⟩:=h.cons_inv;obtain ⟨x6,_,rfl,h6,h⟩:=h.cons_inv;obtain ⟨x7,_,rfl,h7,h⟩:=h.cons_inv;obtain rfl:=h.nil_inv;obtain ⟨v0,rfl,-⟩:=h0.int_inv;obtain ⟨v1,rfl,-⟩:=h1.int_inv;obtain ⟨v2,rfl,-⟩:=h2.int_inv;obtain ⟨v3,rfl,-⟩:=h3.int_inv;obtain ⟨v4,rfl,-⟩:=h4.int_inv;obtain ⟨v5,rfl,-⟩:=h5.int_inv;obtain ⟨v6,rfl⟩:=h6.bool_inv;obtain ⟨v7,rfl,-⟩:=h7.int_inv;exact ⟨⟨v0,v1,v2,v3,v4,v5,v6,v7⟩,rfl⟩
theorem ZnU {xs:List AV} (h:TVs swpK xs):∃ (r:List Iss) (l:List Nte) (q:List Rul),AV.agg xs=swa r l q∧(∀ x∈r,KOk x)∧∀ x∈l,NOk x:=by
 obtain ⟨x0,_,rfl,h0,h⟩:=h.cons_inv;obtain ⟨x1,_,rfl,h1,h⟩:=h.cons_inv;obtain ⟨x2,_,rfl,h2,h⟩:=h.cons_inv;obtain rfl:=h.nil_inv;obtain ⟨rows,rfl,-,g⟩:=h0.sl_inv;obtain ⟨r,rfl,hr⟩:=Znu (f:=isa) (p:=KOk) fun r hr=>Znt (g r hr)
 obtain ⟨rows,rfl,-,g⟩:=h1.sl_inv;obtain ⟨l,rfl,hl⟩:=Znu (f:=na) (p:=NOk) fun r hr=>ZnS (g r hr)
 obtain ⟨rows,rfl,-,g⟩:=h2.sl_inv;obtain ⟨q,rfl⟩:=Znm (f:=ra) fun r hr=>ZnT (g r hr)
 exact ⟨r,l,q,rfl,hr,hl⟩
end Go.Proofs.YtpkfmfkccbnnjaaGreatDoor
