/-
  The law SwapPlaces.
-/
import Derived.Test.YtjogcghofinemaaGreatDoorJSuToWe
import Derived.Test.YtjogcghofinemaaGreatDoorJTdToUn
import Derived.Test.YtjogcghofinemaaGreatDoorJAmLToAmW
set_option linter.all false
set_option linter.unusedSimpArgs false
set_option linter.unusedVariables false
set_option linter.unusedSectionVars false
namespace Go.Proofs.YtjogcghofinemaaGreatDoor
open Go.RowKit
def akC (s:List Int) (m d:Int) (a b:Rf):List AV:=[.vsl (s.map ia),.int .i64 m,.int .i64 d,.int .i64 a.1,.int .i64 a.2,.int .i64 b.1,.int .i64 b.2]
def swC (r:List Iss) (l:List Nte) (q:List Rul):List AV:=[.vsl (r.map isa),.vsl (l.map na),.vsl (q.map ra)]
section
variable {G:Nat→Option (List AV)}
end
theorem Znl:∀ {c:List Stq} {x y:Rf} {s:Stq},lkd x c y→frS s=y→lkd x (c++[s]) (toS s)
 |[],_,_,_,h,e=>⟨e.trans h.symm,rfl⟩
 |_::_,_,_,_,h,e=>⟨h.1,Znl h.2 e⟩
def wyS (a:Rf) (X:List Stq) (i:Nat):Rf:=if i=0 then a else toS (X.getD (i-1) default)
theorem Znm:∀ {X:List Stq} {a b:Rf},lkd a X b→∀ i (hi:i<X.length),frS X[i]=wyS a X i
 |[],_,_,_,i,hi=>by simp at hi
 |x::X,a,b,h,0,_=>h.1
 | x::X,a,b,h,i+1,hi=>by
   have:=Znm h.2 i (by simpa using hi);rw[List.getElem_cons_succ,this];unfold wyS
   cases i with
   |zero=>simp
   |succ i=>simp
theorem Znn:∀ {X:List Stq} {a b:Rf},lkd a X b→wyS a X X.length=b
 |[],_,_,h=>h
 |[x],a,b,h=>h.2
 | x::y::X,a,b,h=>by
   have:=Znn h.2;simp only[wyS,List.length_cons]at this ⊢;simpa using this
theorem Zno {X:List Stq} {a:Rf} {i:Nat} (hi:i<X.length):wyS a X (i+1)=toS X[i]:=by simp[wyS,List.getD_eq_getElem?_getD,hi]
def frL (L:List Stq) (x:Rf) (j:Nat):List Stq:=(L.take j).filter fun s=>decide (frS s=x)
theorem Znp {L:List Stq} {x:Rf} {j:Nat} (hj:j<L.length):frL L x (j+1)=if frS L[j]=x then frL L x j++[L[j]] else frL L x j:=by
 unfold frL;rw[List.take_succ_eq_append_getElem hj,List.filter_append]
 split
 · rename_i e;rw[List.filter_cons_of_pos (by simpa using e)];rfl
 · rename_i e;rw[List.filter_cons_of_neg (by simpa using e)];simp
theorem Znq {L:List Stq} {x:Rf} {j:Nat}:(frL L x j).length≤L.length:=Nat.le_trans (List.length_filter_le _ _) (by simp;omega)
theorem Znr {L:List Stq} {x:Rf} {s:Stq} (h:s∈frL L x L.length):s∈L∧frS s=x:=by
 unfold frL at h;rw[List.take_length]at h;obtain ⟨h1,h2⟩:=List.mem_filter.1 h;exact ⟨h1,by simpa using h2⟩
def wlk (L:List Stq) (a now:Rf) (i:Nat):Prop:=∃ c:List Stq,(∀ s∈c,s∈L)∧lkd a c now∧c.length=i
theorem Zns {L:List Stq} {a now:Rf} {i:Nat} (h:wlk L a now i) {s:Stq} (hs:s∈L) (e:frS s=now):wlk L a (toS s) (i+1):=by
 obtain ⟨c,h1,h2,h3⟩:=h;refine ⟨c++[s],fun x hx=>?_,Znl h2 e,by simp[h3]⟩;rcases List.mem_append.1 hx with hx|hx
 · exact h1 x hx
 · rw[List.mem_singleton]at hx;rw[hx];exact hs
theorem Znt {r:List Iss} {l:List Nte} {q:List Rul} {s:List Int} {m d:Int} (h:Rq r l q s m d) (a b:Rf) :
  (∀ x∈chX (st5 r l q s m d) a b,x∈st5 r l q s m d)∧(mayT (edg (st5 r l q s m d)) a b=true→lkd a (chX (st5 r l q s m d) a b) b)∧(mayT (edg (st5 r l q s m d)) a b=false→chX (st5 r l q s m d) a b=[]) ∧
  (∀ c,(∀ x∈c,x∈st5 r l q s m d)→lkd a c b→mayT (edg (st5 r l q s m d)) a b=true∧(chX (st5 r l q s m d) a b).length≤c.length)∧(chX (st5 r l q s m d) a b).length≤1000:=by
 have hm:mayT (edg (st5 r l q s m d)) a b=(diN (edg (st5 r l q s m d)) b a).isSome:=by
  rw[mayT,Bool.eq_iff_iff,decide_eq_true_eq,ZiR h.e1000]
 have h4:∀ c,(∀ x∈c,x∈st5 r l q s m d)→lkd a c b→mayT (edg (st5 r l q s m d)) a b=true:=fun c h1 h2=>ZmU h.l1000 h1 h2
 unfold chX
 cases e:diN (edg (st5 r l q s m d)) b a with
 | none =>
   rw[e]at hm;simp only[Option.isSome_none]at hm;refine ⟨fun x hx=>(by cases hx),fun h=>(by rw[hm]at h;cases h),fun _=>rfl,fun c h1 h2=>⟨h4 c h1 h2,Nat.zero_le _⟩,by simp⟩
 | some n =>
   rw[e]at hm;simp only[Option.isSome_some]at hm;obtain ⟨g1,g2,g3⟩:=ZmR h.l1000 n e;refine ⟨g2,fun _=>g1,fun h=>(by rw[hm]at h;cases h),fun c h1 h2=>⟨h4 c h1 h2,by rw[g3];exact ZmT e h1 h2⟩,?_⟩;show (chP _ _ _ _).length≤1000;rw[g3];have h1:=ZiN e;have h2:=h.e1000;omega
def cwO (W K:List AV) (n:Rf):List (Nat×AObj):=[(7,.box W),(16,.box K),(23,.box [.int .i64 n.1,.int .i64 n.2])]
def cwT (by_:List Int) (L X:List Stq) (T:Bool):List (Nat×AV):=[(23,.ptr 23 0),(21,.vsl (L.map sa)),(19,.vsl (X.map sa)),(17,.bool T),(16,.ptr 16 0),(15,.bool true),(7,.ptr 7 0),(6,.vsl (by_.map u8R))]
def cw1 (W K:List AV) (by_:List Int) (L X:List Stq) (T:Bool) (a:Rf) (i:Nat):St:=⟨(120,.int .i64 i)::(119,.int .i64 X.length)::(118,.vsl (X.map sa))::cwT by_ L X T,cwO W K (wyS a X i)⟩
def cw2 (W K:List AV) (by_:List Int) (L X:List Stq) (T:Bool) (n:Rf) (x:Stq) (i j:Nat):St:=⟨(126,.int .i64 j)::(125,.int .i64 L.length)::(124,.vsl (L.map sa))::(26,.bool (decide (x∈L.take j)))::(25,.ptr 25 0)::(120,.int .i64 i)::(119,.int .i64 X.length)::(118,.vsl (X.map sa))::cwT by_ L X T,(25,.box (sa x))::cwO W K n⟩
def cw3 (W K:List AV) (by_:List Int) (L X:List Stq) (T:Bool) (x:Nat×Rf):St:=⟨(168,.int .i64 x.1)::(167,.int .i64 by_.length)::(166,.vsl (by_.map u8R))::cwT by_ L X T,cwO W K x.2⟩
def cw4 (W K:List AV) (by_:List Int) (L X:List Stq) (T:Bool) (n:Rf) (i:Nat) (u:Int) (j:Nat):St :=
 ⟨(189,.int .i64 j)::(188,.int .i64 L.length)::(187,.vsl (L.map sa))::(31,if frL L n j=[] then .nils else .osl 200 (frL L n j).length)::(30,.int .u8 u)::(168,.int .i64 i)::(167,.int .i64 by_.length)::(166,.vsl (by_.map u8R))::cwT by_ L X T,
   cwO W K n++if frL L n j=[] then [] else [(200,.row 6 ((frL L n j).map sa))]⟩
theorem Znu (x y:Stq):(decide (x.fd=y.fd)&&(decide (x.fl=y.fl)&&(decide (x.td=y.td)&&(decide (x.tl=y.tl)&&(decide (x.nu=y.nu)&&(x.nt == y.nt))))))=decide (x=y):=by
 rw[Bool.eq_iff_iff]
 cases x;cases y
 simp[Stq.mk.injEq]
section
variable {G:Nat→Option (List AV)}
set_option maxRecDepth 100000 in
set_option maxHeartbeats 4000000 in
theorem Znv (hG:GC G) (hN:GN G) (hQ:GQ G) (r:List Iss) (l:List Nte) (q:List Rul) (t m d a b:Int) (by_:List Int) (hr:∀ x∈r,KOk x) (hl:∀ x∈l,NOk x) (ht:0≤t∧t≤255) (hm:0≤m∧m≤65535) (hd:0≤d∧d≤65535) (ha:0≤a∧a≤255) (hb:0≤b∧b≤255) (hby:∀ n∈by_,0≤n∧n≤255) :
  PC Tryz.prog G 3 [swa r l q,.int .u8 t,.int .u16 m,.int .u16 d,.int .u8 a,.int .u8 b,.vsl (by_.map u8R)] (.bool true):=by
 have hA:=ZmO hG hN hQ;have hrd:=Zmx (G:=G) r l q hr hl
 cases hy:rdB r l q
 · rw[hy]at hrd;unfold swa at *
   (refine Z5Y rfl fun R hG hrd=>Yc Yb 1000 ?_;subst hG)
   simp -implicitDefEqProofs[Z5W,Z5X]
   (first|refine Ye.of (hA) (by simp) ?_|refine Yf.of (hA) (by simp) ?_)
   simp -implicitDefEqProofs[]
   (first|refine Ye.of (hrd) (by simp) ?_|refine Yf.of (hrd) (by simp) ?_)
   simp -implicitDefEqProofs[]
 rw[hy]at hrd;by_cases h60:60<by_.length
 · have h60:(60:Int)<by_.length:=(by omega);unfold swa at *
   (refine Z5Y rfl fun R hG hrd=>Yc Yb 1000 ?_;subst hG)
   simp -implicitDefEqProofs[Z5W,Z5X]
   (first|refine Ye.of (hA) (by simp) ?_|refine Yf.of (hA) (by simp) ?_)
   simp -implicitDefEqProofs[]
   (first|refine Ye.of (hrd) (by simp) ?_|refine Yf.of (hrd) (by simp) ?_)
   simp -implicitDefEqProofs[h60]
 have h60:¬(60:Int)<by_.length:=(by omega);have hq:=ZmV (t:=t) hy hr hl hm.1 hd.1;have hk:=Zmz (G:=G) r l q t m d a b hq.nB hq.wr.1.1 hq.ne ht hm hd ha hb;have mA:=Zmm hq.rne ha.1;have mB:=Zmm hq.rne hb.1;generalize isV r a=A at *;generalize isV r b=B at *;generalize ttV l t=s at *;generalize mcV m=mm at *;generalize dyV d=dd at *;have c1:=hq.may_pc hG hN hQ mA mB;have c2:=hq.chain_pc hG hN hQ mA mB;have c3:=hq.steps_pc hG hN hQ;obtain ⟨f1,f2,f3,f4,f5⟩:=Znt hq A B;have hL:=hq.len;generalize chX (st5 r l q s mm dd) A B=X at *;generalize mayT (edg (st5 r l q s mm dd)) A B=T at *;generalize st5 r l q s mm dd=L at *;have hxl:T=false→X.length=0:=fun h=>by rw[f3 h];rfl
 have hfrom:∀ i (hi:i<X.length),frS X[i]=wyS A X i:=fun i hi=>by
  cases hT:T
  · have:=hxl hT;omega
  · exact Znm (f2 hT) i hi
 have hend:T=true→wyS A X X.length=B:=fun h=>Znn (f2 h)
 unfold swa akA at *
 (refine Z5Y rfl fun R hG hrd=>Yc Yb 1000 ?_;subst hG)
 simp -implicitDefEqProofs[Z5W,Z5X]
 (first|refine Ye.of (hA) (by simp) ?_|refine Yf.of (hA) (by simp) ?_)
 simp -implicitDefEqProofs[]
 (first|refine Ye.of (hrd) (by simp) ?_|refine Yf.of (hrd) (by simp) ?_)
 simp -implicitDefEqProofs[h60]
 (first|refine Ye.of (hk) (by simp) ?_|refine Yf.of (hk) (by simp) ?_)
 simp -implicitDefEqProofs[]
 (first|refine Ye.of (c1) (by simp) ?_|refine Yf.of (c1) (by simp) ?_)
 simp -implicitDefEqProofs[]
 (first|refine Ye.of (c2) (by simp) ?_|refine Yf.of (c2) (by simp) ?_)
 simp -implicitDefEqProofs[]
 (first|refine Ye.of (c3) (by simp) ?_|refine Yf.of (c3) (by simp) ?_)
 cases hT:T
 all_goals
  simp -implicitDefEqProofs[];refine ZaX (cw1 (swC r l q) (akC s mm dd A B) by_ L X T A) (fun _=>True) X.length ?_ trivial ?_ ?_
  · have e0:wyS A X 0=A:=rfl;simp only[cw1,cwT,cwO,swC,akC,e0,hT]
    (refine Yn.sub (by simp[lk,Ya,AV.keys]) ?_;simp only[Wkl,and_true];(try simp[lk,Yd,Ya,AV.keys]))
  · intro i hi _;have wi:IntKind.i64.wrap ((i:Int)+1)=(i:Int)+1:=Yg (by omega) (by omega);have hw:=hfrom i hi;have hs:=Zno (a:=A) hi;have hmem:=f1 _ (List.getElem_mem hi);obtain ⟨x,hx⟩ : ∃ x,x=X[i]:=⟨_,rfl⟩;have hax:sa X[i]=[.int .i64 x.fd,.int .i64 x.fl,.int .i64 x.td,.int .i64 x.tl,.int .i64 x.nu,.bool x.nt]:=(by rw[← hx];rfl);rw[← hx]at hw hs hmem;have hw:wyS A X i=(x.fd,x.fl):=hw.symm;have hs:wyS A X (i+1)=(x.td,x.tl):=hs;have hsx:sa x=[.int .i64 x.fd,.int .i64 x.fl,.int .i64 x.td,.int .i64 x.tl,.int .i64 x.nu,.bool x.nt]:=rfl;refine Yc Yb 1000 ?_;simp -implicitDefEqProofs[cw1,cwT,cwO,swC,akC,hi,hax,hw,wi];refine ZaX (fun j=>cw2 (swC r l q) (akC s mm dd A B) by_ L X T (x.fd,x.fl) x i j) (fun _=>True) L.length ?_ trivial ?_ ?_
    · have e0:decide (x∈L.take 0)=false:=(by simp);simp only[cw2,cwT,cwO,swC,akC,e0,hsx,hT]
      (refine Yn.sub (by simp[lk,Ya,AV.keys]) ?_;simp only[Wkl,and_true];(try simp[lk,Yd,Ya,AV.keys]))
    · intro j hj _;have wj:IntKind.i64.wrap ((j:Int)+1)=(j:Int)+1:=Yg (by omega) (by omega);have tk:decide (x∈L.take (j+1))=(decide (x∈L.take j)||decide (x=L[j])):=Znj hj;have sd:=Znu x L[j];obtain ⟨y,hy⟩ : ∃ y,y=L[j]:=⟨_,rfl⟩;have hay:sa L[j]=[.int .i64 y.fd,.int .i64 y.fl,.int .i64 y.td,.int .i64 y.tl,.int .i64 y.nu,.bool y.nt]:=(by rw[← hy];rfl);rw[← hy]at tk sd;refine Yc Yb 1000 ?_;unfold cw2
      cases e1:decide (x∈L.take j)
      · rw[e1,Bool.false_or]at tk;simp -implicitDefEqProofs[cwT,cwO,swC,akC,hj,hay,hsx,wj,sd];rw[tk]
        (refine Yn.sub (by simp[lk,Ya,AV.keys]) ?_;simp only[Wkl,and_true];(try simp[lk,Yd,Ya,AV.keys]))
      · rw[e1,Bool.true_or]at tk;simp -implicitDefEqProofs[cwT,cwO,swC,akC,hj,hay,hsx,wj];rw[tk]
        (refine Yn.sub (by simp[lk,Ya,AV.keys]) ?_;simp only[Wkl,and_true];(try simp[lk,Yd,Ya,AV.keys]))
    · intro _;have e1:decide (x∈L.take L.length)=true:=(by rw[List.take_length,decide_eq_true_eq];exact hmem);refine Yc Yb 1000 ?_;unfold cw2;rw[e1];simp -implicitDefEqProofs[cwT,cwO,swC,akC,hsx];refine Z2M Yb 1000 ?_;simp -implicitDefEqProofs[wi];simp only[cw1,hs,cwT,cwO,swC,akC,hT]
      (refine Yn.sub (by simp[lk,Ya,AV.keys]) ?_;simp only[Wkl,and_true];(try simp[lk,Yd,Ya,AV.keys]))
  · intro _
    first|have hfin:=hend hT|have hfin:=hxl hT
    refine Yc Yb 1000 ?_;unfold cw1;simp -implicitDefEqProofs[cwT,cwO,swC,akC];refine Z2M Yb 1000 ?_;simp -implicitDefEqProofs[hT,hfin];refine Z1Q (cw3 (swC r l q) (akC s mm dd A B) by_ L X T) (fun x=>x.1≤by_.length∧wlk L A x.2 x.1) (fun x=>by_.length-x.1) (0,A) ?_ ⟨Nat.zero_le _,[],by simp,rfl,rfl⟩ ?_
    · simp only[cw3,cwT,cwO,swC,akC,hT]
      (refine Yn.sub (by simp[lk,Ya,AV.keys]) ?_;simp only[Wkl,and_true];(try simp[lk,Yd,Ya,AV.keys]))
    rintro ⟨i,now⟩ ⟨hi0,hw⟩;simp only at hi0 hw;refine Yc Yb 1000 ?_;by_cases hi:i<by_.length
    case neg =>
     simp -implicitDefEqProofs[cw3,cwT,cwO,swC,akC,hi];refine Z2M Yb 1000 ?_;simp -implicitDefEqProofs[]
    have wi:IntKind.i64.wrap ((i:Int)+1)=((i+1:Nat):Int):=(by rw[Yg (by omega) (by omega)];omega);have hu:=hby _ (List.getElem_mem hi);obtain ⟨u,hu2⟩ : ∃ u,u=by_[i]:=⟨_,rfl⟩;have hub:u8R by_[i]=[.int .u8 u]:=(by rw[← hu2];rfl);rw[← hu2]at hu
    obtain ⟨b0,e1,hb0⟩ : ∃ b0,(decide (now.1=B.1)&&decide (now.2=B.2))=b0∧(b0=true→T=true∧¬(i:Int)<X.length):=⟨_,rfl,fun h=>by
     simp only[Bool.and_eq_true,decide_eq_true_eq]at h;obtain ⟨c,g1,g2,g3⟩:=hw;obtain ⟨g4,g5⟩:=f4 c g1 ((Prod.ext h.1 h.2:now=B) ▸ g2);exact ⟨g4,by omega⟩⟩
    have hl100:L.length≤100:=hL
    cases b0
    case' false=>simp -implicitDefEqProofs[cw3,cwT,cwO,swC,akC,hi,hub,e1]
    case' true =>
     obtain ⟨hT2,hlt⟩:=hb0 rfl
     first
      |(rw[hT]at hT2;cases hT2;done)
      |simp -implicitDefEqProofs[cw3,cwT,cwO,swC,akC,hi,hub,e1,hT2,hlt]
    all_goals
     refine ZaX (cw4 (swC r l q) (akC s mm dd A B) by_ L X T now i u) (fun _=>True) L.length ?_ trivial ?_ ?_
     · have e0:frL L now 0=[]:=rfl;simp only[cw4,e0,if_true,List.append_nil,cwT,cwO,swC,akC,hT]
       (refine Yn.sub (by simp[lk,Ya,AV.keys]) ?_;simp only[Wkl,and_true];(try simp[lk,Yd,Ya,AV.keys]))
     · intro j hj _;have wj:IntKind.i64.wrap ((j:Int)+1)=(j:Int)+1:=Yg (by omega) (by omega);have sc:=Znp (x:=now) hj;have bl:=Znq (L:=L) (x:=now) (j:=j);obtain ⟨y,hy⟩ : ∃ y,y=L[j]:=⟨_,rfl⟩;have hay:sa L[j]=[.int .i64 y.fd,.int .i64 y.fl,.int .i64 y.td,.int .i64 y.tl,.int .i64 y.nu,.bool y.nt]:=(by rw[← hy];rfl);have hsy:sa y=[.int .i64 y.fd,.int .i64 y.fl,.int .i64 y.td,.int .i64 y.tl,.int .i64 y.nu,.bool y.nt]:=rfl;rw[← hy]at sc
       have ey:(decide (y.fd=now.1)&&decide (y.fl=now.2))=decide (frS y=now):=by
        rw[Bool.eq_iff_iff,Bool.and_eq_true,decide_eq_true_eq,decide_eq_true_eq,decide_eq_true_eq,Prod.ext_iff];rfl
       refine Yc Yb 1000 ?_;unfold cw4;generalize frL L now j=M at *;have b1:=sixB M.length (by omega);by_cases hf:frS y=now
       · rw[if_pos hf]at sc;rw[decide_eq_true hf]at ey;have ne:M++[y]≠[]:=(by simp);by_cases hM0:M=[]
         · rw[hM0]at sc;simp only[hM0,if_true,List.append_nil];simp -implicitDefEqProofs[cwT,cwO,swC,akC,hj,hay,ey,wj];rw[sc];simp only[List.nil_append,List.length_cons,List.length_nil,List.map_cons,List.map_nil,List.cons_ne_nil,if_false,hsy]
           (refine Yn.sub (by simp[lk,Ya,AV.keys]) ?_;simp only[Wkl,and_true];(try simp[lk,Yd,Ya,AV.keys]))
         · simp only[hM0,if_false];simp -implicitDefEqProofs[cwT,cwO,swC,akC,hj,hay,ey,wj,b1];have e5:(M++[y]).map sa=M.map sa++[[.int .i64 y.fd,.int .i64 y.fl,.int .i64 y.td,.int .i64 y.tl,.int .i64 y.nu,.bool y.nt]]:=(by rw[List.map_append];rfl);have e6:(M++[y]).length=M.length+1:=(by simp);rw[sc];simp only[ne,if_false,e6];rw[← e5]
           (refine Yn.sub (by simp[lk,Ya,AV.keys]) ?_;simp only[Wkl,ZhN,and_true];(try simp[lk,Yd,Ya,AV.keys]))
       · rw[if_neg hf]at sc;rw[decide_eq_false hf]at ey;by_cases hM0:M=[]
         · rw[hM0]at sc;simp only[hM0,if_true,List.append_nil];simp -implicitDefEqProofs[cwT,cwO,swC,akC,hj,hay,ey,wj];rw[sc];simp only[if_true,List.append_nil]
           (refine Yn.sub (by simp[lk,Ya,AV.keys]) ?_;simp only[Wkl,and_true];(try simp[lk,Yd,Ya,AV.keys]))
         · simp only[hM0,if_false];simp -implicitDefEqProofs[cwT,cwO,swC,akC,hj,hay,ey,wj];rw[sc];simp only[hM0,if_false]
           (refine Yn.sub (by simp[lk,Ya,AV.keys]) ?_;simp only[Wkl,ZhN,and_true];(try simp[lk,Yd,Ya,AV.keys]))
     · intro _;have hmem:=fun s (h:s∈frL L now L.length)=>Znr h
       have bl:=Znq (L:=L) (x:=now) (j:=L.length);refine Yc Yb 1000 ?_;unfold cw4;generalize frL L now L.length=M at *;by_cases hM0:M=[]
       · simp only[hM0,if_true,List.append_nil];simp -implicitDefEqProofs[cwT,cwO,swC,akC];refine Z2M Yb 1000 ?_;simp -implicitDefEqProofs[];refine Z2M Yb 1000 ?_;simp -implicitDefEqProofs[]
       · have hm0:¬M.length=0:=fun e=>hM0 (List.length_eq_zero_iff.1 e)
         have hm1:¬(M.length:Int)=0:=(by omega);have b:=Zmj (b:=M.length) hu.1 (by omega);have w1:IntKind.i64.wrap u=u:=Yg (by omega) (by omega);have hk:(u.tmod M.length).toNat<M.length:=(by omega);simp only[hM0,if_false];simp -implicitDefEqProofs[cwT,cwO,swC,akC];refine Z2M Yb 1000 ?_;obtain ⟨y,hy⟩ : ∃ y,y=M[(u.tmod M.length).toNat]:=⟨_,rfl⟩;have hsM:sa M[(u.tmod M.length).toNat]=[.int .i64 y.fd,.int .i64 y.fl,.int .i64 y.td,.int .i64 y.tl,.int .i64 y.nu,.bool y.nt]:=(by rw[← hy];rfl);have hyM:=hmem y (by rw[hy];exact List.getElem_mem hk);simp -implicitDefEqProofs[hm0,hm1,w1,b.1,b.2,hk,hsM,wi];refine ⟨(i+1,(y.td,y.tl)),?_,⟨hi,Zns hw hyM.1 hyM.2⟩,(by show by_.length-(i+1)<by_.length-i;omega)⟩;simp only[cw3,cwT,cwO,swC,akC,hT]
         (refine Yn.sub (by simp[lk,Ya,AV.keys]) ?_;simp only[Wkl,and_true];(try simp[lk,Yd,Ya,AV.keys]))
end
end Go.Proofs.YtjogcghofinemaaGreatDoor
