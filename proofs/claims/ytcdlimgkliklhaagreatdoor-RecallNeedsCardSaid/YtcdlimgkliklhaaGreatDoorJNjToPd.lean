/-
  What the program's functions on notes compute: what is in force.
-/
import Derived.Test.YtcdlimgkliklhaaGreatDoorJEfToGf
import Derived.Test.YtcdlimgkliklhaaGreatDoorJAmLToAmX
import Derived.Test.YtcdlimgkliklhaaGreatDoorProg
import Derived.Test.YtcdlimgkliklhaaGreatDoorJRcbToEe
import Derived.Test.YtcdlimgkliklhaaGreatDoorJRegToAmE
set_option linter.all false
set_option linter.unusedSimpArgs false
set_option linter.unusedVariables false
set_option linter.unusedSectionVars false
namespace Go.Proofs.YtcdlimgkliklhaaGreatDoor
open Go.RowKit
def ifK (s w:List Int) (m:Int) (l:List Nte):Nat->Nat->List (Int×Bool)->List (Int×Bool)
 |0,_,K=>K
 |n+1,i,K=>if (mlk (i:Int) K).isSome=true then K else mpP (i:Int) (fB s w m l i) ((List.range (l.length-(i+1))).foldl (λK j=>if (gwB (bsF s w m) (λx y=>decide (y.ca=x.nu)) l (nAt l i) i (i+1+j)&&decide ((nAt l (i+1+j)).ca=(nAt l i).nu))=true then ifK s w m l n (i+1+j) K else K) K)
def stK (s w:List Int) (m:Int) (l:List Nte) (n i:Nat) (K:List (Int×Bool)) (j:Nat):List (Int×Bool):=if (gwB (bsF s w m) (λx y=>decide (y.ca=x.nu)) l (nAt l i) i (i+1+j)&&decide ((nAt l (i+1+j)).ca=(nAt l i).nu))=true then ifK s w m l n (i+1+j) K else K
def lpK (s w:List Int) (m:Int) (l:List Nte) (n i:Nat) (K:List (Int×Bool)) (j:Nat):List (Int×Bool):=(List.range j).foldl (stK s w m l n i) K
theorem Zfr {s w:List Int} {m:Int} {l:List Nte} {n i:Nat} {K:List (Int×Bool)}:ifK s w m l (n+1) i K=if (mlk (i:Int) K).isSome=true then K else mpP (i:Int) (fB s w m l i) (lpK s w m l n i K (l.length-(i+1))):=rfl
theorem Zfs {s w:List Int} {m:Int} {l:List Nte} {n i j:Nat} {K:List (Int×Bool)}:lpK s w m l n i K (j+1)=stK s w m l n i (lpK s w m l n i K j) j:=by rw[lpK,List.range_succ,List.foldl_append];rfl
def OkK (s w:List Int) (m:Int) (l:List Nte) (K:List (Int×Bool)):Prop:=∀ (i:Nat) (b:Bool),mlk (i:Int) K=some b->b=fB s w m l i
theorem Zft {s w:List Int} {m:Int} {l:List Nte}:∀ (n i:Nat) {K:List (Int×Bool)},OkK s w m l K->OkK s w m l (ifK s w m l n i K)
 |0,_,_,h=>h
 | n + 1,i,K,h=>by
   rw[Zfr]
   split
   . exact h
   . have key:∀ j,OkK s w m l (lpK s w m l n i K j):=by
      intro j
      induction j with
      |zero=>exact h
      | succ j ih =>
        rw[Zfs,stK]
        split
        . exact Zft n _ ih
        . exact ih
     intro k b hb;rw[Zfo]at hb
     split at hb
     . rename_i e;have e:k=i:=(by omega);subst e;exact (Option.some.inj hb).symm
     . exact key _ k b hb
theorem Zfu {s w:List Int} {m:Int} {l:List Nte} {n i:Nat} {K:List (Int×Bool)} (h:OkK s w m l K):∀ j,OkK s w m l (lpK s w m l n i K j)
 |0=>h
 | j+1=>by
   rw[Zfs,stK]
   split
   . exact Zft n _ (Zfu h j)
   . exact Zfu h j
theorem Zfv {α:Type} {p:α->Bool} {h:α->α->Bool} {l:List α} {x:α} {i:Nat}:∀ {k j:Nat},i<k->k<=j->j<=l.length->gwB p h l x i k=false->gwB p h l x i j=false
 |k,0,h1,h2,_,_=>by omega
 | k,j+1,h1,h2,h3,h4=>by
   rcases Nat.lt_or_ge k (j+1) with h5|h5
   . rw[ZcB (by omega) (by omega),Zfv h1 (by omega:k<=j) (by omega) h4];rfl
   . obtain rfl:k=j+1:=(by omega);exact h4
theorem Zfw {s w:List Int} {m:Int} {l:List Nte} {n i:Nat} {K:List (Int×Bool)} {j:Nat} (hj:gwB (bsF s w m) (λx y=>decide (y.ca=x.nu)) l (nAt l i) i (i+1+j)=false):∀ j',j<=j'->i+1+j'<=l.length->lpK s w m l n i K j'=lpK s w m l n i K j
 | 0, h, _ => by obtain rfl:j=0:=by omega
                 rfl
 | j'+1,h,h2=>by
   rcases Nat.lt_or_ge j (j'+1) with h5|h5
   . rw[Zfs,stK,Zfv (by omega) (by omega:i+1+j<=i+1+j') (by omega) hj];exact Zfw hj j' (by omega) (by omega)
   . obtain rfl:j=j'+1:=(by omega);rfl
theorem Zfx (o:List (Nat×AObj)) (l:List (Int×Bool)):Yc o (.mp (mpA AV.bool l))=true:=by
 simp only[Yc,List.all_eq_true,mpA,List.mem_map];rintro _ ⟨y,-,rfl⟩;simp[Ya,AV.keys]
theorem Zfy (ρ:Nat->Nat) (l:List (Int×Bool)):(mpA AV.bool l).map (λp=>(p.1.ren ρ,p.2.ren ρ))=mpA AV.bool l:=by
 simp[mpA,Function.comp_def,AV.ren]
theorem Zfz (ok:Nat->Bool) (st:St) (l:List (Int×Bool)):frzO ok st (.mp (mpA AV.bool l)) = .mp (mpA AV.bool l):=by
 simp only[frzO,mpA,List.map_map]
 congr 1
 refine List.map_congr_left λp _=>?_
 simp[frzA,frz,AV.keys]
def fcO (F sV wV:AV) (m:Int) (K:List (Int×Bool)):List (Nat×AObj) :=
 [(1009,.box [.mp 1011]),(1004,.box [F]),(1005,.box [sV]),(1006,.box [wV]),(1007,.box [.int .i64 m]),(1010,.box [.func (.func 162) [] [.ptr 1009 0,.ptr 1004 0,.ptr 1005 0,.ptr 1006 0,.ptr 1007 0,.ptr 1010 0]]),(1011,.mp (mpA AV.bool K))]
def fcC:List AV:=[.ptr 1009 0,.ptr 1004 0,.ptr 1005 0,.ptr 1006 0,.ptr 1007 0,.ptr 1010 0]
section
variable {G:Nat->Option (List AV)}
def liA (nl:Bool) (s:List Int):AV:=if nl=true/\s=[] then .nils else .vsl (s.map ia)
theorem ZfA (nl:Bool) (s:List Int):(liA nl s).pure=true:=by unfold liA;split <;> simp[AV.pure,ia]
theorem ZfB (nl:Bool) (s:List Int):(liA nl s).keys=[]:=by unfold liA;split <;> simp[AV.keys]
theorem ZfC (ok:Nat->Bool) (st:St) (nl:Bool) (s:List Int):frz ok st 6 (liA nl s)=some (liA nl s):=by unfold liA;split <;> simp[frz,AV.keys]
theorem ZfD (ρ:Nat->Nat) (nl:Bool) (s:List Int):(liA nl s).ren ρ=liA nl s:=by unfold liA;split <;> simp[AV.ren]
theorem ZfE (ok:Nat->Bool) (st:St) (xs:List AV):frzO ok st (.box xs) = .box (xs.map (frzA ok st)):=rfl
theorem ZfF (n:Int):PC Tryz.prog G 87 [.nils,.int .i64 n] (.bool false):=by
 have hi:PC Tryz.prog G 129 [.nils,.int .i64 n] (.int .i64 (-1)):=by
  (refine Zea rfl λR hG hrd=>Qga ?_;subst hG)
  simp -implicitDefEqProofs[Ze8,Ze9];refine Z9v (λi=>⟨[(8,.int .i64 i),(7,.int .i64 0)],[]⟩) (λi=>True) 0 (by (first|exact Ym.tm (by simp[lk])|exact Ym.sub (by simp[lk,Ya,AV.keys]) (by simp[lk,Yc,Ya,AV.keys]))) trivial (λi hi=>by omega) ?_;intro _;refine Qga ?_;simp -implicitDefEqProofs[];refine Qgr ?_;simp -implicitDefEqProofs[]
 (refine Ze7 rfl λR hG hrd=>Qga ?_;subst hG)
 simp -implicitDefEqProofs[Ze5,Ze6];refine Qco (hi) (by simp) ?_;simp -implicitDefEqProofs[]
theorem ZfG (nl:Bool) (s:List Int) (n:Int) (h:Sml s):PC Tryz.prog G 87 [liA nl s,.int .i64 n] (.bool (decide (n∈s))):=by
 unfold liA
 split
 . rename_i e;rw[e.2];exact ZfF n
 . exact Zfc s n h
set_option maxHeartbeats 4000000 in
theorem is_pb (r:List Iss) (l:List Nte) (ns nw:Bool) (s w:List Int) (m:Int) (hl:l.length<=12) (hs:Sml s) (hw:Sml w):∀ (n i:Nat) (K:List (Int×Bool)),i<l.length->l.length-i<=n->OkK s w m l K ->
  PB Tryz.prog G 162 (fcO (fileA r l) (liA ns s) (liA nw w) m K) (.int .i64 i::fcC) (.bool (fB s w m l i)) (fcO (fileA r l) (liA ns s) (liA nw w) m (ifK s w m l n i K))
 |0,i,K,hi,hn,_=>by omega
 | n + 1, i, K,hi,hn,hK=>by
   have hrec:=λk K h1 h2 h3=>is_pb r l ns nw s w m hl hs hw n k K h1 h2 h3
   have gK:=Zfg AV.bool (i:Int) K;have hx:=Zct hi;have c1:=ZfG (G:=G) ns s (nAt l i).nu hs;have c2:=ZfG (G:=G) nw w (nAt l i).nu hw;have c3:=ZeA (G:=G) (nAt l i).fr (nAt l i).tu m;have fe:=Zcz (p:=bsF s w m) (h:=λx y:Nte=>decide (y.ca=x.nu)) hi;have k1:=ZfB ns s;have k2:=ZfB nw w;have p1:=ZfA ns s;have p2:=ZfA nw w;have r1:=λρ=>ZfD ρ ns s
   have r2:=λρ=>ZfD ρ nw w
   have f1:=λok st=>ZfC ok st ns s
   have f2:=λok st=>ZfC ok st nw w
   rw[Zfr];generalize liA ns s=sV at *;generalize liA nw w=wV at *;have hF:fileA r l = .vptr [.vsl (r.map isa),.vsl (l.map na),.vsl ((nums r).map ia),opA l] 0:=rfl;have fF:∀ ok st,frz ok st 6 (fileA r l)=some (fileA r l):=λok st=>by rw[hF];simp[frz,AV.keys]
   have kF:(fileA r l).keys=[]:=(by rw[hF];simp[AV.keys]);refine ZdY (Nat.le_of_ble_eq_true rfl) λR hG hrd=>?_
   subst hG
   cases q:mlk (i:Int) K with
   | some b =>
     have eb:=hK i b q;rw[q]at gK;refine Qga ?_;simp -implicitDefEqProofs[ZdW,ZdX,fcO,fcC,gK,eb];simp -implicitDefEqProofs[FinB,Yi,newK,Zfz,ZfE,frzA,frz,fF,f1,f2,tupV,Z29,ZdX]
   | none =>
     rw[q]at gK;have hna:na (nAt l i)=[.int .i64 (nAt l i).nu,.int .i64 (nAt l i).dy,.int .u8 (nAt l i).sg,.int .i64 (nAt l i).dr,.int .i64 (nAt l i).lt,.int .i64 (nAt l i).fr,.int .i64 (nAt l i).tu,.int .i64 (nAt l i).ca,.bool (nAt l i).up,.int .u8 (nAt l i).wy]:=rfl;rw[<- hx]at fe;have lok:=λj=>Zfu (n:=n) (i:=i) hK j
     have lsu:=λj=>Zfs (s:=s) (w:=w) (m:=m) (l:=l) (n:=n) (i:=i) (j:=j) (K:=K)
     have lst:=λj=>Zfw (s:=s) (w:=w) (m:=m) (l:=l) (n:=n) (i:=i) (K:=K) (j:=j)
     unfold stK at lsu;have gb:=ZcA (p:=bsF s w m) (h:=λx y:Nte=>decide (y.ca=x.nu)) (l:=l) (x:=nAt l i) (i:=i);have gs:=λk=>ZcB (p:=bsF s w m) (h:=λx y:Nte=>decide (y.ca=x.nu)) (l:=l) (x:=nAt l i) (i:=i) (k:=k)
     have gst:=λk j (h1:i<k) (h2:k<=j) (h3:j<=l.length)=>Zfv (p:=bsF s w m) (h:=λx y:Nte=>decide (y.ca=x.nu)) (l:=l) (x:=nAt l i) h1 h2 h3
     have fbs:fB s w m l i=gwB (bsF s w m) (λx y=>decide (y.ca=x.nu)) l (nAt l i) i l.length:=fe;rw[fbs];have pm:=λb K=>Zfq AV.bool (i:Int) b K
     generalize hxx:nAt l i=x at *;have hlx:l[i]=x:=hx.symm;unfold ZdW;refine ZcF (S:=⟨[(0,.int .i64 i),(1,.ptr 1009 0),(2,.ptr 1004 0),(3,.ptr 1005 0),(4,.ptr 1006 0),(5,.ptr 1007 0),(6,.ptr 1010 0)],fcO (.vptr [.vsl (r.map isa),.vsl (l.map na),.vsl ((nums r).map ia),opA l] 0) sV wV m K⟩) (Qga ?_) ?_
     . simp -implicitDefEqProofs[fcO,fcC,hF]
       ((try simp only[Zfx,k1,k2]);refine Ym.sub (by simp[lk,Ya,AV.keys,Zfx,k1,k2]) ?_;simp only[Zfx,k1,k2,Wkl,and_true];(try simp[lk,Yc,Ya,AV.keys,Zfx,k1,k2]))
     refine ZcF (S:=⟨[(0,.int .i64 i),(1,.ptr 1009 0),(2,.ptr 1004 0),(3,.ptr 1005 0),(4,.ptr 1006 0),(5,.ptr 1007 0),(6,.ptr 1010 0)],fcO (.vptr [.vsl (r.map isa),.vsl (l.map na),.vsl ((nums r).map ia),opA l] 0) sV wV m K⟩) (Qga ?_) ?_
     . simp -implicitDefEqProofs[fcO,gK]
       ((try simp only[Zfx,k1,k2]);refine Ym.sub (by simp[lk,Ya,AV.keys,Zfx,k1,k2]) ?_;simp only[Zfx,k1,k2,Wkl,and_true];(try simp[lk,Yc,Ya,AV.keys,Zfx,k1,k2]))
     refine ZcF (S:=⟨[(0,.int .i64 i),(1,.ptr 1009 0),(2,.ptr 1004 0),(3,.ptr 1005 0),(4,.ptr 1006 0),(5,.ptr 1007 0),(6,.ptr 1010 0),(11,.ptr 11 0)],(11,.box (na x))::fcO (.vptr [.vsl (r.map isa),.vsl (l.map na),.vsl ((nums r).map ia),opA l] 0) sV wV m K⟩) (Qga ?_) ?_
     . simp -implicitDefEqProofs[fcO,hi,hlx,hna]
       ((try simp only[Zfx,k1,k2,hna]);refine Ym.sub (by simp[lk,Ya,AV.keys,Zfx,k1,k2,hna]) ?_;simp only[Zfx,k1,k2,hna,Wkl,and_true];(try simp[lk,Yc,Ya,AV.keys,Zfx,k1,k2,hna]))
     refine ZcF (S:=⟨[(0,.int .i64 i),(1,.ptr 1009 0),(2,.ptr 1004 0),(3,.ptr 1005 0),(4,.ptr 1006 0),(5,.ptr 1007 0),(6,.ptr 1010 0),(11,.ptr 11 0),(12,.bool (bsF s w m x))],(11,.box (na x))::fcO (.vptr [.vsl (r.map isa),.vsl (l.map na),.vsl ((nums r).map ia),opA l] 0) sV wV m K⟩) (Qga ?_) ?_
     . unfold bsF;have go3:∀ b:Bool,(decide (x.sg=2)||decide (x.nu∈s))=b->True:=λ_ _=>trivial
       by_cases e1:x.sg=2
       . simp -implicitDefEqProofs[fcO,hna,e1,p1,p2];refine Yd.of c2 (by simp[p2,AV.pure]) ?_;by_cases e2:x.nu∈w
         . simp -implicitDefEqProofs[e2,p1,p2]
           ((try simp only[Zfx,k1,k2,fcO]);refine Ym.sub (by simp[lk,Ya,AV.keys,Zfx,k1,k2,fcO]) ?_;simp only[Zfx,k1,k2,fcO,Wkl,and_true];(try simp[lk,Yc,Ya,AV.keys,Zfx,k1,k2,fcO]))
         . simp -implicitDefEqProofs[e2,p1,p2];refine Qco (c3) (by simp) ?_;simp -implicitDefEqProofs[]
           ((try simp only[Zfx,k1,k2,fcO]);refine Ym.sub (by simp[lk,Ya,AV.keys,Zfx,k1,k2,fcO]) ?_;simp only[Zfx,k1,k2,fcO,Wkl,and_true];(try simp[lk,Yc,Ya,AV.keys,Zfx,k1,k2,fcO]))
       . simp -implicitDefEqProofs[fcO,hna,e1,p1,p2];refine Yd.of c1 (by simp[p1,AV.pure]) ?_;by_cases e3:x.nu∈s
         . simp -implicitDefEqProofs[e3,p1,p2];refine Yd.of c2 (by simp[p2,AV.pure]) ?_;by_cases e2:x.nu∈w
           . simp -implicitDefEqProofs[e2,p1,p2]
             ((try simp only[Zfx,k1,k2,fcO]);refine Ym.sub (by simp[lk,Ya,AV.keys,Zfx,k1,k2,fcO]) ?_;simp only[Zfx,k1,k2,fcO,Wkl,and_true];(try simp[lk,Yc,Ya,AV.keys,Zfx,k1,k2,fcO]))
           . simp -implicitDefEqProofs[e2,p1,p2];refine Qco (c3) (by simp) ?_;simp -implicitDefEqProofs[]
             ((try simp only[Zfx,k1,k2,fcO]);refine Ym.sub (by simp[lk,Ya,AV.keys,Zfx,k1,k2,fcO]) ?_;simp only[Zfx,k1,k2,fcO,Wkl,and_true];(try simp[lk,Yc,Ya,AV.keys,Zfx,k1,k2,fcO]))
         . simp -implicitDefEqProofs[e3,p1,p2]
           ((try simp only[Zfx,k1,k2,fcO]);refine Ym.sub (by simp[lk,Ya,AV.keys,Zfx,k1,k2,fcO]) ?_;simp only[Zfx,k1,k2,fcO,Wkl,and_true];(try simp[lk,Yc,Ya,AV.keys,Zfx,k1,k2,fcO]))
     rw[<- gb];have w1:IntKind.i64.wrap ((i:Int)+1)=((i+1:Nat):Int):=Yf (by omega) (by omega);refine ZcF (S:=⟨[(0,.int .i64 i),(1,.ptr 1009 0),(12,.bool (gwB (bsF s w m) (λx y=>decide (y.ca=x.nu)) l x i l.length))],fcO (.vptr [.vsl (r.map isa),.vsl (l.map na),.vsl ((nums r).map ia),opA l] 0) sV wV m (lpK s w m l n i K (l.length-(i+1)))⟩) (Qga ?_) ?_
     . simp -implicitDefEqProofs[w1];refine Z1Q (λk=>⟨[(0,.int .i64 i),(1,.ptr 1009 0),(2,.ptr 1004 0),(3,.ptr 1005 0),(4,.ptr 1006 0),(5,.ptr 1007 0),(6,.ptr 1010 0),(11,.ptr 11 0),(12,.bool (gwB (bsF s w m) (λx y=>decide (y.ca=x.nu)) l x i k)),(13,.int .i64 (k:Int))],(11,.box (na x))::fcO (.vptr [.vsl (r.map isa),.vsl (l.map na),.vsl ((nums r).map ia),opA l] 0) sV wV m (lpK s w m l n i K (k-(i+1)))⟩) (λk=>i+1<=k/\k<=l.length) (λk=>l.length-k) (i+1) (by ((try simp only[Zfx,k1,k2,fcO,lpK,List.range_zero,List.foldl_nil,hna,Nat.sub_self]);refine Ym.sub (by simp[lk,Ya,AV.keys,Zfx,k1,k2,fcO,lpK,List.range_zero,List.foldl_nil,hna,Nat.sub_self]) ?_;simp only[Zfx,k1,k2,fcO,lpK,List.range_zero,List.foldl_nil,hna,Nat.sub_self,Wkl,and_true];(try simp[lk,Yc,Ya,AV.keys,Zfx,k1,k2,fcO,lpK,List.range_zero,List.foldl_nil,hna,Nat.sub_self]))) ⟨by omega,by omega⟩ ?_;rintro k ⟨hk1,hk2⟩;have gst':=gst k l.length hk1 hk2 (Nat.le_refl _);have lst':=lst (k-(i+1)) ;rw[show i+1+(k-(i+1))=k by omega]at lst';by_cases hb:gwB (bsF s w m) (λx y=>decide (y.ca=x.nu)) l x i k=true
       . rcases Nat.lt_or_ge k l.length with h5|h5
         . have w2:IntKind.i64.wrap ((k:Int)+1)=(((k+1:Nat)):Int):=(by rw[Yf (by omega) (by omega)];omega);have hnj:na (nAt l k)=[.int .i64 (nAt l k).nu,.int .i64 (nAt l k).dy,.int .u8 (nAt l k).sg,.int .i64 (nAt l k).dr,.int .i64 (nAt l k).lt,.int .i64 (nAt l k).fr,.int .i64 (nAt l k).tu,.int .i64 (nAt l k).ca,.bool (nAt l k).up,.int .u8 (nAt l k).wy]:=rfl;have hy:=Zct h5;have hg:=gs k (by omega) h5;have hr:=hrec k (lpK s w m l n i K (k-(i+1))) h5 (by omega) (lok _);have hls:=lsu (k-(i+1));rw[show i+1+(k-(i+1))=k by omega,show k-(i+1)+1=k+1-(i+1) by omega]at hls;rw[hb,Bool.true_and]at hg hls;rw[<- hy]at hg;change _ = !(fB s w m l k&&_) at hg;generalize hyy:nAt l k=y at *;have hly:l[k]=y:=hy.symm;by_cases h6:y.ca=x.nu
           . simp only[h6,decide_true,Bool.and_true,if_true]at hg hls;rw[fcO,hF]at hr;refine Yb mixed 9 ?_;simp -implicitDefEqProofs[hb,h5,hna,h6,fcO,hly,hnj];refine GO0 (Z5j mixed 15 (by decide) ?_);simp -implicitDefEqProofs[hb,h5,hna,h6,fcO,hly,hnj];refine ⟨rfl,Yd.sem (Z1B.byref hr id (by simp) (by simp) (by simp[St.get,lk,AV.ren,AObj.ren,Zfy,r1,r2]) (by simp only[List.mem_cons,List.not_mem_nil,or_false,forall_eq_or_imp,forall_eq,Zfx,and_true];simp[lk,Yc,Ya,AV.keys,k1,k2]) (by simp[Ya,AV.keys,lk,rega,fcC]) rfl (by simp[AV.ren,rega,fcC]) rfl rfl) ?_⟩;simp -implicitDefEqProofs[Yl,fcO,AV.ren,AObj.ren,Zfy,r1,r2];refine Qgr ?_;simp -implicitDefEqProofs[w2];refine ⟨k+1,?_,⟨by omega,by omega⟩,(by show l.length-(k+1)<l.length-k;omega)⟩;simp only[hg,hls]
             ((try simp only[Zfx,k1,k2,hna]);refine Ym.sub (by simp[lk,Ya,AV.keys,Zfx,k1,k2,hna]) ?_;simp only[Zfx,k1,k2,hna,Wkl,and_true];(try simp[lk,Yc,Ya,AV.keys,Zfx,k1,k2,hna]))
           . simp only[h6,decide_false,Bool.and_false,Bool.not_false,Bool.false_eq_true,if_false]at hg hls;refine Qga ?_;simp -implicitDefEqProofs[hb,h5,hna,h6,fcO,hly,hnj,w2];refine ⟨rfl,k+1,?_,⟨by omega,by omega⟩,(by show l.length-(k+1)<l.length-k;omega)⟩;simp only[hg,hls]
             ((try simp only[Zfx,k1,k2,hna]);refine Ym.sub (by simp[lk,Ya,AV.keys,Zfx,k1,k2,hna]) ?_;simp only[Zfx,k1,k2,hna,Wkl,and_true];(try simp[lk,Yc,Ya,AV.keys,Zfx,k1,k2,hna]))
         . obtain rfl:k=l.length:=(by omega);refine Qga ?_;simp -implicitDefEqProofs[hb,fcO];refine Qgr ?_;simp -implicitDefEqProofs[]
           ((try simp only[Zfx,k1,k2,hna]);refine Ym.sub (by simp[lk,Ya,AV.keys,Zfx,k1,k2,hna]) ?_;simp only[Zfx,k1,k2,hna,Wkl,and_true];(try simp[lk,Yc,Ya,AV.keys,Zfx,k1,k2,hna]))
       . have hb:gwB (bsF s w m) (λx y=>decide (y.ca=x.nu)) l x i k=false:=(by simpa using hb);have e1:=lst' hb (l.length-(i+1)) (by omega) (by omega);rw[e1,gst' hb];refine Qga ?_;simp -implicitDefEqProofs[hb,fcO];refine Qgr ?_;simp -implicitDefEqProofs[]
         ((try simp only[Zfx,k1,k2,hna]);refine Ym.sub (by simp[lk,Ya,AV.keys,Zfx,k1,k2,hna]) ?_;simp only[Zfx,k1,k2,hna,Wkl,and_true];(try simp[lk,Yc,Ya,AV.keys,Zfx,k1,k2,hna]))
     refine Qga ?_;have pm':=pm (gwB (bsF s w m) (λx y=>decide (y.ca=x.nu)) l x i l.length) (lpK s w m l n i K (l.length-(i+1)));simp -implicitDefEqProofs[fcO,pm'];simp -implicitDefEqProofs[FinB,Yi,newK,Zfz,ZfE,frzA,frz,hF,f1,f2,tupV,Z29,ZdX]
end
theorem ZfH {r:List Iss} {l:List Nte} (h:Zcw r l=true):(l.map (·.nu)).Nodup:=by
 simp only[Zcw,Bool.and_eq_true]at h;have h1:=Z9R.1 h.1.2;rw[List.nodup_iff_pairwise_ne,List.pairwise_map,List.pairwise_iff_getElem];intro i j hi hj hij e;have h2:=h1 j hj;simp only[noteB,Bool.and_eq_true]at h2;have h3:=h2.1.2;simp only[cN7,Bool.not_eq_true',List.any_eq_false]at h3;refine h3 l[i] (List.mem_take_iff_getElem.2 ⟨i,by omega,rfl⟩) ?_;rw[Zct hj];simpa using e
theorem ZfI {r:List Iss} {l:List Nte} (h:Zcw r l=true):(opU l).Nodup/\(opU l).length<=12:=by
 refine ⟨?_,?_⟩
 . exact List.Sublist.nodup (by unfold opU opN;rw[List.take_length];exact (List.filter_sublist).map _) (ZfH h)
 . simp only[Zcw,Bool.and_eq_true,decide_eq_true_eq]at h;have:=h.2;unfold opU;rw[List.length_map];omega
section
variable {G:Nat->Option (List AV)}
theorem ZfJ (r:List Iss) (l:List Nte):(fileA r l).pure=true:=by unfold fileA opA;split <;> simp[AV.pure,isa,na]
theorem ZfK (ok:Nat->Bool) (st:St) (r:List Iss) (l:List Nte):Yh ok st 6 (fileA r l)=some (fileA r l):=by
 have h:=ZfJ r l;unfold fileA at *;simp[Yh,h]
theorem ZfL (r:List Iss) (l:List Nte):(fileA r l).one=true:=by unfold fileA;simp[AV.one,AV.known]
theorem ZfM (hG:GC G) (hN:GN G) (r:List Iss) (l:List Nte) (hw:WfN l) (hr:Wf r):PC Tryz.prog G 130 [.agg [.vsl (r.map isa),.vsl (l.map na)]] (.int .i64 (chN r l)):=by
 have ho:=Zf5 hG hN r l hw hr;unfold opdA at ho
 (refine ZdN rfl λR hG hrd=>Qga ?_;subst hG)
 simp -implicitDefEqProofs[ZdL,ZdM];refine Qco (ho) (by simp) ?_;simp -implicitDefEqProofs[]
def askA (r:List Iss) (l:List Nte) (s:List Int) (m:Int):AV:=.tup [if asN r l s m=0 then fileA r l else .nilp,.int .i64 (asN r l s m)]
theorem ZfN (hG:GC G) (hN:GN G) (r:List Iss) (l:List Nte) (s:List Int) (m:Int) (hw:WfN l) (hr:Wf r) (hs:Sml s):PC Tryz.prog G 117 [.agg [.vsl (r.map isa),.vsl (l.map na)],.vsl (s.map ia),.int .i64 m] (askA r l s m):=by
 have ho:=Zf5 hG hN r l hw hr;have hi:=ZeA (G:=G) 1 999 m;unfold opdA at ho
 (refine ZdT rfl λR hG hrd=>Qga ?_;subst hG)
 unfold askA asN;by_cases h0:chN r l=0
 . have hB:Zcw r l=true:=by
    unfold chN at h0
    split at h0
    . cases q:Zcw r l
      . rw[q]at h0;cases h0
      . rfl
    . rename_i e;exact absurd h0 e
   have hU:=ZfI hB;have ht:=Zfe (G:=R.G) r l s hs hU.1 hU.2;have hp:=ZfJ r l;have sn:=λok st=>ZfK ok st r l
   have h1:=ZfL r l;rw[if_pos h0,h0]at ho;generalize fileA r l=F at *;simp -implicitDefEqProofs[ZdR,ZdS];refine Qco (ho) (by simp) ?_;simp -implicitDefEqProofs[h0];refine Yd.of ht (by simp[hp,AV.pure]) ?_
   cases q:truB l s
   . simp -implicitDefEqProofs[q]
   . simp -implicitDefEqProofs[q];refine Qco (hi) (by simp) ?_
     cases q2:inR m 1 999
     . simp -implicitDefEqProofs[q2]
     . simp -implicitDefEqProofs[q2,hp,sn]
 . rw[if_neg h0]at ho;simp -implicitDefEqProofs[ZdR,ZdS];refine Qco (ho) (by simp) ?_;simp -implicitDefEqProofs[h0]
def ffC:AV:=.func (.func 162) [] [.ptr 9 0,.ptr 4 0,.ptr 5 0,.ptr 6 0,.ptr 7 0,.ptr 10 0]
def ffO (F sV wV:AV) (m:Int):List (Nat×AObj):=[(4,.box [F]),(5,.box [sV]),(6,.box [wV]),(7,.box [.int .i64 m]),(11,.mp []),(9,.box [.mp 11]),(10,.box [ffC])]
def ffK (k:Nat):Bool:=decide (k<1000) && !(k == 4||k == 5||k == 6||k == 7||k == 9||k == 10||k == 11)
theorem ZfO (r:List Iss) (l:List Nte) (ns nw:Bool) (s w:List Int) (m:Int):PB Tryz.prog G 114 [] [fileA r l,liA ns s,liA nw w,.int .i64 m] ffC (ffO (fileA r l) (liA ns s) (liA nw w) m):=by
 have hF:fileA r l = .vptr [.vsl (r.map isa),.vsl (l.map na),.vsl ((nums r).map ia),opA l] 0:=rfl;have hc:∀ (b:Bool) (s:List Int),liA b s = .nils∨liA b s = .vsl (s.map ia):=λb s=>by unfold liA;split;exact .inl rfl;exact .inr rfl
 refine Z5e ffK (by intro k hk;simp[ffK]at hk;omega) Tryz.func114 rfl (by kernel_rfl) (rc:=ZdU) (by kernel_rfl) (rs:=ZdV) (by kernel_rfl) (Nat.le_of_ble_eq_true rfl) λR _ hG hrd=>Qga ?_
 rw[hF];rcases hc ns s with h1|h1 <;> rcases hc nw w with h2|h2 <;> rw[h1,h2]
 . simp -implicitDefEqProofs[ZdU,ZdV];simp -implicitDefEqProofs[FinO,Yi,ffK,ZfE,frzO,frzA,frz,Yj,AV.keys,tupV,Z29,ffC,ffO]
 . simp -implicitDefEqProofs[ZdU,ZdV];simp -implicitDefEqProofs[FinO,Yi,ffK,ZfE,frzO,frzA,frz,Yj,AV.keys,tupV,Z29,ffC,ffO]
 . simp -implicitDefEqProofs[ZdU,ZdV];simp -implicitDefEqProofs[FinO,Yi,ffK,ZfE,frzO,frzA,frz,Yj,AV.keys,tupV,Z29,ffC,ffO]
 . simp -implicitDefEqProofs[ZdU,ZdV];simp -implicitDefEqProofs[FinO,Yi,ffK,ZfE,frzO,frzA,frz,Yj,AV.keys,tupV,Z29,ffC,ffO]
def frK (s w:List Int) (m:Int) (l:List Nte) (i:Nat):List (Int×Bool):=(List.range i).foldl (λK j=>ifK s w m l l.length j K) []
end
open Qq in
def ZfP:RCode :=
 .seq (r 0 [b 1 0,n 2 .nils]) (.seq (r 1 [L 8 2 1,c 9 65 [8],m 3 9]) (.seq (r 2 [n 4 .nils]) (.seq (.seq (r 3 [n 5 O]) (.block 0 (.loop (.seq (.seq (r 4 [m 10 5,m 11 3,e 12 11,w 13 (.vop (.sh true) [(.c I),(.t 12)]),o 14 .lss 10 13]) (.cond (.t 14) .skip (.exit 0))) (.seq (.block 1 (.seq (r 6 [w 17 (.bsl true 1 0 [] []),m 6 17]) (.seq (.seq (r 7 [n 7 O]) (.block 2 (.loop (.seq (.seq (r 8 [m 18 7,m 19 3,e 20 19,o 21 .lss 18 20]) (.cond (.t 21) .skip (.exit 2))) (.seq (.block 3 (.seq (r 10 [m 24 5,m 25 7,w 26 (.vop (.sh false) [(.t 24),(.t 25)]),w 27 (.vop (.bits .and) [(.t 26),(.c I)]),k 28 .eql 27 I]) (.cond (.t 28) (R 11 [m 29 6,f 30 1 1,a [1] (l 31 30),m 32 3,m 33 7,a [3,4] (i 34 1 32 33),a [5] (l 35 34),a [2,6] (i 36 10 31 35),a [7] (f 37 0 36),a [8] (l 38 37),a [9] (w 39 (.bsl false 1 1 [O] [(0,.t 38)])),a [0,10] (w 40 (.app 1 8 (.t 29) (.t 39))),a [11,11,0,1,2,3,4,5,6,7,8,9,10,11] (m 6 40)]) .skip))) (r 9 [m 22 7,k 23 .add 22 I,m 7 23])))))) (r 12 [m 41 4,m 42 6,w 43 (.bsl false 1 1 [.nils] [(0,.t 42)]),w 44 (.app 1 24 (.t 41) (.t 43)),m 4 44])))) (r 5 [m 15 5,k 16 .add 15 I,m 5 16])))))) (.seq (r 13 [m 45 4,m 2 45]) .ret))))
def ZfQ:List RRes:=[.t 2]
theorem ZfR:PCt Tryz.prog 62 Tryz.f62 ZfP ZfQ:=pcT Tryz.func62 rfl (by kernel_rfl) (by kernel_rfl) (by kernel_rfl)
structure Stq where
 fd:Int
 fl:Int
 td:Int
 tl:Int
 nu:Int
 nt:Bool
 deriving DecidableEq,Inhabited
def ja (j:Nat):List AV:=[.int .i64 (j:Int)]
theorem ZfS (o:List (Nat×AObj)) (l:List Nat):Yc o (.row 1 (l.map ja))=true:=by
 simp only[Yc,List.all_eq_true,List.mem_map];rintro x ⟨y,-,rfl⟩ v hv;simp only[ja,List.mem_singleton]at hv;subst hv;simp[Ya,AV.keys]
def opW (r:List Iss) (l:List Nte) (i:Nat):St :=
 if opI l i=[] then ⟨[(4,.int .i64 i),(3,.nils),(1,.ptr 1 0)],[(1,.box [.vsl (r.map isa),.vsl (l.map na)])]⟩
 else ⟨[(4,.int .i64 i),(3,.osl 24 (opI l i).length),(1,.ptr 1 0)],[(24,.row 1 ((opI l i).map ja)),(1,.box [.vsl (r.map isa),.vsl (l.map na)])]⟩
def jnK (L:List Nat) (i p:Nat):List Nat:=L.take p++i::L.drop p
def opX (r:List Iss) (l:List Nte) (i:Nat) (L:List Nat) (p:Nat):St:=⟨[(5,.int .i64 p),(4,.int .i64 i),(3,.osl 24 (L.length+1)),(1,.ptr 1 0)],[(24,.row 1 ((jnK L i p).map ja)),(1,.box [.vsl (r.map isa),.vsl (l.map na)])]⟩
theorem ZfT {L:List Nat} {i p:Nat} (h:p<L.length):(jnK L i (p+1))[p]? = some L[p]/\(jnK L i (p+1))[p+1]? = some i/\(jnK L i (p+1)).length=L.length+1/\((jnK L i (p+1)).set (p+1) L[p]).set p i=jnK L i p:=by
 unfold jnK;have hl:(L.take p).length=p:=(by simp;omega);rw[List.take_succ_eq_append_getElem h,List.append_assoc,List.cons_append,List.nil_append];refine ⟨?_,?_,?_,?_⟩
 . rw[List.getElem?_append_right (by omega),hl,Nat.sub_self];rfl
 . rw[List.getElem?_append_right (by omega),hl,Nat.add_sub_cancel_left];rfl
 . simp;omega
 . rw[List.set_append_right _ _ (by omega),List.set_append_right _ _ (by omega),hl,List.drop_eq_getElem_cons h];simp
section
variable {G:Nat->Option (List AV)}
set_option maxHeartbeats 1000000 in
theorem ZfU (r:List Iss) (l:List Nte) (hl:l.length<=12):PC Tryz.prog G 65 [.agg [.vsl (r.map isa),.vsl (l.map na)]] (Yg ((opI l l.length).map ja)):=by
 (refine Z6A rfl λR hG hrd=>Qga ?_;subst hG)
 simp -implicitDefEqProofs[Z6y,Z6z];refine Z9v (opW r l) (λ_=>True) l.length ?_ trivial ?_ ?_
 . have e:opI l 0=[]:=rfl;simp only[opW,e,if_true]
   (refine Ym.sub (by simp[lk,Ya,AV.keys]) ?_;simp only[Wkl,and_true];(try simp[lk,Yc,Ya,AV.keys]))
 . intro i hi _;have hx:=Zct hi;have hnx:na (nAt l i)=[.int .i64 (nAt l i).nu,.int .i64 (nAt l i).dy,.int .u8 (nAt l i).sg,.int .i64 (nAt l i).dr,.int .i64 (nAt l i).lt,.int .i64 (nAt l i).fr,.int .i64 (nAt l i).tu,.int .i64 (nAt l i).ca,.bool (nAt l i).up,.int .u8 (nAt l i).wy]:=rfl;have hO:opI l (i+1)=if (nAt l i).sg=1 then insK (λj=>(nAt l j).nu) (opI l i) i else opI l i:=rfl
   have hlt:=Zd0 l i;have hsr:=Zd4 l i;have hln:=ZcY l i;have wi:IntKind.i64.wrap ((i:Int)+1)=(i:Int)+1:=Yf (by omega) (by omega);unfold opW;generalize opI l i=L at *;have hF:∀ j,(nAt l j).nu=(λj=>(nAt l j).nu) j:=λ_=>rfl
   refine Qga ?_;by_cases c:(nAt l i).sg=1
   . rw [if_pos c]at hO;have hne:opI l (i+1)≠[]:=(by rw[hO];intro h;have:=ZcX (λj=>(nAt l j).nu) L i;rw[h]at this;cases this);have hlen:(opI l (i+1)).length=L.length+1:=(by rw[hO,ZcX]);have bb:(L.length+1)*8<=70368744177664:=(by omega);have wl:IntKind.i64.wrap (L.length:Int)=(L.length:Int):=(by rw[Yf (by omega) (by omega)]);have wz:IntKind.i64.wrap 0=0:=rfl;have hmid:=λp (hp:p<L.length)=>ZfT (i:=i) hp
     have hend:=λp (h1:p<=L.length)=>Zd5 (f:=λj=>(nAt l j).nu) (x:=i) (k:=p) hsr h1
     by_cases c0:L=[]
     case' pos=>simp -implicitDefEqProofs[c0,hi,<- hx,hnx,c,wz]
     case' neg=>simp -implicitDefEqProofs[c0,hi,<- hx,hnx,c,bb,wl]
     all_goals
      refine Z1Q (opX r l i L) (λp=>p<=L.length/\∀ y∈L.drop p,(nAt l i).nu<(nAt l y).nu) (λp=>p) L.length ?_ ⟨Nat.le_refl _,λy hy=>by rw[List.drop_of_length_le (Nat.le_refl _)]at hy;cases hy⟩ ?_
      . unfold opX jnK;rw[List.take_of_length_le (Nat.le_refl _),List.drop_of_length_le (Nat.le_refl _),List.map_append]
        first
         |(subst c0;((try simp only[ja]);refine Ym.sub (by simp[lk,Ya,AV.keys,ja]) ?_;simp only[ja,Wkl,and_true];(try simp[lk,Yc,Ya,AV.keys,ja]));done)
         |(((try simp only[ja]);refine Ym.sub (by simp[lk,Ya,AV.keys,ja]) ?_;simp only[ja,Wkl,and_true];(try simp[lk,Yc,Ya,AV.keys,ja]));done)
      rintro p ⟨hp,hd⟩;refine Qga ?_
      cases p with
      | zero =>
        have he:=hend 0 (Nat.zero_le _) hd (λq hq=>by omega);simp -implicitDefEqProofs[opX];refine ⟨rfl,?_⟩;refine Qgr ?_;simp -implicitDefEqProofs[wi];simp only[hne,if_false,hlen];change jnK L i 0=_ at he;rw[hO,<- he]
        ((try simp only[ja]);refine Ym.sub (by simp[lk,Ya,AV.keys,ja]) ?_;simp only[ja,Wkl,ZfS,and_true];(try simp[lk,Yc,Ya,AV.keys,ja]))
      | succ p =>
        obtain ⟨m1,m2,m3,m4⟩:=hmid p hp;have he:=hend (p+1) hp hd;obtain ⟨j,hj⟩ : ∃ j,j=L[p]:=⟨_,rfl⟩;have hji:=(hlt j (by rw[hj];exact List.getElem_mem _)).1;have hjl:j<l.length:=(by omega);have hpj:L[p]? = some j:=(by rw[hj];exact List.getElem?_eq_getElem _);rw[<- hj]at m1 m4;unfold opX;replace he:_->jnK L i (p+1)=_:=he;generalize jnK L i (p+1)=Q at *;obtain ⟨q1,g1⟩:=List.getElem?_eq_some_iff.1 m1;obtain ⟨q2,g2⟩:=List.getElem?_eq_some_iff.1 m2;have hxj:=Zct hjl;have hnj:na (nAt l j)=[.int .i64 (nAt l j).nu,.int .i64 (nAt l j).dy,.int .u8 (nAt l j).sg,.int .i64 (nAt l j).dr,.int .i64 (nAt l j).lt,.int .i64 (nAt l j).fr,.int .i64 (nAt l j).tu,.int .i64 (nAt l j).ca,.bool (nAt l j).up,.int .u8 (nAt l j).wy]:=rfl;have w2:IntKind.i64.wrap ((p:Int))=(p:Int):=Yf (by omega) (by omega);have k1:(0:Int)<(p:Int)+1:=(by omega);have k2:((p:Int)+1).toNat=p+1:=(by omega);have k3:(0:Int)<=(p:Int)+1:=(by omega);have k4:p<L.length:=(by omega);have k5:p<=L.length:=(by omega);have k6:p<L.length+1:=(by omega);have k7:(p:Int)<(L.length:Int)+1:=(by omega);have k8:(p:Int)+1<(L.length:Int)+1:=(by omega);by_cases hlt2:(nAt l i).nu<(nAt l j).nu
        . simp -implicitDefEqProofs[w2,k1,k2,k3,k4,k5,k6,k7,k8,g1,g2,m3,ja,hi,hjl,<- hx,<- hxj,hnx,hnj,hlt2];refine ⟨rfl,p,?_,⟨by omega,λu hu=>?_⟩,Nat.lt_succ_self _⟩
          . have e1:∀ z:Nat,[AV.int .i64 (z:Int)]=ja z:=λ_=>rfl
            simp only[e1];rw[<- List.map_set,<- List.map_set,m4]
            (refine Ym.sub (by simp[lk,Ya,AV.keys]) ?_;simp only[Wkl,ZfS,and_true];(try simp[lk,Yc,Ya,AV.keys]))
          . have hps:=(List.getElem?_eq_some_iff.1 hpj).1;have gs:=(List.getElem?_eq_some_iff.1 hpj).2;rw[List.drop_eq_getElem_cons hps,gs]at hu;rcases List.mem_cons.1 hu with rfl|hu
            . exact hlt2
            . exact hd u hu
        . have he:=he (λq hq u hu=>by
           have:q=p:=(by omega);subst this;rw[hpj]at hu
           cases hu
           exact Int.not_lt.1 hlt2)
          simp -implicitDefEqProofs[w2,k1,k2,k3,k4,k5,k6,k7,k8,g1,g2,m3,ja,hi,hjl,<- hx,<- hxj,hnx,hnj,hlt2];refine ⟨rfl,?_⟩;refine Qgr ?_;simp -implicitDefEqProofs[wi];simp only[hne,if_false,hlen];rw[hO,<- he]
          (refine Ym.sub (by simp[lk,Ya,AV.keys]) ?_;simp only[Wkl,ZfS,and_true];(try simp[lk,Yc,Ya,AV.keys]))
   . rw[if_neg c]at hO;by_cases c0:L=[]
     . simp -implicitDefEqProofs[c0,hi,<- hx,hnx,c,wi];simp only[hO,c0,if_true]
       (refine Ym.sub (by simp[lk,Ya,AV.keys]) ?_;simp only[Wkl,and_true];(try simp[lk,Yc,Ya,AV.keys]))
     . simp -implicitDefEqProofs[c0,hi,<- hx,hnx,c,wi];simp only[hO,c0,if_false]
       (refine Ym.sub (by simp[lk,Ya,AV.keys]) ?_;simp only[Wkl,ZfS,and_true];(try simp[lk,Yc,Ya,AV.keys]))
 . intro _;refine Qga ?_;by_cases c:opI l l.length=[]
   . simp -implicitDefEqProofs[opW,c];refine Qgr ?_;simp -implicitDefEqProofs[Yg]
   . simp -implicitDefEqProofs[opW,c];refine Qgr ?_;simp -implicitDefEqProofs[Yg,c,ja]
end
def nuI (l:List Nte):List Int:=(opI l l.length).map λj=>(nAt l j).nu
theorem ZfV {l:List Nte} {n:Int}:n∈nuI l↔n∈opU l:=Zd2
theorem ZfW (l:List Nte):(nuI l).length=(opI l l.length).length:=List.length_map _
def tkN (l:List Nte) (j:Nat):List (List AV):=((nuI l).take j).map ia
theorem ZfX (o:List (Nat×AObj)) (l:List Nte) (j:Nat):Yc o (.row 1 (tkN l j))=true:=ZeR o _
theorem ZfY {l:List Nte} {j:Nat} (h:j<=(nuI l).length):(tkN l j).length=j:=by simp[tkN];omega
theorem ZfZ {l:List Nte}:tkN l (nuI l).length=(nuI l).map ia:=by rw[tkN,List.take_length]
section
variable {G:Nat->Option (List AV)}
theorem Zg0 (nl:Bool) (s:List Int) (n:Int) (h:Sml s):PC Tryz.prog G 177 [liA nl s,.int .i64 n] (.bool (decide (n∈s))):=by
 unfold liA
 split
 . rename_i e;rw[e.2]
   (refine Z6D rfl λR hG hrd=>Qga ?_;subst hG)
   simp -implicitDefEqProofs[Z6B,Z6C];refine Z9v (λi=>⟨[(5,.int .i64 i),(0,.nils),(1,.int .i64 n)],[]⟩) (λi=>True) 0 (by (first|exact Ym.tm (by simp[lk])|exact Ym.sub (by simp[lk,Ya,AV.keys]) (by simp[lk,Yc,Ya,AV.keys]))) trivial (λi hi=>by omega) ?_;intro _;refine Qga ?_;simp -implicitDefEqProofs[];refine Qgr ?_;simp -implicitDefEqProofs[]
 . exact ZcI s n h
def tuS (r:List Iss) (l:List Nte) (s:List Int) (j:Nat):St :=
 if j=0 then ⟨[(7,.int .i64 0),(6,.vsl ((opI l l.length).map ja)),(5,.nils),(2,.ptr 2 0),(1,.vsl (s.map ia))],[(2,.box [.vsl (r.map isa),.vsl (l.map na)])]⟩
 else ⟨[(7,.int .i64 j),(6,.vsl ((opI l l.length).map ja)),(5,.osl 28 j),(2,.ptr 2 0),(1,.vsl (s.map ia))],[(28,.row 1 (tkN l j)),(2,.box [.vsl (r.map isa),.vsl (l.map na)])]⟩
set_option maxHeartbeats 1000000 in
theorem Zg1 (r:List Iss) (l:List Nte) (s:List Int) (hl:l.length<=12) (hs:Sml s):PC Tryz.prog G 175 [.agg [.vsl (r.map isa),.vsl (l.map na)],.vsl (s.map ia)] (.bool (truB l s)):=by
 have ho:=ZfU (G:=G) r l hl;have hh:=λn=>Zg0 (G:=G) true (nuI l) n (by unfold Sml;rw[ZfW];have:=ZcY l l.length;omega)
 have hln:=ZcY l l.length;have hlt:=Zd0 l l.length;have hnl:=ZfW l;have hmem:=λn=>ZfV (l:=l) (n:=n)
 have hnat:∀ j,(h:j<(opI l l.length).length)->(nuI l)[j]'(by rw[hnl];exact h)=(nAt l (opI l l.length)[j]).nu:=λj h=>by simp[nuI]
 unfold Sml at hs
 have key : ∀ R:Run,R.G=G->R.Top->∀ (rc:RCode),rc=dropZ 4 Z6E->AR Tryz.prog R rc ⟨[(5,liA true (nuI l)),(1,.vsl (s.map ia))],[]⟩ (Fin Z6F (.bool (truB l s))):=λR hG _ rc hrc=>by
  subst hrc;subst hG;refine Qga ?_;have pN:=ZfA true (nuI l);have kN:=ZfB true (nuI l);simp -implicitDefEqProofs[dropZ,Z6E];generalize liA true (nuI l)=nV at *;refine Z9v (λi=>⟨[(8,.int .i64 i),(5,nV),(1,.vsl (s.map ia))],[]⟩) (λi=>∀ j,j<i->s.getD j 0∈opU l/\(0<j->s.getD (j-1) 0<s.getD j 0)) s.length ?_ (λj hj=>by omega) ?_ ?_
  . ((try simp only[kN]);refine Ym.sub (by simp[lk,Ya,AV.keys,kN]) ?_;simp only[kN,Wkl,and_true];(try simp[lk,Yc,Ya,AV.keys,kN]))
  . intro i hi hI;refine Qga ?_;have wi:IntKind.i64.wrap ((i:Int)+1)=(i:Int)+1:=Yf (by omega) (by omega);have eg:∀ j,∀ hj:j<s.length,s.getD j 0=s[j]:=λj hj=>by simp[List.getD_eq_getElem?_getD,hj]
    have no:¬(s[i]∈opU l/\(0<i->s.getD (i-1) 0<s[i]))->truB l s=false:=λh=>by
     cases q:truB l s
     . rfl
     . have h2:=Zfa.1 q i hi;rw[eg i hi]at h2;exact absurd h2 h
    have yes:(s[i]∈opU l/\(0<i->s.getD (i-1) 0<s[i]))->∀ j,j<i+1->s.getD j 0∈opU l/\(0<j->s.getD (j-1) 0<s.getD j 0):=λh j hj=>by
     rcases Nat.lt_or_ge j i with h4|h4
     . exact hI j h4
     . obtain rfl:j=i:=(by omega);rw[eg j hi];exact h
    have hh:=hh s[i];have hmm:=hmem s[i];by_cases hm:s[i]∈opU l
    . have d:decide (s[i]∈nuI l)=true:=(by simpa using hmm.2 hm);rw[d]at hh
      cases i with
      | zero =>
        have w1:IntKind.i64.wrap 1=1:=rfl;have h1:=yes ⟨hm,λh=>by omega⟩;simp -implicitDefEqProofs[hi,ia];refine Ye.of hh (by simp[pN,AV.pure]) ?_;simp -implicitDefEqProofs[w1,kN];refine ⟨rfl,?_,?_⟩
        . ((try simp only[kN]);refine Ym.sub (by simp[lk,Ya,AV.keys,kN]) ?_;simp only[kN,Wkl,and_true];(try simp[lk,Yc,Ya,AV.keys,kN]))
        . simpa using h1
      | succ k =>
        have hk:k<s.length:=(by omega);have k1:(k:Int)+1<s.length:=(by omega);have k2:((k:Int)+1).toNat=k+1:=(by omega);have k3:(0:Int)<=(k:Int)+1:=(by omega);have k4:(0:Int)<(k:Int)+1:=(by omega);have wk2:IntKind.i64.wrap (k:Int)=(k:Int):=Yf (by omega) (by omega);have wk3:IntKind.i64.wrap ((k:Int)+1+1)=(k:Int)+1+1:=Yf (by omega) (by omega);have eg:s.getD (k+1-1) 0=s[k]:=(by simp[List.getD_eq_getElem?_getD,hk]);rw[eg]at no yes;simp -implicitDefEqProofs[hi,hk,ia,k1,k2,k3,k4];refine Ye.of hh (by simp[pN,AV.pure]) ?_;by_cases hlt:s[k+1]<=s[k]
        . have hB:=no λh=>by have:=h.2 (by omega);omega
          simp -implicitDefEqProofs[hi,hk,ia,k1,k2,k3,k4,wk2,hlt,kN];refine ⟨rfl,?_⟩;refine Qgr ?_;simp -implicitDefEqProofs[hB,Z6F]
        . have h1:=yes ⟨hm,λ_=>by omega⟩;simp -implicitDefEqProofs[hi,hk,ia,k1,k2,k3,k4,wk2,wk3,hlt,kN];refine ⟨rfl,?_,h1⟩
          ((try simp only[kN]);refine Ym.sub (by simp[lk,Ya,AV.keys,kN]) ?_;simp only[kN,Wkl,and_true];(try simp[lk,Yc,Ya,AV.keys,kN]))
    . have d:decide (s[i]∈nuI l)=false:=by simpa using λh=>hm (hmm.1 h)
      rw[d]at hh;have hB:=no λh=>hm h.1
      simp -implicitDefEqProofs[hi,ia];refine Ye.of hh (by simp[pN,AV.pure]) ?_;simp -implicitDefEqProofs[kN];refine ⟨rfl,?_⟩;refine Qgr ?_;simp -implicitDefEqProofs[hB,Z6F]
  . intro hI;have hB:=Zfa.2 hI;refine Qga ?_;simp -implicitDefEqProofs[];refine Qgr ?_;simp -implicitDefEqProofs[hB,Z6F]
 refine Z6G rfl λR hG hrd=>?_
 subst hG;refine Yb mixed 9 ?_;simp -implicitDefEqProofs[Z6E];refine Qco (ho) (by simp) ?_;simp -implicitDefEqProofs[];have key:=key R rfl hrd _ rfl;unfold Yg;by_cases c:opI l l.length=[]
 . have c':nuI l=[]:=(by rw[nuI,c];rfl);have e2:liA true (nuI l) = .nils:=(by rw[c'];simp[liA]);rw[e2]at key;refine Z2L mixed 1000 ?_;simp -implicitDefEqProofs[c];refine Z9v (λi=>⟨[(7,.int .i64 i),(6,.nils),(5,.nils),(1,.vsl (s.map ia))],[]⟩) (λ_=>True) 0 ?_ trivial (λi hi=>by omega) ?_
   . (refine Ym.sub (by simp[lk,Ya,AV.keys]) ?_;simp only[Wkl,and_true];(try simp[lk,Yc,Ya,AV.keys]))
   . intro _;refine Qga ?_;simp -implicitDefEqProofs[];refine Z2N mixed 2 ?_;simp -implicitDefEqProofs[];refine GOz (Z2M ?_ key)
     (refine Ym.sub (by simp[lk,Ya,AV.keys]) ?_;simp only[Wkl,and_true];(try simp[lk,Yc,Ya,AV.keys]))
 . have c':nuI l≠[]:=λh=>c (List.map_eq_nil_iff.1 h)
   have e2:liA true (nuI l) = .vsl ((nuI l).map ia):=(by simp[liA,c']);rw[e2]at key;refine Z2L mixed 1000 ?_;simp -implicitDefEqProofs[c];refine Z9v (tuS r l s) (λ_=>True) (nuI l).length ?_ trivial ?_ ?_
   . simp only[tuS,if_true]
     (refine Ym.sub (by simp[lk,Ya,AV.keys]) ?_;simp only[Wkl,and_true];(try simp[lk,Yc,Ya,AV.keys]))
   . intro j hj _;have hj':j<(opI l l.length).length:=(by omega);have wj:IntKind.i64.wrap ((j:Int)+1)=(j:Int)+1:=Yf (by omega) (by omega);have hna:=hnat j hj';have hkl:=(hlt _ (List.getElem_mem hj')).1;have tk:=List.take_succ_eq_append_getElem hj;have tl:=ZfY (l:=l) (j:=j) (by omega);rw[hna]at tk;have tk:tkN l (j+1)=tkN l j++[[.int .i64 (nAt l (opI l l.length)[j]).nu]]:=(by unfold tkN;rw[tk,List.map_append];rfl);generalize hkk:(opI l l.length)[j]=k at *;have hlk:l[k]=nAt l k:=(Zct hkl).symm;have hnk:na (nAt l k)=[.int .i64 (nAt l k).nu,.int .i64 (nAt l k).dy,.int .u8 (nAt l k).sg,.int .i64 (nAt l k).dr,.int .i64 (nAt l k).lt,.int .i64 (nAt l k).fr,.int .i64 (nAt l k).tu,.int .i64 (nAt l k).ca,.bool (nAt l k).up,.int .u8 (nAt l k).wy]:=rfl;have bb:((j:Int)+1)*8<=70368744177664:=(by omega);have bb2:(j+1)*8<=70368744177664:=(by omega);refine Qga ?_
     cases j with
     | zero =>
       have w1:IntKind.i64.wrap 1=1:=rfl;simp -implicitDefEqProofs[tuS,hj',hkk,ja,hkl,hlk,hnk,w1];refine ⟨rfl,?_⟩;have e0:tkN l 0=[]:=(by simp[tkN]);rw[e0,List.nil_append]at tk;rw[tk]
       ((try simp only[ja]);refine Ym.sub (by simp[lk,Ya,AV.keys,ja]) ?_;simp only[ja,Wkl,and_true];(try simp[lk,Yc,Ya,AV.keys,ja]))
     | succ i =>
       have k1:(i:Int)+1<(opI l l.length).length:=(by omega);have wk3:IntKind.i64.wrap ((i:Int)+1+1)=(i:Int)+1+1:=Yf (by omega) (by omega);have k2:((i:Int)+1).toNat=i+1:=(by omega);have k3:(0:Int)<=(i:Int)+1:=(by omega);simp -implicitDefEqProofs[tuS,hj',hkk,ja,hkl,hlk,hnk,tl,bb,bb2,k1,k2,k3,wk3];refine ⟨rfl,?_⟩;rw[<- tk]
       ((try simp only[ja]);refine Ym.sub (by simp[lk,Ya,AV.keys,ja]) ?_;simp only[ja,Wkl,ZfX,and_true];(try simp[lk,Yc,Ya,AV.keys,ja]))
   . intro _;refine Qga ?_;simp -implicitDefEqProofs[tuS,hnl,c];refine Z2N mixed 2 ?_;simp -implicitDefEqProofs[];refine GOz (Z2M (Ym.trans (Ym.frz (λk=>k == 28) _) ?_) key);rw[<- hnl,ZfZ]
     ((try simp only[Yi,frzA,frzO,frz,Yh,Yj,St.get,ia]);refine Ym.sub (by simp[lk,Ya,AV.keys,Yi,frzA,frzO,frz,Yh,Yj,St.get,ia]) ?_;simp only[Yi,frzA,frzO,frz,Yh,Yj,St.get,ia,Wkl,and_true];(try simp[lk,Yc,Ya,AV.keys,Yi,frzA,frzO,frz,Yh,Yj,St.get,ia]))
def rbK (f:Nat->Bool) (n k:Nat):List Bool:=(List.range n).map λj=>decide (k<=j)&&f j
theorem Zg2 {f:Nat->Bool} {n k:Nat}:(rbK f n k).length=n:=by simp[rbK]
theorem Zg3 {f:Nat->Bool} {n k j:Nat} (h:k<=j) (h2:j<n):(rbK f n k)[j]? = some (f j):=by
 rw[List.getElem?_eq_getElem (by rw[Zg2];exact h2)];simp[rbK,h]
theorem Zg4 {f:Nat->Bool} {n k:Nat}:(rbK f n (k+1)).set k (f k)=rbK f n k:=by
 refine List.ext_getElem (by simp[rbK]) λj h1 h2=>?_
 rw[List.getElem_set]
 split
 . rename_i e;subst e;simp[rbK]
 . rename_i e;have:decide (k+1<=j)=decide (k<=j):=(by rw[decide_eq_decide];omega);simp only[rbK,List.getElem_map,List.getElem_range,this]
def ba (b:Bool):List AV:=[.bool b]
theorem Zg5 (o:List (Nat×AObj)) (l:List Bool):Yc o (.row 1 (l.map ba))=true:=by
 simp only[Yc,List.all_eq_true,List.mem_map];rintro x ⟨y,-,rfl⟩ v hv;simp only[ba,List.mem_singleton]at hv;subst hv;simp[Ya,AV.keys]
theorem Zg6 {f:Nat->Bool} {n:Nat}:(rbK f n n).map ba=List.replicate n [.bool false]:=by
 refine List.ext_getElem (by simp[rbK]) λj h1 h2=>?_
 have:¬n<=j:=(by simp at h2;omega);simp[rbK,ba,this]
set_option maxHeartbeats 2000000 in
theorem Zg7 (r:List Iss) (l:List Nte) (ns nw:Bool) (s w:List Int) (m:Int) (hl:l.length<=12) (hs:Sml s) (hw:Sml w) :
  PC Tryz.prog G 146 [.agg [.vsl (r.map isa),.vsl (l.map na)],liA ns s,liA nw w,.int .i64 m] (.vsl ((rbK (fB s w m l) l.length 0).map ba)):=by
 have c1:=λn=>Zg0 (G:=G) ns s n hs
 have c2:=λn=>Zg0 (G:=G) nw w n hw
 have c3:=λn lo hi=>ZcH (G:=G) n lo hi
 have k1:=ZfB ns s;have k2:=ZfB nw w;have p1:=ZfA ns s;have p2:=ZfA nw w;generalize liA ns s=sV at *;generalize liA nw w=wV at *;refine Z6J rfl λR hG hrd=>?_
 subst hG;refine Qga ?_;have b1:(l.length:Int)<=16777216:=(by omega);have rep:=Zg6 (f:=fB s w m l) (n:=l.length);have rln:=λk=>Zg2 (f:=fB s w m l) (n:=l.length) (k:=k)
 have w0:IntKind.i64.wrap ((l.length:Int)-1)=(l.length:Int)-1:=Yf (by omega) (by omega);simp -implicitDefEqProofs[Z6H,Z6I,b1,<- rep,w0];refine Z1Q (λk:Nat=>⟨[(10,.int .i64 ((k:Int)-1)),(9,.osl 17 l.length),(4,.ptr 4 0),(1,sV),(2,wV),(3,.int .i64 m)],[(17,.row 1 ((rbK (fB s w m l) l.length k).map ba)),(4,.box [.vsl (r.map isa),.vsl (l.map na)])]⟩) (λk=>k<=l.length) (λk=>k) l.length ?_ (Nat.le_refl _) ?_
 . ((try simp only[k1,k2]);refine Ym.sub (by simp[lk,Ya,AV.keys,k1,k2]) ?_;simp only[k1,k2,Wkl,Zg5,and_true];(try simp[lk,Yc,Ya,AV.keys,k1,k2]))
 . intro k hk
   cases k with
   | zero =>
     have rl0:=rln 0;refine Qga ?_;simp -implicitDefEqProofs[];refine Qgr ?_;simp -implicitDefEqProofs[ba,rl0]
   | succ k =>
     have hi:k<l.length:=hk;have hx:=Zct hi;have hnx:na (nAt l k)=[.int .i64 (nAt l k).nu,.int .i64 (nAt l k).dy,.int .u8 (nAt l k).sg,.int .i64 (nAt l k).dr,.int .i64 (nAt l k).lt,.int .i64 (nAt l k).fr,.int .i64 (nAt l k).tu,.int .i64 (nAt l k).ca,.bool (nAt l k).up,.int .u8 (nAt l k).wy]:=rfl;have fe:=Zcz (p:=bsF s w m) (h:=λx y:Nte=>decide (y.ca=x.nu)) hi;rw[<- hx]at fe;have gb:=ZcA (p:=bsF s w m) (h:=λx y:Nte=>decide (y.ca=x.nu)) (l:=l) (x:=nAt l k) (i:=k);have gs:=λj=>ZcB (p:=bsF s w m) (h:=λx y:Nte=>decide (y.ca=x.nu)) (l:=l) (x:=nAt l k) (i:=k) (k:=j)
     have fbs:fB s w m l k=gwB (bsF s w m) (λx y=>decide (y.ca=x.nu)) l (nAt l k) k l.length:=fe;have rat:=λj (h:k+1<=j) (h2:j<l.length)=>Zg3 (f:=fB s w m l) h h2
     have rst:=Zg4 (f:=fB s w m l) (n:=l.length) (k:=k);have rln1:=rln (k+1);rw[fbs]at rst;have c1:=c1 (nAt l k).nu;have c2:=c2 (nAt l k).nu;have c3:=c3 m (nAt l k).fr (nAt l k).tu;have w1:IntKind.i64.wrap ((k:Int)+1)=((k+1:Nat):Int):=Yf (by omega) (by omega);generalize hxx:nAt l k=x at *;have hlx:l[k]=x:=hx.symm;generalize hQQ:rbK (fB s w m l) l.length (k+1)=Q at *;refine Yb mixed 13 ?_;simp -implicitDefEqProofs[hi,hlx,hnx];refine Zf6 (S:=⟨[(10,.int .i64 k),(11,.ptr 11 0),(12,.bool (bsF s w m x)),(9,.osl 17 l.length),(4,.ptr 4 0),(1,sV),(2,wV),(3,.int .i64 m)],[(11,.box (na x)),(17,.row 1 (Q.map ba)),(4,.box [.vsl (r.map isa),.vsl (l.map na)])]⟩) (Qga ?_) ?_
     . unfold bsF;by_cases e1:x.sg=2
       . simp -implicitDefEqProofs[hnx,e1];refine Yd.of c2 (by simp[p2,AV.pure]) ?_;by_cases e2:x.nu∈w
         . simp -implicitDefEqProofs[e2]
           ((try simp only[k1,k2,hnx]);refine Ym.sub (by simp[lk,Ya,AV.keys,k1,k2,hnx]) ?_;simp only[k1,k2,hnx,Wkl,Zg5,and_true];(try simp[lk,Yc,Ya,AV.keys,k1,k2,hnx]))
         . simp -implicitDefEqProofs[e2];refine Qco (c3) (by simp) ?_;simp -implicitDefEqProofs[]
           ((try simp only[k1,k2,hnx]);refine Ym.sub (by simp[lk,Ya,AV.keys,k1,k2,hnx]) ?_;simp only[k1,k2,hnx,Wkl,Zg5,and_true];(try simp[lk,Yc,Ya,AV.keys,k1,k2,hnx]))
       . simp -implicitDefEqProofs[hnx,e1];refine Yd.of c1 (by simp[p1,AV.pure]) ?_;by_cases e3:x.nu∈s
         . simp -implicitDefEqProofs[e3];refine Yd.of c2 (by simp[p2,AV.pure]) ?_;by_cases e2:x.nu∈w
           . simp -implicitDefEqProofs[e2]
             ((try simp only[k1,k2,hnx]);refine Ym.sub (by simp[lk,Ya,AV.keys,k1,k2,hnx]) ?_;simp only[k1,k2,hnx,Wkl,Zg5,and_true];(try simp[lk,Yc,Ya,AV.keys,k1,k2,hnx]))
           . simp -implicitDefEqProofs[e2];refine Qco (c3) (by simp) ?_;simp -implicitDefEqProofs[]
             ((try simp only[k1,k2,hnx]);refine Ym.sub (by simp[lk,Ya,AV.keys,k1,k2,hnx]) ?_;simp only[k1,k2,hnx,Wkl,Zg5,and_true];(try simp[lk,Yc,Ya,AV.keys,k1,k2,hnx]))
         . simp -implicitDefEqProofs[e3]
           ((try simp only[k1,k2,hnx]);refine Ym.sub (by simp[lk,Ya,AV.keys,k1,k2,hnx]) ?_;simp only[k1,k2,hnx,Wkl,Zg5,and_true];(try simp[lk,Yc,Ya,AV.keys,k1,k2,hnx]))
     rw[<- gb];refine Qga ?_;simp -implicitDefEqProofs[w1];refine Z1Q (λp:Nat=>⟨[(13,.int .i64 (p:Int)),(10,.int .i64 k),(11,.ptr 11 0),(12,.bool (gwB (bsF s w m) (λx y=>decide (y.ca=x.nu)) l x k p)),(9,.osl 17 l.length),(4,.ptr 4 0),(1,sV),(2,wV),(3,.int .i64 m)],[(11,.box (na x)),(17,.row 1 (Q.map ba)),(4,.box [.vsl (r.map isa),.vsl (l.map na)])]⟩) (λp=>k+1<=p/\p<=l.length) (λp=>l.length-p) (k+1) ?_ ⟨Nat.le_refl _,hi⟩ ?_
     . ((try simp only[k1,k2,hnx]);refine Ym.sub (by simp[lk,Ya,AV.keys,k1,k2,hnx]) ?_;simp only[k1,k2,hnx,Wkl,Zg5,and_true];(try simp[lk,Yc,Ya,AV.keys,k1,k2,hnx]))
     . rintro p ⟨hp1,hp2⟩;refine Qga ?_;rcases Nat.lt_or_ge p l.length with h5|h5
       . have hrat:=rat p hp1 h5;obtain ⟨q1,g1⟩:=List.getElem?_eq_some_iff.1 hrat;have hg:=gs p (by omega) h5;have hy:=Zct h5;have hny:na (nAt l p)=[.int .i64 (nAt l p).nu,.int .i64 (nAt l p).dy,.int .u8 (nAt l p).sg,.int .i64 (nAt l p).dr,.int .i64 (nAt l p).lt,.int .i64 (nAt l p).fr,.int .i64 (nAt l p).tu,.int .i64 (nAt l p).ca,.bool (nAt l p).up,.int .u8 (nAt l p).wy]:=rfl;have w2:IntKind.i64.wrap ((p:Int)+1)=(p:Int)+1:=Yf (by omega) (by omega);rw[<- hy]at hg;replace hg:_=(_ && !(fB s w m l p&&_)):=hg;generalize hyy:nAt l p=y at *;have hly:l[p]=y:=hy.symm;generalize fB s w m l p=fb at *
         cases hb:gwB (bsF s w m) (λx y=>decide (y.ca=x.nu)) l x k p
         . rw[hb,Bool.false_and]at hg;simp -implicitDefEqProofs[hb,h5,hnx,w2];refine ⟨rfl,p+1,?_,⟨by omega,h5⟩,(by show l.length-(p+1)<l.length-p;omega)⟩;simp only[hg]
           ((try simp only[k1,k2,hnx]);refine Ym.sub (by simp[lk,Ya,AV.keys,k1,k2,hnx]) ?_;simp only[k1,k2,hnx,Wkl,Zg5,and_true];(try simp[lk,Yc,Ya,AV.keys,k1,k2,hnx]))
         . rw[hb,Bool.true_and]at hg
           cases fb
           . rw[Bool.false_and,Bool.not_false]at hg;simp -implicitDefEqProofs[hb,h5,hnx,w2,rln1,g1,ba];refine ⟨rfl,p+1,?_,⟨by omega,h5⟩,(by show l.length-(p+1)<l.length-p;omega)⟩;simp only[hg]
             ((try simp only[k1,k2,hnx]);refine Ym.sub (by simp[lk,Ya,AV.keys,k1,k2,hnx]) ?_;simp only[k1,k2,hnx,Wkl,Zg5,and_true];(try simp[lk,Yc,Ya,AV.keys,k1,k2,hnx]))
           . rw[Bool.true_and]at hg;simp -implicitDefEqProofs[hb,h5,hnx,w2,rln1,g1,ba,hly,hny];refine ⟨rfl,p+1,?_,⟨by omega,h5⟩,(by show l.length-(p+1)<l.length-p;omega)⟩;simp only[hg]
             ((try simp only[k1,k2,hnx]);refine Ym.sub (by simp[lk,Ya,AV.keys,k1,k2,hnx]) ?_;simp only[k1,k2,hnx,Wkl,Zg5,and_true];(try simp[lk,Yc,Ya,AV.keys,k1,k2,hnx]))
       . obtain rfl:p=l.length:=(by omega);simp -implicitDefEqProofs[];refine Qgr ?_;have e1:∀ b:Bool,[AV.bool b]=ba b:=λ_=>rfl
         have wk:IntKind.i64.wrap ((k:Int)-1)=(k:Int)-1:=Yf (by omega) (by omega);simp -implicitDefEqProofs[hi,rln1,ba,wk];refine Qgr ?_;simp -implicitDefEqProofs[wk];refine ⟨k,?_,by omega,Nat.lt_succ_self _⟩;simp only[e1];rw[<- List.map_set,rst]
         ((try simp only[k1,k2,hnx]);refine Ym.sub (by simp[lk,Ya,AV.keys,k1,k2,hnx]) ?_;simp only[k1,k2,hnx,Wkl,Zg5,and_true];(try simp[lk,Yc,Ya,AV.keys,k1,k2,hnx]))
end
theorem Zg8 {r:List Iss} {l:List Nte} (h:chN r l=0):Zcw r l=true:=by
 unfold chN at h
 split at h
 . cases q:Zcw r l
   . rw[q]at h;cases h
   . rfl
 . rename_i e;exact absurd h e
theorem Zg9 {r:List Iss} {l:List Nte} {s:List Int} {m:Int} (h:asN r l s m=0):chN r l=0/\truB l s=true/\inR m 1 999=true:=by
 unfold asN at h
 split at h
 . rename_i h1
   split at h
   . rename_i h2
     split at h
     . rename_i h3;exact ⟨h1,h2,h3⟩
     . cases h
   . cases h
 . rename_i e;exact absurd h e
theorem Zga {r:List Iss} {l:List Nte} (h:Zcw r l=true):l.length<=12:=by simp only[Zcw,Bool.and_eq_true,decide_eq_true_eq]at h;exact h.1.1
section
variable {G:Nat->Option (List AV)}
theorem Zgb (r:List Iss) (l:List Nte) (s:List Int) (m:Int) (hw:WfN l) (hr:Wf r) (hs:Sml s):PC Tryz.prog G 143 [.agg [.vsl (r.map isa),.vsl (l.map na)],.vsl (s.map ia),.int .i64 m] (.int .i64 (asN r l s m)):=by
 have hc:=Zd7 (G:=G) r l hw hr;have hi:=ZcH (G:=G) m 1 999
 (refine Z6M rfl λR hG hrd=>Qga ?_;subst hG)
 unfold asN;by_cases h0:chN r l=0
 . have ht:=Zg1 (G:=R.G) r l s (Zga (Zg8 h0)) hs;simp -implicitDefEqProofs[Z6K,Z6L];refine Qco (hc) (by simp) ?_;simp -implicitDefEqProofs[h0];refine Qco (ht) (by simp) ?_
   cases q:truB l s
   . simp -implicitDefEqProofs[]
   . simp -implicitDefEqProofs[];refine Qco (hi) (by simp) ?_
     cases q2:inR m 1 999
     . simp -implicitDefEqProofs[]
     . simp -implicitDefEqProofs[]
 . simp -implicitDefEqProofs[Z6K,Z6L];refine Qco (hc) (by simp) ?_;simp -implicitDefEqProofs[h0]
end
section
variable {G:Nat->Option (List AV)}
theorem Zgc {x y:Nte} (h:x≠y):(!decide (x.nu=y.nu)||(!decide (x.dy=y.dy)||(!decide (x.sg=y.sg)||(!decide (x.dr=y.dr)||(!decide (x.lt=y.lt)||(!decide (x.fr=y.fr)||(!decide (x.tu=y.tu)||(!decide (x.ca=y.ca)||(!(x.up == y.up) || !decide (x.wy=y.wy))))))))))=true:=by
 cases q:(!decide (x.nu=y.nu)||(!decide (x.dy=y.dy)||(!decide (x.sg=y.sg)||(!decide (x.dr=y.dr)||(!decide (x.lt=y.lt)||(!decide (x.fr=y.fr)||(!decide (x.tu=y.tu)||(!decide (x.ca=y.ca)||(!(x.up == y.up) || !decide (x.wy=y.wy))))))))))
 . refine absurd ?_ h;simp at q
   cases x;cases y;simp_all
 . rfl
theorem Zgd (a b:List Iss) (l k:List Nte) (ha:SmlR a) (hl:Sml l):PC Tryz.prog G 79 [.agg [.vsl (a.map isa),.vsl (l.map na)],.agg [.vsl (b.map isa),.vsl (k.map na)]] (.bool (decide (a=b/\l=k))):=by
 have hs:=Z9I (G:=G) a b ha;rw[rega,rega]at hs;unfold Sml at hl
 (refine Z6P rfl λR hG hrd=>Qga ?_;subst hG)
 simp -implicitDefEqProofs[Z6N,Z6O];refine Qco (hs) (by simp) ?_;by_cases h1:a=b
 . by_cases h2:l.length=k.length
   . have h2':(l.length:Int)=k.length:=(by omega);simp -implicitDefEqProofs[h1,h2'];refine Z9v (λi=>⟨[(5,.int .i64 i),(2,.ptr 2 0),(3,.ptr 3 0)],[(2,.box [.vsl (b.map isa),.vsl (l.map na)]),(3,.box [.vsl (b.map isa),.vsl (k.map na)])]⟩) (λi=>∀ j (h:j<l.length),j<i->l[j]=k[j]) l.length (by subst h1;(first|exact Ym.tm (by simp[lk])|exact Ym.sub (by simp[lk,Ya,AV.keys]) (by simp[lk,Yc,Ya,AV.keys]))) (by simp) ?_ ?_
     . intro i hi he;have hi2:i<k.length:=(by omega);have w1:IntKind.i64.wrap ((i:Int)+1)=(i:Int)+1:=Yf (by omega) (by omega);refine Qga ?_;by_cases h2:l[i]=k[i]
       . simp -implicitDefEqProofs[hi,hi2,na,w1,h2];refine ⟨rfl,by (first|exact Ym.tm (by simp[lk])|exact Ym.sub (by simp[lk,Ya,AV.keys]) (by simp[lk,Yc,Ya,AV.keys])),λj h1 h3=>?_⟩;by_cases e:j=i
         . subst e;exact h2
         . exact he j h1 (by omega)
       . have h3:¬l=k:=λe=>h2 (by subst e;rfl)
         have ne:=Zgc h2;simp -implicitDefEqProofs[hi,hi2,na,w1,ne];refine ⟨rfl,?_⟩;refine Qgr ?_;simp -implicitDefEqProofs[h3]
     . intro he;have h3:l=k:=List.ext_getElem h2 λj h1 h2=>he j h1 h1
       refine Qga ?_;simp -implicitDefEqProofs[];refine Qgr ?_;simp -implicitDefEqProofs[h3,h1]
   . have h2':¬(l.length:Int)=k.length:=(by omega);have h3:¬l=k:=λe=>h2 (by rw[e])
     simp -implicitDefEqProofs[h1,h2',h3]
 . simp -implicitDefEqProofs[h1]
theorem Zge (r:List Iss) (l:List Nte) (hr:SmlR r) (hl:Sml l):PC Tryz.prog G 68 [.agg [.vsl (r.map isa),.vsl (l.map na)]] (.agg [.vsl (r.map isa),.vsl (l.map na)]):=by
 have ht:=Zco (G:=G) r hr;rw[rega]at ht;unfold Sml at hl
 (refine Z6S rfl λR hG hrd=>Qga ?_;subst hG)
 by_cases h0:l=[]
 . simp -implicitDefEqProofs[Z6Q,Z6R,h0];refine Qco (ht) (by simp) ?_;simp -implicitDefEqProofs[h0]
   try rfl
 . have b2:l.length*72<=70368744177664:=(by omega);simp -implicitDefEqProofs[Z6Q,Z6R,h0];refine Qco (ht) (by simp) ?_;simp -implicitDefEqProofs[h0,na,b2]
   try rfl
end
section
variable {G:Nat->Option (List AV)}
end
section
variable {G:Nat->Option (List AV)}
end
section
variable {G:Nat->Option (List AV)}
end
def Nsub (x y:AV):Prop:=∀ (M:Nat->Prop) (W:World) (u:Value),PV M W x u->PV M W y u
theorem Nsub.rfl' {x:AV}:Nsub x x:=λ_ _ _ h=>h
theorem Nsub.nils:Nsub .nils (.vsl []):=λ_ _ _ h=>by
 cases h
 exact .vsl [] none 0 1 0 0 (λ_ _=>undef) (Nat.le_refl _) (Nat.zero_le _) (λh=>absurd rfl h) (λ_=>⟨rfl,rfl⟩) (by simp) (by simp) (by simp)
theorem Nsub.orNil (l:List (List AV)):Nsub (Yg l) (.vsl l):=by
 unfold Go.Proofs.YtcdlimgkliklhaaGreatDoor.Yg
 split
 . rename_i e;rw[e];exact .nils
 . exact .rfl'
def NsubL:List AV->List AV->Prop
 |[],[]=>True
 |x::xs,y::ys=>Nsub x y/\NsubL xs ys
 |_,_=>False
theorem NsubL.len:∀ {xs ys:List AV},NsubL xs ys->xs.length=ys.length
 |[],[],_=>rfl
 |_::_,_::_,h=>by simp only[List.length_cons,NsubL.len h.2]
 |[],_::_,h=>h.elim
 |_::_,[],h=>h.elim
theorem NsubL.at:∀ {xs ys:List AV},NsubL xs ys->∀ (i:Nat) (y:AV),ys[i]? = some y->∃ x,xs[i]? = some x/\Nsub x y
 |[],[],_,i,y,h=>by simp at h
 | x::xs,y::ys,h,0,z,e=>by
   simp only[List.getElem?_cons_zero,Option.some.injEq]at e;subst e;exact ⟨x,rfl,h.1⟩
 | x::xs,y::ys,h,i+1,z,e=>by
   simp only[List.getElem?_cons_succ]at e;obtain ⟨w,h1,h2⟩:=NsubL.at h.2 i z e;exact ⟨w,by simpa using h1,h2⟩
 |[],_::_,h,_,_,_=>h.elim
 |_::_,[],h,_,_,_=>h.elim
theorem Nsub.agg {xs ys:List AV} (h:NsubL xs ys):Nsub (.agg xs) (.agg ys):=λM W u hu=>by
 cases hu with
 | agg _ us h1 hx =>
   refine .agg ys us (by rw[h1,h.len]) λi y u hy hu=>?_
   obtain ⟨x,h2,h3⟩:=h.at i y hy;exact h3 _ _ _ (hx i x u h2 hu)
theorem PC.sub {P:Program} {G:Nat->Option (List AV)} {f:FuncId} {xs ys:List AV} {v:AV} (h:PC P G f ys v) (hs:NsubL xs ys):PC P G f xs v :=
 ⟨h.1,λM W vs hM hG hz hv=>h.2 M W vs hM hG (hz.trans hs.len) λi y u hi hu=>by
  obtain ⟨x,h2,h3⟩:=hs.at i y hi;exact h3 _ _ _ (hv i x u h2 hu)⟩
section
variable {G:Nat->Option (List AV)}
end
section
variable {G:Nat->Option (List AV)}
end
section
variable {G:Nat->Option (List AV)}
def rfp (d l:Int) (x:Iss):Bool:=decide (x.d=d/\x.l=l)
theorem Zgf {r:List Iss} {d l:Int}:(findN d l r).isSome=r.any (rfp d l):=by
 induction r with
 |nil=>rfl
 | cons x r ih =>
   simp only[findN,List.any_cons]
   split
   . rename_i h;simp[rfp,h]
   . rename_i h;have:rfp d l x=false:=decide_eq_false h;rw[ih,this,Bool.false_or]
end
section
variable {G:Nat->Option (List AV)}
end
section
variable {G:Nat->Option (List AV)}
end
section
variable {G:Nat->Option (List AV)}
end
section
variable {G:Nat->Option (List AV)}
end
section
variable {G:Nat->Option (List AV)}
end
section
variable {G:Nat->Option (List AV)}
end
abbrev Rf:=Int×Int
def frS (x:Stq):Rf:=(x.fd,x.fl)
def toS (x:Stq):Rf:=(x.td,x.tl)
def edg (L:List Stq):List (Rf×Rf):=L.map λx=>(frS x,toS x)
def pth (E:List (Rf×Rf)) (y:Rf):Nat->Rf->Bool
 |0,x=>decide (x=y)
 |n+1,x=>E.any λe=>decide (e.1=x)&&pth E y n e.2
def diN (E:List (Rf×Rf)) (y x:Rf):Option Nat:=(List.range (E.length+1)).find? λn=>pth E y n x
def diV (E:List (Rf×Rf)) (y x:Rf):Int:=match diN E y x with
 |some n=>n
 |none=>1048576
def md (E:List (Rf×Rf)) (y:Rf) (n:Nat) (x:Rf):Prop:=pth E y n x=true/\∀ m,m<n->pth E y m x=false
section
variable {E:List (Rf×Rf)} {x y z:Rf} {n m:Nat}
theorem Zgg:pth E y (n+1) x=true↔∃ e∈E,e.1=x/\pth E y n e.2=true:=by
 simp[pth,List.any_eq_true]
theorem Zgh (h1:md E y n x) (h2:md E y m x):n=m:=by
 rcases Nat.lt_trichotomy n m with h|h|h
 . have:=h2.2 n h;rw[h1.1]at this;cases this
 . exact h
 . have:=h1.2 m h;rw[h2.1]at this;cases this
theorem md_of:∀ n,pth E y n x=true->∃ m,m<=n/\md E y m x:=by
 intro n
 induction n using Nat.strongRecOn with
 | _ n ih =>
   intro h;by_cases c:∃ m,m<n/\pth E y m x=true
   . obtain ⟨m,h1,h2⟩:=c;obtain ⟨k,h3,h4⟩:=ih m h1 h2;exact ⟨k,by omega,h4⟩
   . refine ⟨n,Nat.le_refl _,h,λm hm=>?_⟩
     cases q:pth E y m x
     . rfl
     . exact absurd ⟨m,hm,q⟩ c
theorem Zgi (h:md E y (n+1) x):∃ e∈E,e.1=x/\md E y n e.2:=by
 obtain ⟨e,h1,h2,h3⟩:=Zgg.1 h.1;refine ⟨e,h1,h2,h3,λm hm=>?_⟩
 cases q:pth E y m e.2
 . rfl
 . have:=h.2 (m+1) (by omega);rw[Zgg.2 ⟨e,h1,h2,q⟩]at this;cases this
theorem Zgj:∀ (n:Nat) (x:Rf),md E y n x->∃ ss:List Rf,ss.length=n/\(∀ s∈ss,s∈E.map (·.1)/\∃ k,k<=n/\0<k/\md E y k s)/\ss.Nodup
 |0,x,_=>⟨[],rfl,by simp,.nil⟩
 | n + 1,x,h=>by
   obtain ⟨e,h1,h2,h3⟩:=Zgi h;obtain ⟨ss,l1,l2,l3⟩:=Zgj n e.2 h3;refine ⟨x::ss,by simp[l1],?_,List.nodup_cons.2 ⟨λhm=>?_,l3⟩⟩
   . intro s hs;rcases List.mem_cons.1 hs with rfl|hs
     . exact ⟨List.mem_map.2 ⟨e,h1,h2⟩,n+1,Nat.le_refl _,by omega,h⟩
     . obtain ⟨q1,k,q2,q3,q4⟩:=l2 s hs;exact ⟨q1,k,by omega,q3,q4⟩
   . obtain ⟨-,k,q2,-,q4⟩:=l2 x hm;have:=Zgh h q4;omega
theorem md_le (h:md E y n x):n<=E.length:=by
 obtain ⟨ss,l1,l2,l3⟩:=Zgj n x h;have:=List.Nodup.length_le_of_subset l3 (l₂:=E.map (·.1)) λs hs=>(l2 s hs).1
 simpa [l1] using this
theorem Zgk:diN E y x=some n↔md E y n x:=by
 unfold diN
 constructor
 . intro h;have h1:=List.find?_some h;refine ⟨h1,λm hm=>?_⟩;obtain ⟨-,us,vs,e,h2⟩:=List.find?_eq_some_iff_append.1 h;have e1:∀ k:Nat,(List.range (E.length+1))[k]? = (us++n::vs)[k]?:=λk=>by rw[e]
   have hn:us.length=n:=by
    have h3:=e1 us.length;rw[List.getElem?_append_right (Nat.le_refl _),Nat.sub_self,List.getElem?_cons_zero]at h3;obtain ⟨h4,h5⟩:=List.getElem?_eq_some_iff.1 h3;rw[List.getElem_range]at h5;exact h5
   have hm2:m∈us:=by
    have h3:=e1 m;have hl:m<(List.range (E.length+1)).length:=(by rw[e,List.length_append];omega);rw[List.getElem?_append_left (by omega),List.getElem?_eq_getElem hl,List.getElem_range]at h3;exact List.mem_of_getElem? h3.symm
   simpa using h2 m hm2
 . intro h;have hl:=md_le h;rw[List.find?_eq_some_iff_append];refine ⟨h.1,List.range n,(List.range (E.length-n)).map (n+1 + ·),?_,λm hm=>?_⟩
   . have:E.length+1=n+1+(E.length-n):=(by omega);rw[this,List.range_add,List.range_succ,List.append_assoc];rfl
   . simp[h.2 m (List.mem_range.1 hm)]
theorem Zgl:diN E y x=none↔∀ n,pth E y n x=false:=by
 constructor
 . intro h n
   cases q:pth E y n x
   . rfl
   . obtain ⟨m,-,hm⟩:=md_of n q;rw[Zgk.2 hm]at h;cases h
 . intro h
   cases q:diN E y x with
   |none=>rfl
   | some n =>
     have:=(Zgk.1 q).1;rw[h n]at this;cases this
end
theorem Zgm (o:List (Nat×AObj)) (l:List Rf):Yc o (.row 2 (l.map ita))=true:=by
 simp only[Yc,List.all_eq_true,List.mem_map];rintro x ⟨y,-,rfl⟩ v hv;simp only[ita,List.mem_cons,List.not_mem_nil,or_false]at hv;rcases hv with rfl|rfl <;> simp[Ya,AV.keys]
section
variable {G:Nat->Option (List AV)}
end
structure BfI (E:List (Rf×Rf)) (l:List Rf) (y:Rf) (out:List Int):Prop where
 len:out.length=l.length
 ok:∀ (i:Nat) (v:Int) (x:Rf),out[i]? = some v->l[i]? = some x->0<=v/\v<=1048576/\(v=1048576∨pth E y v.toNat x=true)/\(x=y->v=0)
def rlx (l:List Rf) (out:List Int) (e:Rf×Rf):Prop:=∃ (ka kb:Nat) (va vb:Int),l[ka]? = some e.1/\l[kb]? = some e.2/\out[ka]? = some va/\out[kb]? = some vb/\vb+1<va
def NoR (E:List (Rf×Rf)) (l:List Rf) (out:List Int):Prop:=∀ e∈E,¬rlx l out e
def NoI (L:List Stq) (l:List Rf) (out:List Int) (i:Nat):Prop:=∀ j (h:j<L.length),j<i->¬rlx l out (frS L[j],toS L[j])
theorem NoI.all {L:List Stq} {l:List Rf} {out:List Int} (h:NoI L l out L.length):NoR (edg L) l out:=by
 intro e he;obtain ⟨x,hx,rfl⟩:=List.mem_map.1 he;obtain ⟨j,hj,rfl⟩:=List.getElem_of_mem hx;exact h j hj hj
theorem NoI.step {L:List Stq} {l:List Rf} {out:List Int} {i:Nat} (h:NoI L l out i) (hi:i<L.length) (h1:¬rlx l out (frS L[i],toS L[i])):NoI L l out (i+1):=by
 intro j hj hji;rcases Nat.lt_or_ge j i with q|q
 . exact h j hj q
 . obtain rfl:j=i:=(by omega);exact h1
theorem BfI.start {E:List (Rf×Rf)} {l:List Rf} {y:Rf} {k:Nat} (hn:l.Nodup) (hk:l[k]? = some y):BfI E l y ((List.replicate l.length 1048576).set k 0):=by
 refine ⟨by simp,λi v x hv hx=>?_⟩;have hi:i<l.length:=(List.getElem?_eq_some_iff.1 hx).1;rw[List.getElem?_set]at hv
 split at hv
 . rename_i e;subst e;rw[List.length_replicate,if_pos hi,Option.some.injEq]at hv;rw[hk,Option.some.injEq]at hx;subst hv;subst hx;exact ⟨by omega,by omega,.inr (by simp[pth]),λ_=>rfl⟩
 . rename_i e;rw[List.getElem?_replicate,if_pos hi,Option.some.injEq]at hv;subst hv;refine ⟨by omega,by omega,.inl rfl,?_⟩;rintro rfl;exact absurd ((List.getElem?_inj hi hn).1 (hx.trans hk.symm)) (λq=>e q.symm)
theorem BfI.step {E:List (Rf×Rf)} {l:List Rf} {y:Rf} {out:List Int} (h:BfI E l y out) (hn:l.Nodup) {e:Rf×Rf} (he:e∈E) {ka kb:Nat} {va vb:Int} (h1:l[ka]? = some e.1) (h2:l[kb]? = some e.2) (h3:out[ka]? = some va) (h4:out[kb]? = some vb) (h5:vb+1<va) :
  BfI E l y (out.set ka (vb+1)):=by
 refine ⟨by simp[h.len],λi v x hv hx=>?_⟩;rw[List.getElem?_set]at hv
 split at hv
 . rename_i q;subst q;have hi:ka<out.length:=(List.getElem?_eq_some_iff.1 h3).1;rw[if_pos hi,Option.some.injEq]at hv;subst hv;obtain ⟨a1,a2,a3,a4⟩:=h.ok kb vb _ h4 h2;obtain ⟨b1,b2,b3,b4⟩:=h.ok ka va x h3 hx;rw[h1,Option.some.injEq]at hx;subst hx;refine ⟨by omega,by omega,.inr ?_,λq=>?_⟩
   . rcases a3 with a3|a3
     . omega
     . rw[show (vb+1).toNat=vb.toNat+1 by omega];exact Zgg.2 ⟨e,he,rfl,a3⟩
   . have:=b4 q;omega
 . exact h.ok i v x hv hx
theorem BfI.fin {E:List (Rf×Rf)} {l:List Rf} {y:Rf} {out:List Int} (h:BfI E l y out) (hE:E.length<=1000) (hl:∀ e∈E,e.1∈l/\e.2∈l) (hr:∀ e∈E,¬rlx l out e):out=l.map (diV E y):=by
 have low:∀ (m:Nat) (i:Nat) (v:Int) (x:Rf),out[i]? = some v->l[i]? = some x->pth E y m x=true->v<=m:=by
  intro m
  induction m with
  | zero =>
    intro i v x hv hx hp;have:x=y:=(by simpa [pth] using hp);have:=(h.ok i v x hv hx).2.2.2 this;omega
  | succ m ih =>
    intro i v x hv hx hp;obtain ⟨e,he,rfl,hp2⟩:=Zgg.1 hp;obtain ⟨kb,hkb,hb⟩:=List.getElem_of_mem (hl e he).2;have hb':l[kb]? = some e.2:=(by rw[List.getElem?_eq_getElem hkb,hb]);have hkb2:kb<out.length:=(by rw[h.len];exact hkb);have h2:=ih kb _ _ (List.getElem?_eq_getElem hkb2) hb' hp2;rcases Int.lt_or_le (out[kb]+1) v with h3|h3
    . exact absurd ⟨i,kb,v,out[kb],hx,hb',hv,List.getElem?_eq_getElem hkb2,h3⟩ (hr e he)
    . omega
 refine List.ext_getElem? λi=>?_
 rw[List.getElem?_map];by_cases hi:i<l.length
 . have hi2:i<out.length:=(by rw[h.len];exact hi);rw[List.getElem?_eq_getElem hi2,List.getElem?_eq_getElem hi,Option.map_some,Option.some.injEq];obtain ⟨a1,a2,a3,-⟩:=h.ok i _ _ (List.getElem?_eq_getElem hi2) (List.getElem?_eq_getElem hi);have hlow:=λm=>low m i _ _ (List.getElem?_eq_getElem hi2) (List.getElem?_eq_getElem hi)
   unfold diV
   cases q:diN E y l[i] with
   | none =>
     rcases a3 with a3|a3
     . exact a3
     . rw[Zgl.1 q]at a3;cases a3
   | some n =>
     have hm:=Zgk.1 q;have hle:=md_le hm;have h1:=hlow n hm.1;rcases a3 with a3|a3
     . omega
     . have h2:n<=out[i].toNat:=by
        rcases Nat.lt_or_ge out[i].toNat n with h2|h2
        . have:=hm.2 _ h2;rw[a3]at this;cases this
        . exact h2
       simp only;omega
 . rw[List.getElem?_eq_none (by rw[h.len];omega),List.getElem?_eq_none (by omega)];rfl
section
variable {G:Nat->Option (List AV)}
end
section
variable {r:List Iss}
end
def knLk (x:Rf):List (Rf×Int)->Option Int
 |[]=>none
 |p::r=>if x=p.1 then some p.2 else knLk x r
theorem Zgn {x a:Rf} {v:Int}:∀ {kn:List (Rf×Int)},knLk x (kn++[(a,v)])=match knLk x kn with
  |some w=>some w
  |none=>if x=a then some v else none
 |[]=>by simp[knLk]
 | p::r=>by
   simp only[List.cons_append,knLk]
   split
   . rfl
   . exact Zgn
structure LnS where
 left:List Int
 kn:List (Rf×Int)
 nx:List Rf
 deriving Inhabited
def lnS (n:Int) (s:LnS) (i:Nat) (e:Rf×Rf):LnS :=
 if (i:Int)∈s.left then match knLk e.2 s.kn with
  | some k=>if n<=k then s else match knLk e.1 s.kn with
    |some _=>⟨s.left.erase i,s.kn,s.nx⟩
    |none=>⟨s.left.erase i,s.kn++[(e.1,n)],s.nx++[e.1]⟩
  |none=>s
 else s
structure LnV (E:List (Rf×Rf)) (y:Rf) (n:Nat) (s:LnS):Prop where
 a:∀ x d,knLk x s.kn=some d->∃ m:Nat,d=m/\md E y m x/\m<=n
 b:∀ x (m:Nat),md E y m x->m<=n->knLk x s.kn=some (m:Int)
 c:∀ i (h:i<E.length),(i:Int) ∉ s.left->knLk E[i].1 s.kn≠none
structure LnW (E:List (Rf×Rf)) (y:Rf) (n:Nat) (s0 s:LnS) (i:Nat):Prop where
 a:∀ x d,knLk x s.kn=some d->∃ m:Nat,d=m/\md E y m x/\m<=n+1
 b:∀ x (m:Nat),md E y m x->m<=n->knLk x s.kn=some (m:Int)
 c:∀ j (h:j<E.length),(j:Int) ∉ s.left->knLk E[j].1 s.kn≠none
 e:∀ j (h:j<E.length),j<i->∀ m:Nat,md E y m E[j].2->m<=n->knLk E[j].1 s.kn≠none
 f:s.kn=s0.kn++s.nx.map λx=>(x,(n:Int)+1)
 g:∀ x∈s.nx,md E y (n+1) x
section
variable {E:List (Rf×Rf)} {y:Rf} {n m:Nat} {s0 s:LnS} {i:Nat}
theorem Zgo {x a:Rf} {v:Int} {kn:List (Rf×Int)} (h:knLk x kn≠none):knLk x (kn++[(a,v)])≠none:=by
 rw[Zgn]
 cases q:knLk x kn with
 |none=>exact absurd q h
 |some w=>simp
theorem Zgp {l:List Int} {a b:Int} (h:a ∉ l.erase b):a ∉ l∨a=b:=by
 by_cases q:a=b
 . exact .inr q
 . exact .inl λhm=>h ((List.mem_erase_of_ne q).2 hm)
theorem LnW.step (h:LnW E y n s0 s i) (hi:i<E.length):LnW E y n s0 (lnS ((n:Int)+1) s i E[i]) (i+1):=by
 have lst:∀ {P:Nat->Prop},(∀ j,j<i->P j)->P i->∀ j,j<i+1->P j:=λh1 h2 j hj=>by
  rcases Nat.lt_or_ge j i with q|q
  . exact h1 j q
  . obtain rfl:j=i:=(by omega);exact h2
 unfold lnS;by_cases c1:(i:Int)∈s.left
 . rw [if_pos c1]
   cases q:knLk E[i].2 s.kn with
   | none =>
     refine ⟨h.a,h.b,h.c,λj hj hji m hm hmn=>?_,h.f,h.g⟩;rcases Nat.lt_or_ge j i with p|p
     . exact h.e j hj p m hm hmn
     . obtain rfl:j=i:=(by omega);rw[h.b _ m hm hmn]at q;cases q
   | some k =>
     simp only;obtain ⟨m,hm1,hm2,hm3⟩:=h.a _ _ q;by_cases c2:(n:Int)+1<=k
     . rw[if_pos c2];refine ⟨h.a,h.b,h.c,λj hj hji m' hm' hmn=>?_,h.f,h.g⟩;rcases Nat.lt_or_ge j i with p|p
       . exact h.e j hj p m' hm' hmn
       . obtain rfl:j=i:=(by omega);have:=Zgh hm' hm2;omega
     . rw [if_neg c2]
       have c3:∀ j (h:j<E.length),(j:Int) ∉ s.left.erase (i:Int)->j≠i->knLk E[j].1 s.kn≠none:=λj hj hn hne=>by
        rcases Zgp hn with p|p
        . exact h.c j hj p
        . exact absurd (by omega) hne
       cases r:knLk E[i].1 s.kn with
       | some w =>
         refine ⟨h.a,h.b,λj hj hn=>?_,λj hj hji m' hm' hmn=>?_,h.f,h.g⟩
         . by_cases p:j=i
           . subst p;rw[r];simp
           . exact c3 j hj hn p
         . rcases Nat.lt_or_ge j i with p|p
           . exact h.e j hj p m' hm' hmn
           . obtain rfl:j=i:=(by omega);rw[r];simp
       | none =>
         have hp:pth E y (m+1) E[i].1=true:=Zgg.2 ⟨E[i],List.getElem_mem hi,rfl,hm2.1⟩;obtain ⟨m1,g1,g2⟩:=md_of _ hp
         have g3:m1=n+1:=by
          rcases Nat.lt_or_ge n m1 with p|p
          . omega
          . rw[h.b _ m1 g2 p]at r;cases r
         subst g3;refine ⟨λx d hx=>?_,λx m' hm' hmn=>?_,λj hj hn=>?_,λj hj hji m' hm' hmn=>?_,?_,λx hx=>?_⟩
         . simp only at hx;rw[Zgn]at hx
           cases p:knLk x s.kn with
           |some w=>rw[p]at hx;simp only[Option.some.injEq]at hx;subst hx;exact h.a x _ p
           | none =>
             rw[p]at hx;simp only at hx
             split at hx
             . rename_i e1;subst e1;simp only[Option.some.injEq]at hx;exact ⟨n+1,by omega,g2,Nat.le_refl _⟩
             . cases hx
         . simp only;rw[Zgn,h.b x m' hm' hmn]
         . simp only;by_cases p:j=i
           . subst p;rw[Zgn,r];simp
           . exact Zgo (c3 j hj hn p)
         . simp only;rcases Nat.lt_or_ge j i with p|p
           . exact Zgo (h.e j hj p m' hm' hmn)
           . obtain rfl:j=i:=(by omega);rw[Zgn,r];simp
         . simp only[List.map_append,List.map_cons,List.map_nil];rw[h.f,List.append_assoc]
         . simp only[List.mem_append,List.mem_singleton]at hx;rcases hx with hx|rfl
           . exact h.g x hx
           . exact g2
 . rw[if_neg c1];refine ⟨h.a,h.b,h.c,λj hj hji m hm hmn=>?_,h.f,h.g⟩;rcases Nat.lt_or_ge j i with p|p
   . exact h.e j hj p m hm hmn
   . obtain rfl:j=i:=(by omega);exact h.c j hj c1
theorem LnW.fin (h:LnW E y n s0 s E.length):LnV E y (n+1) s:=by
 refine ⟨h.a,λx m hm hmn=>?_,h.c⟩;rcases Nat.lt_or_ge m (n+1) with p|p
 . exact h.b x m hm (by omega)
 . obtain rfl:m=n+1:=(by omega);obtain ⟨e,he,rfl,h2⟩:=Zgi hm;obtain ⟨j,hj,rfl⟩:=List.getElem_of_mem he;have h3:=h.e j hj hj n h2 (Nat.le_refl _)
   cases q:knLk E[j].1 s.kn with
   |none=>exact absurd q h3
   | some d =>
     obtain ⟨m',h4,h5,h6⟩:=h.a _ _ q;have:=Zgh hm h5;subst this;subst h4;rfl
end
section
variable {G:Nat->Option (List AV)}
end
section
variable {α:Type} {p:α->Bool} {l:List α} {j:Nat}
end
section
variable {G:Nat->Option (List AV)}
end
section
variable {P:Program} {R:Run} {st:St} {a:Act} {W:World} {κ:Nat->Option (Nat×Nat)}
end
theorem Zgq (ρ:Nat->Nat) (xs:List AV):(AObj.box xs).ren ρ = .box (xs.map (AV.ren ρ)):=rfl
section
variable {G:Nat->Option (List AV)}
end
section
variable {G:Nat->Option (List AV)}
end
def Zgr (G:Nat->Option (List AV)) (M:Nat->Prop) (W:World) (N:Nat) (rd:Option Nat):Run :=
 { G:=G,M:=M,X:=λ_=>False,W0:=W,N:=N,E0:={ M:=M,loc:=λ_=>none,row:=λ_=>none },rd:=rd,nm:=true }
theorem Zgs {G:Nat->Option (List AV)} {M:Nat->Prop} {W:World} {N:Nat} {rd:Option Nat} {t:List (Nat×AV)} {a:Act} (hgr:GR G M W) (hM:∀ b,M b->b<W.heap.size) (hd:a.defers=[]) (hN:a.tmps.size=N) (ht:TT' M W t a):SR (Zgr G M W N rd) ⟨t,[]⟩ a W:=by
 have hGM:∀ b,b<W.heap.size->¬M b->¬((⟨t,[]⟩ : St).env M (λ_=>none)).M b/\W.heap[b]? = W.heap[b]?:=λb _ h1=>⟨(by rintro (h2 | ⟨k,s,h2⟩) <;> first|exact h1 h2|cases h2),rfl⟩
 refine ⟨λ_=>none,⟨[],by simp[hd,Zgr],.nil,by simp,λ_=>rfl⟩,hN,λn x hx=>.pv ((ht n x hx).mono hGM (Nat.le_refl _)),(λk o ho=>by simp[St.get,lk]at ho),(λk p hk=>by cases hk),(λk k' b s s' hk=>by cases hk),hM,λ_ _ h=>h,Kp.refl _ _,(hgr.mono hGM (Nat.le_refl _)),⟨Nat.le_refl _,hGM,λk p hk=>(by cases hk),λk sz m hk=>(by cases hk)⟩,λ_ _=>⟨rfl,rfl⟩⟩
theorem endG {G:Nat->Option (List AV)} {M:Nat->Prop} {W W':World} {N:Nat} {rd:Option Nat} {st:St} {a:Act} (h:SR (Zgr G M W N rd) st a W') {t:List (Nat×AV)} (hw:Ym st ⟨t,[]⟩) (hp:∀ q∈t,q.2.pure=true) :
  a.defers=[]/\a.tmps.size=N/\TT' M W' t a/\Ext W W':=by
 obtain ⟨κ,hk⟩:=hw _ _ _ h;obtain ⟨cs,e,-,-,hz⟩:=hk.defers
 have hκ:∀ k,κ k=none:=λk=>by
  cases e:κ k with
  |none=>rfl
  |some p=>obtain ⟨o,ho⟩:=hk.dom k p e;simp[St.get,lk]at ho
 refine ⟨by rw[e,hz rfl];rfl,hk.size,λn x hx=>?_,⟨hk.kp.os,hk.kp.tape,hk.kp.output,hk.kp.size,λi hi=>hk.kp.block i hi (λh=>h)⟩⟩;refine ((hk.tm n x hx).toPV (hp (n,x) (Z4F hx))).mono (λb _ hb=>⟨λh=>hb (.inl h),rfl⟩) (Nat.le_refl _)
section
variable {G:Nat->Option (List AV)}
end
section
variable {G:Nat->Option (List AV)}
end
section
variable {G:Nat->Option (List AV)}
end
section
variable {G:Nat->Option (List AV)}
end
section
variable {G:Nat->Option (List AV)}
end
section
variable {G:Nat->Option (List AV)}
end
section
variable {G:Nat->Option (List AV)}
end
def sbN (U:List Int) (v:Nat):Nat->List Int
 |0=>[]
 |i+1=>if v / 2 ^ i % 2=1 then sbN U v i++[U.getD i 0] else sbN U v i
def sbT (U:List Int) (v:Nat):List Int:=sbN U v U.length
theorem Zgt (U:List Int) (v:Nat):∀ i,(sbN U v i).length<=i
 |0=>Nat.le_refl _
 | i+1=>by
   have:=Zgt U v i;rw[sbN];split
   . simp;omega
   . omega
theorem Zgu (l:List Nte):∀ i,i<=l.length->((opI l i).map λj=>(nAt l j).nu).Perm ((opN l i).map (·.nu))
 |0,_=>by simp[opI,opN]
 | i + 1,h=>by
   have ih:=Zgu l i (by omega);have hi:i<l.length:=(by omega);have e:=Zcu hi;have ea:=Zct hi;rw[e];unfold opI;rw[ea];by_cases c:l[i].sg=1
   . rw[if_pos c,if_pos c];have:=(ZcZ (λj=>(nAt l j).nu) (opI l i) i).map λj=>(nAt l j).nu
     refine this.trans ?_;rw[List.map_cons,List.map_append,List.map_cons,List.map_nil,ea];exact (List.Perm.cons _ ih).trans (List.perm_append_singleton _ _).symm
   . rw[if_neg c,if_neg c];exact ih
def opQ (l:List Nte):List Int:=sortI (opU l)
theorem Zgv (l:List Nte):nuI l=opQ l:=by
 refine (ZcN (Zgu l l.length (Nat.le_refl _)) ?_).symm;have:=Zd4 l l.length;exact List.pairwise_map.2 this
theorem Zgw {r:List Iss} {l:List Nte} (h:Zcw r l=true):(opQ l).length<=5:=by
 simp only[Zcw,Bool.and_eq_true,decide_eq_true_eq]at h;rw[opQ,ZcO,opU,List.length_map];exact h.2
theorem bitU {v i:Nat} (h:v<64) (hi:i<6):IntKind.i64.wrap ((((v:Int).fdiv (2 ^ (min i IntKind.i64.bits)) % 2 ^ IntKind.i64.bits).toNat &&& (1 % 2 ^ IntKind.i64.bits):Nat):Int)=if v / 2 ^ i % 2=1 then 1 else 0:=by
 have h1:∀ n:_root_.Fin 64,∀ k:_root_.Fin 6,IntKind.i64.wrap ((((n.val:Int).fdiv (2 ^ (min k.val IntKind.i64.bits)) % 2 ^ IntKind.i64.bits).toNat &&& (1 % 2 ^ IntKind.i64.bits):Nat):Int)=if n.val / 2 ^ k.val % 2=1 then 1 else 0:=by decide +kernel
 exact h1 ⟨v,h⟩ ⟨i,hi⟩
theorem shU {n:Nat} (h:n<6):IntKind.i64.wrap (2 ^ (min n IntKind.i64.bits))=((2 ^ n:Nat):Int):=by
 have h1:∀ k:_root_.Fin 6,IntKind.i64.wrap (2 ^ (min k.val IntKind.i64.bits))=((2 ^ k.val:Nat):Int):=(by decide +kernel);exact h1 ⟨n,h⟩
theorem pow5 {n:Nat} (h:n<=5):2 ^ n<=32:=by
 have:n=0∨n=1∨n=2∨n=3∨n=4∨n=5:=(by omega);rcases this with rfl|rfl|rfl|rfl|rfl|rfl <;> decide
theorem PC.out {P:Program} {G:Nat->Option (List AV)} {f:FuncId} {xs:List AV} {v w:AV} (h:PC P G f xs v) (hs:Nsub v w):PC P G f xs w :=
 ⟨h.1,λM W vs a b c d=>(h.2 M W vs a b c d).mono λ_ _ ⟨u,h1,h2,h3⟩=>⟨u,h1,hs _ _ _ h2,h3⟩⟩
def trR (U:List Int) (v:Nat):List AV:=[.vsl ((sbT U v).map ia)]
def trK (U:List Int) (v:Nat):List (List AV):=(List.range v).map (trR U)
theorem Zgx (U:List Int) (v:Nat):trK U (v+1)=trK U v++[[.vsl ((sbT U v).map ia)]]:=by simp[trK,trR,List.range_succ]
theorem Zgy (U:List Int) (v:Nat):(trK U v).length=v:=by simp[trK]
theorem Zgz (o:List (Nat×AObj)) (U:List Int) (v:Nat):Yc o (.row 1 (trK U v))=true:=by
 simp only[Yc,List.all_eq_true,trK,List.mem_map];rintro x ⟨y,-,rfl⟩ w hw;simp only[trR,List.mem_singleton]at hw;subst hw;simp[Ya,AV.keys]
theorem ZgA (U:List Int) (v:Nat):(trK U v).all (λr=>r.all AV.pure)=true:=by simp[trK,trR,AV.pure,ia]
theorem ZgB (ok:Nat->Bool) (st:St) (U:List Int) (v:Nat):(trK U v).map (λr=>r.map (frzA ok st))=trK U v:=by
 simp only[trK,List.map_map]
 congr 1
 funext w;simp[trR,frzA,frz,AV.keys]
def iaM (l:List Int):List (List AV):=l.map ia
theorem ZgC (l:List Int) (x:Int):iaM (l++[x])=iaM l++[[.int .i64 x]]:=by simp[iaM,ia]
theorem ZgD (l:List Int):(iaM l).length=l.length:=List.length_map _
theorem ZgE (o:List (Nat×AObj)) (l:List Int):Yc o (.row 1 (iaM l))=true:=ZeR o l
theorem ZgF (l:List Int):(iaM l).all (λr=>r.all AV.pure)=true:=by simp[iaM,ia,AV.pure]
def thT (V:AV) (v:Nat):List (Nat×AV):=[(5,.int .i64 v),(3,V),(1,.ptr 1 0)]
def thO (r:List Iss) (l:List Nte) (v:Nat):List (Nat×AObj):=if v=0 then [(1,.box [.vsl (r.map isa),.vsl (l.map na)])] else [(44,.row 1 (trK (opQ l) v)),(1,.box [.vsl (r.map isa),.vsl (l.map na)])]
def thL (v:Nat):AV:=if v=0 then .nils else .osl 44 v
def thS (r:List Iss) (l:List Nte) (V:AV) (v:Nat):St:=⟨(4,thL v)::thT V v,thO r l v⟩
def thI (r:List Iss) (l:List Nte) (V:AV) (v i:Nat):St:=⟨(7,.int .i64 i)::(6,.osl 17 (sbN (opQ l) v i).length)::(4,thL v)::thT V v,(17,.row 1 (iaM (sbN (opQ l) v i)))::thO r l v⟩
section
variable {G:Nat->Option (List AV)}
theorem ZgG (U:List Int) (v i:Nat):sbN U v (i+1)=if v / 2 ^ i % 2=1 then sbN U v i++[U.getD i 0] else sbN U v i:=rfl
set_option maxHeartbeats 2000000 in
theorem ZgH (r:List Iss) (l:List Nte) (h:Zcw r l=true):PC Tryz.prog G 62 [.agg [.vsl (r.map isa),.vsl (l.map na)]] (.vsl (trK (opQ l) (2 ^ (opQ l).length))):=by
 have h12:=Zga h;have h5:=Zgw h;have hO:=ZfU (G:=G) r l h12;have hp5:=pow5 h5;have eU:=Zgv l;have lU:(opQ l).length=(opI l l.length).length:=(by rw[<- eU,ZfW]);have hlt:=Zd0 l l.length;have sh:=shU (n:=(opQ l).length) (by omega);rw[lU]at sh hp5 h5 ⊢
 have eget:∀ i (hi:i<(opI l l.length).length),(opQ l).getD i 0=(nAt l (opI l l.length)[i]).nu:=λi hi=>by
  rw[<- eU,nuI,List.getD_eq_getElem?_getD,List.getElem?_map,List.getElem?_eq_getElem hi];rfl
 have eT:∀ v,sbT (opQ l) v=sbN (opQ l) v (opI l l.length).length:=λv=>by rw[sbT,lU]
 have hpos:0<2 ^ (opI l l.length).length:=Nat.pos_of_ne_zero (by simp);generalize hI:opI l l.length=I at *;have hO:=PC.out hO (.orNil _);generalize hKe:2 ^ I.length=K at *
 (refine ZfR rfl λR hG hrd=>Qga ?_;subst hG)
 simp -implicitDefEqProofs[ZfP,ZfQ];refine Qco (hO) (by simp) ?_;simp -implicitDefEqProofs[];refine Z9v (thS r l (.vsl (I.map ja))) (λ_=>True) K ?_ trivial ?_ ?_
 . simp only[thS,thT,thL,thO,if_true]
   ((try simp only[ja]);refine Ym.sub (by simp[lk,Ya,AV.keys,ja]) ?_;simp only[ja,Wkl,and_true];(try simp[lk,Yc,Ya,AV.keys,ja]))
 . intro v hv _;have wv:IntKind.i64.wrap ((v:Int)+1)=(v:Int)+1:=Yf (by omega) (by omega);have tk:=Zgx (opQ l) v;have tln:=Zgy (opQ l) v;have eTv:=eT v;have hT1:thL (v+1) = .osl 44 (v+1):=rfl;have hO1:thO r l (v+1)=[(44,.row 1 (trK (opQ l) (v+1))),(1,.box [.vsl (r.map isa),.vsl (l.map na)])]:=rfl;refine Qga ?_;by_cases v0:v=0
   case' pos =>
    have hT:thL v = .nils:=(by simp[thL,v0]);have hO:thO r l v=[(1,.box [.vsl (r.map isa),.vsl (l.map na)])]:=(by simp[thO,v0]);have tk0:trK (opQ l) v=[]:=(by rw[v0];rfl);rw[tk0,List.nil_append]at tk;simp -implicitDefEqProofs[thS,thT,hT,hO,sh,hv]
   case' neg =>
    have hT:thL v = .osl 44 v:=(by simp[thL,v0]);have hO:thO r l v=[(44,.row 1 (trK (opQ l) v)),(1,.box [.vsl (r.map isa),.vsl (l.map na)])]:=(by simp[thO,v0]);simp -implicitDefEqProofs[thS,thT,hT,hO,sh,hv]
   all_goals
    refine Z9v (thI r l (.vsl (I.map ja)) v) (λ_=>True) I.length ?_ trivial ?_ ?_
    . have e0:sbN (opQ l) v 0=[]:=rfl;have e1:iaM []=[]:=rfl;simp only[thI,thT,hT,hO,e0,e1]
      ((try simp only[ja]);refine Ym.sub (by simp[lk,Ya,AV.keys,ja]) ?_;simp only[ja,Wkl,Zgz,and_true];(try simp[lk,Yc,Ya,AV.keys,ja]))
    . intro i hi _;have wi:IntKind.i64.wrap ((i:Int)+1)=(i:Int)+1:=Yf (by omega) (by omega);have bU:=bitU (v:=v) (i:=i) (by omega) (by omega);have sn:=ZgG (opQ l) v i;rw[eget i hi]at sn;have sl:=Zgt (opQ l) v i;obtain ⟨hj,-⟩:=hlt I[i] (List.getElem_mem hi);have hna:=Zct hj;have hnx:na l[I[i]]=[.int .i64 l[I[i]].nu,.int .i64 l[I[i]].dy,.int .u8 l[I[i]].sg,.int .i64 l[I[i]].dr,.int .i64 l[I[i]].lt,.int .i64 l[I[i]].fr,.int .i64 l[I[i]].tu,.int .i64 l[I[i]].ca,.bool l[I[i]].up,.int .u8 l[I[i]].wy]:=rfl;have bb:((sbN (opQ l) v i).length+1)*8<=70368744177664:=(by omega);have lnm:=ZgD (sbN (opQ l) v i);have em:=ZgC (sbN (opQ l) v i) l[I[i]].nu;rw[hna]at sn;refine Qga ?_;by_cases cb:v / 2 ^ i % 2=1
      . rw[if_pos cb]at sn bU;simp -implicitDefEqProofs[thI,thT,hT,hO,hi,bU,ja,wi,sn,hj,hnx,bb,lnm];refine ⟨rfl,?_⟩;rw[<- em]
        ((try simp only[ja]);refine Ym.sub (by simp[lk,Ya,AV.keys,ja]) ?_;simp only[ja,Wkl,Zgz,ZgE,and_true];(try simp[lk,Yc,Ya,AV.keys,ja]))
      . rw[if_neg cb]at sn bU;simp -implicitDefEqProofs[thI,thT,hT,hO,hi,bU,ja,wi,sn]
        ((try simp only[ja]);refine Ym.sub (by simp[lk,Ya,AV.keys,ja]) ?_;simp only[ja,Wkl,Zgz,ZgE,and_true];(try simp[lk,Yc,Ya,AV.keys,ja]))
    . intro _;have k5:=ZgF (sbN (opQ l) v I.length);have k6:=ZgD (sbN (opQ l) v I.length);have k7:(sbN (opQ l) v I.length).map ia=iaM (sbN (opQ l) v I.length):=rfl;rw[eTv,k7]at tk;have bb:(v+1)*24<=70368744177664:=(by omega);refine Qga ?_;simp -implicitDefEqProofs[thI,thT,hT,hO];refine Z2N mixed 2 ?_;simp -implicitDefEqProofs[];refine GO0 (Z2M (st':=⟨(6,.vsl (iaM (sbN (opQ l) v I.length)))::(4,thL v)::thT (.vsl (I.map ja)) v,thO r l v⟩) (Ym.trans (Ym.frz (λk=>k == 17) _) ?_) ?_)
      . simp only[thT,hT,hO]
        ((try simp only[Yi,frzA,frzO,frz,Yh,Yj,St.get,AV.pure,ZgF,ZgD,ja,k5,k6,ZgB]);refine Ym.sub (by simp[lk,Ya,AV.keys,Yi,frzA,frzO,frz,Yh,Yj,St.get,AV.pure,ZgF,ZgD,ja,k5,k6,ZgB]) ?_;simp only[Yi,frzA,frzO,frz,Yh,Yj,St.get,AV.pure,ZgF,ZgD,ja,k5,k6,ZgB,Wkl,Zgz,and_true];(try simp[lk,Yc,Ya,AV.keys,Yi,frzA,frzO,frz,Yh,Yj,St.get,AV.pure,ZgF,ZgD,ja,k5,k6,ZgB]))
      refine Qga ?_;simp -implicitDefEqProofs[thT,hT,hO,bb,tln];refine Qgr ?_;simp -implicitDefEqProofs[thS,thT,hT1,hO1,wv];rw[<- tk]
      ((try simp only[ja,v0]);refine Ym.sub (by simp[lk,Ya,AV.keys,ja,v0]) ?_;simp only[ja,v0,Wkl,Zgz,and_true];(try simp[lk,Yc,Ya,AV.keys,ja,v0]))
 . intro _;have k0:¬K=0:=(by omega);have hT:thL K = .osl 44 K:=(by simp[thL,k0]);have hO:thO r l K=[(44,.row 1 (trK (opQ l) K)),(1,.box [.vsl (r.map isa),.vsl (l.map na)])]:=(by simp[thO,k0]);have tp:=ZgA (opQ l) K;have tl:=Zgy (opQ l) K;refine Qga ?_;simp -implicitDefEqProofs[thS,thT,hT,hO,sh];refine Qgr ?_;simp -implicitDefEqProofs[tp,tl]
end
def zN1:Nte:=⟨0,0,0,0,1,0,0,0,false,0⟩
def byV (s:List Int) (m:Int) (l:List Nte) (d:Int):Nat->Nte
 |0=>zN1
 |i+1=>if (nAt l i).dr=d/\fB s [] m l i=true then nAt l i else byV s m l d i
def byK (s:List Int) (m:Int) (l:List Nte) (d:Int):Nat->List (Int×Bool)->List (Int×Bool)
 |0,K=>K
 |i+1,K=>if (nAt l i).dr=d then if fB s [] m l i=true then ifK s [] m l l.length i K else byK s m l d i (ifK s [] m l l.length i K) else byK s m l d i K
def z10:List AV:=[.int .i64 0,.int .i64 0,.int .u8 0,.int .i64 0,.int .i64 0,.int .i64 0,.int .i64 0,.int .i64 0,.bool false,.int .u8 0]
def byS (F sV:AV) (m d:Int) (x:Nat×List (Int×Bool)):St :=
 ⟨[(7,.int .i64 ((x.1:Int)-1)),(6,.ptr 6 0),(0,F),(1,.func (.func 162) [] fcC),(2,.int .i64 d)],(6,.box z10)::fcO F sV .nils m x.2⟩
section
variable {G:Nat->Option (List AV)}
set_option maxHeartbeats 2000000 in
theorem by_pb (r:List Iss) (l:List Nte) (s:List Int) (m d:Int) (K:List (Int×Bool)) (hl:l.length<=12) (hs:Sml s) (hK:OkK s [] m l K) :
  PB Tryz.prog G 113 (fcO (fileA r l) (.vsl (s.map ia)) .nils m K) [fileA r l,.func (.func 162) [] fcC,.int .i64 d] (.agg (na (byV s m l d l.length))) (fcO (fileA r l) (.vsl (s.map ia)) .nils m (byK s m l d l.length K)):=by
 have hI:=λi K hi hK=>is_pb (G:=G) r l false true s [] m hl hs (by simp[Sml]) l.length i K hi (by omega) hK
 have e1:liA false s = .vsl (s.map ia):=(by simp[liA]);have e2:liA true [] = .nils:=(by simp[liA]);rw[e1,e2]at hI;have hF:fileA r l = .vptr [.vsl (r.map isa),.vsl (l.map na),.vsl ((nums r).map ia),opA l] 0:=rfl;have fF:∀ ok st,frz ok st 6 (fileA r l)=some (fileA r l):=λok st=>by rw[hF];simp[frz,AV.keys]
 have kF:(fileA r l).keys=[]:=(by rw[hF];simp[AV.keys]);have rF:=λρ=>AV.ren_pure (ρ:=ρ) (fileA r l) (ZfJ r l)
 simp only[hF]at hI fF kF rF ⊢;refine Z6f (Nat.le_of_ble_eq_true rfl) λR hG hrd=>?_
 subst hG;refine Qga ?_;have w0:IntKind.i64.wrap ((l.length:Int)-1)=(l.length:Int)-1:=Yf (by omega) (by omega);simp -implicitDefEqProofs[Z6d,Z6e,fcO,fcC,w0];refine Z1Q (byS (.vptr [.vsl (r.map isa),.vsl (l.map na),.vsl ((nums r).map ia),opA l] 0) (.vsl (s.map ia)) m d) (λx=>x.1<=l.length/\OkK s [] m l x.2/\byV s m l d x.1=byV s m l d l.length/\byK s m l d x.1 x.2=byK s m l d l.length K) (λx=>x.1) (l.length,K) ?_ ⟨Nat.le_refl _,hK,rfl,rfl⟩ ?_
 . simp only[byS,z10,fcO,fcC]
   ((try simp only[ia]);refine Ym.sub (by simp[lk,Ya,AV.keys,ia]) ?_;simp only[ia,Wkl,Zfx,and_true];(try simp[lk,Yc,Ya,AV.keys,ia]))
 rintro ⟨i,K'⟩ ⟨h1,h2,h3,h4⟩;simp only at h1 h2 h3 h4
 cases i with
 | zero =>
   refine Qga ?_;simp -implicitDefEqProofs[byS,z10,fcO,fcC];refine Qgr ?_;rw[<- h3,<- h4];simp -implicitDefEqProofs[byV,byK,zN1,na];simp -implicitDefEqProofs[FinB,Yi,newK,Zfz,ZfE,frzA,frz,fF,tupV,Z29,Z6e]
 | succ i =>
   have hi:i<l.length:=h1;have hI:=hI i K' hi h2;have hx:=Zct hi;rw[byV]at h3;rw[byK]at h4;generalize hxx:nAt l i=x at *;have hlx:l[i]=x:=hx.symm;have hnx:na x=[.int .i64 x.nu,.int .i64 x.dy,.int .u8 x.sg,.int .i64 x.dr,.int .i64 x.lt,.int .i64 x.fr,.int .i64 x.tu,.int .i64 x.ca,.bool x.up,.int .u8 x.wy]:=rfl;have w1:IntKind.i64.wrap ((i:Int)-1)=(i:Int)-1:=Yf (by omega) (by omega);have w2:((i:Int)+1-1)=(i:Int):=(by omega);refine Qga ?_;by_cases c:x.dr=d
   . simp only[fcO]at hI;simp -implicitDefEqProofs[byS,z10,fcO,fcC,hi,hlx,hnx,c,w2];refine Yd.sem (Z1B.byref hI id (by simp) (by simp) (by simp[St.get,lk,AV.ren,AObj.ren,Zfy,ia,rF]) (by simp only[List.mem_cons,List.not_mem_nil,or_false,forall_eq_or_imp,forall_eq,Zfx,and_true];simp[lk,Yc,Ya,AV.keys]) (by simp[Ya,AV.keys,lk,fcC]) rfl (by simp[AV.ren,fcC]) rfl rfl) ?_;simp -implicitDefEqProofs[Yl,AV.ren,AObj.ren,Zfy,ia,rF]
     cases hb:fB s [] m l i
     . rw[if_pos c,hb,if_neg (by simp)]at h4;rw[if_neg (λh=>by rw[hb]at h;cases h.2)]at h3;simp -implicitDefEqProofs[w1];refine ⟨(i,ifK s [] m l l.length i K'),?_,⟨by omega,Zft _ _ h2,h3,h4⟩,Nat.lt_succ_self _⟩;simp only[byS,z10,fcO,fcC]
       (refine Ym.sub (by simp[lk,Ya,AV.keys]) ?_;simp only[Wkl,Zfx,and_true];(try simp[lk,Yc,Ya,AV.keys]))
     . rw[if_pos c,hb,if_pos rfl]at h4;rw[if_pos ⟨c,hb⟩]at h3;rw[<- h3,<- h4];have hnd:na x=[.int .i64 x.nu,.int .i64 x.dy,.int .u8 x.sg,.int .i64 d,.int .i64 x.lt,.int .i64 x.fr,.int .i64 x.tu,.int .i64 x.ca,.bool x.up,.int .u8 x.wy]:=(by rw[<- c];rfl);simp -implicitDefEqProofs[hnd];refine Qgr ?_;simp -implicitDefEqProofs[FinB,Yi,newK,Zfz,ZfE,frzA,frz,fF,tupV,Z29,Z6e]
   . rw[if_neg (λh=>c h.1)]at h3;rw[if_neg c]at h4;simp -implicitDefEqProofs[byS,z10,fcO,fcC,hi,hlx,hnx,c,w1,w2];refine ⟨(i,K'),?_,⟨by omega,h2,h3,h4⟩,Nat.lt_succ_self _⟩;simp only[byS,z10,fcO,fcC]
     ((try simp only[ia]);refine Ym.sub (by simp[lk,Ya,AV.keys,ia]) ?_;simp only[ia,Wkl,Zfx,and_true];(try simp[lk,Yc,Ya,AV.keys,ia]))
end
open Qq in
def ZgI:RCode :=
 .seq (r 0 [b 3 0,b 4 1,n 6 (.bool false)]) (.seq (r 1 [m 7 2,w 8 (.mkf (.func 174) [] [.t 3,.t 4]),c 9 85 [7,8],t 10 9,m 6 10]) .ret)
def ZgJ:List RRes:=[.t 6]
theorem ZgK:PCt Tryz.prog 138 Tryz.f138 ZgI ZgJ:=pcT Tryz.func138 rfl (by kernel_rfl) (by kernel_rfl) (by kernel_rfl)
open Qq in
def ZgL:RCode :=
 .seq (r 0 [n 4 (.bool false)]) (.seq (r 1 [m 5 0,l 6 1,o 7 .lss 5 6,m 8 7,g 8 false (m 9 0),g 8 false (l 10 2),g 8 false (o 11 .gtr 9 10),u 12 8 11,m 4 12]) .ret)
def ZgM:List RRes:=[.t 4]
theorem ZgN:PCt Tryz.prog 174 Tryz.f174 ZgL ZgM:=pcT Tryz.func174 rfl (by kernel_rfl) (by kernel_rfl) (by kernel_rfl)
open Qq in
def ZgO:RCode :=
 .seq (r 0 [b 3 1,n 4 O]) (.seq (r 1 [m 5 0,w 6 (.nilck (.t 5)),f 7 0 6,f 8 2 7,l 9 8,w 10 (.mkf (.func 141) [] [.t 3]),c 11 140 [9,10],m 4 11]) .ret)
def ZgP:List RRes:=[.t 4]
theorem ZgQ:PCt Tryz.prog 82 Tryz.f82 ZgO ZgP:=pcT Tryz.func82 rfl (by kernel_rfl) (by kernel_rfl) (by kernel_rfl)
open Qq in
def ZgR:RCode :=
 .seq (r 0 [b 2 0,n 3 (.bool false)]) (.seq (r 1 [f 4 0 2,l 5 4,l 6 1,o 7 .eql 5 6,m 3 7]) .ret)
def ZgS:List RRes:=[.t 3]
theorem ZgT:PCt Tryz.prog 141 Tryz.f141 ZgR ZgS:=pcT Tryz.func141 rfl (by kernel_rfl) (by kernel_rfl) (by kernel_rfl)
open Qq in
def ZgU:RCode :=
 .seq (r 0 [b 3 1,n 4 (.bool false)]) (.seq (r 1 [f 5 0 3,l 6 5,w 7 (.bsl false 1 1 [O] [(0,.t 6)]),w 8 (.call 138 [.c I,.c (.int .i64 9999),.t 7]),m 9 8,g 9 true (f 10 1 3),g 9 true (l 11 10),g 9 true (w 12 (.bsl false 1 1 [O] [(0,.t 11)])),g 9 true (w 13 (.call 138 [.c O,.c (.int .i64 14610),.t 12])),v 14 9 13,m 4 14]) .ret)
def ZgV:List RRes:=[.t 4]
theorem ZgW:PCt Tryz.prog 252 Tryz.f252 ZgU ZgV:=pcT Tryz.func252 rfl (by kernel_rfl) (by kernel_rfl) (by kernel_rfl)
open Qq in
def ZgX:RCode :=
 .seq (r 0 [b 3 1,n 4 (.bool false)]) (.seq (r 1 [m 5 0,f 6 2 3,l 7 6,c 8 82 [5,7],k 9 .geq 8 O,m 4 9]) .ret)
def ZgY:List RRes:=[.t 4]
theorem ZgZ:PCt Tryz.prog 253 Tryz.f253 ZgX ZgY:=pcT Tryz.func253 rfl (by kernel_rfl) (by kernel_rfl) (by kernel_rfl)
open Qq in
def Zh0:RCode :=
 .seq (r 0 [b 3 1,n 4 (.bool false)]) (.seq (r 1 [m 5 0,w 6 (.nilck (.t 5)),f 7 0 6,f 8 0 7,f 9 0 8,f 10 0 9,l 11 10,w 12 (.mkf (.func 256) [] [.t 3]),c 13 255 [11,12],m 4 13]) .ret)
def Zh1:List RRes:=[.t 4]
theorem Zh2:PCt Tryz.prog 254 Tryz.f254 Zh0 Zh1:=pcT Tryz.func254 rfl (by kernel_rfl) (by kernel_rfl) (by kernel_rfl)
open Qq in
def Zh3:RCode :=
 .seq (r 0 [b 2 0,n 3 (.bool false)]) (.seq (r 1 [f 4 3 1,L 5 2 4,f 6 0 2,l 7 6,f 8 1 2,l 9 8,w 10 (.build [O,O] [(0,1,.t 7),(1,1,.t 9)]),w 11 (.eqs false [.i,.i] (.t 5) (.t 10)),m 3 11]) .ret)
def Zh4:List RRes:=[.t 3]
theorem Zh5:PCt Tryz.prog 256 Tryz.f256 Zh3 Zh4:=pcT Tryz.func256 rfl (by kernel_rfl) (by kernel_rfl) (by kernel_rfl)
open Qq in
def Zh6:RCode :=
 .seq (r 0 [b 3 1,n 4 (.bool false)]) (.seq (r 1 [f 5 6 3,l 6 5,k 7 .leq 6 (.int .u8 2),m 4 7]) .ret)
def Zh7:List RRes:=[.t 4]
theorem Zh8:PCt Tryz.prog 257 Tryz.f257 Zh6 Zh7:=pcT Tryz.func257 rfl (by kernel_rfl) (by kernel_rfl) (by kernel_rfl)
open Qq in
def Zh9:RCode :=
 .seq (r 0 [b 3 1,n 4 (.bool false)]) (.seq (r 1 [f 5 5 3,l 6 5,k 7 .eql 6 (.int .i64 (-1)),m 8 7,g 8 false (f 9 1 3),g 8 false (l 10 9),g 8 false (f 11 5 3),g 8 false (l 12 11),g 8 false (w 13 (.bsl false 1 1 [O] [(0,.t 12)])),g 8 false (w 14 (.call 138 [.t 10,.c (.int .i64 14610),.t 13])),g 8 false (m 15 14),g 15 true (f 16 6 3),g 15 true (l 17 16),g 15 true (k 18 .eql 17 (.int .u8 0)),g 8 false (v 19 15 18),u 20 8 19,m 4 20]) .ret)
def Zha:List RRes:=[.t 4]
theorem Zhb:PCt Tryz.prog 258 Tryz.f258 Zh9 Zha:=pcT Tryz.func258 rfl (by kernel_rfl) (by kernel_rfl) (by kernel_rfl)
open Qq in
def Zhc:RCode :=
 .seq (r 0 [n 2 (.bool false)]) (.scope (.seq (.seq (r 1 [m 12 0,w 13 (.nilck (.t 12)),f 14 0 13,f 15 2 14,l 16 15,e 17 16,k 18 .gtr 17 (.int .i64 6),m 19 18,g 19 false (m 20 0),g 19 false (w 21 (.nilck (.t 20))),g 19 false (f 22 0 21),g 19 false (f 23 3 22),g 19 false (l 24 23),g 19 false (e 25 24),g 19 false (k 26 .gtr 25 (.int .i64 30)),u 27 19 26]) (.cond (.t 27) (.seq (r 2 [n 2 (.bool false)]) .ret) .skip)) (.seq (.seq (r 3 [m 28 0,w 29 (.nilck (.t 28)),f 30 0 29,f 31 2 30,l 32 31,e 33 32,n 34 O]) (.block 0 (.loop (.seq (r 4 [o 35 .lss 34 33]) (.seq (.cond (.t 35) .skip (.exit 0)) (.seq (.block 1 (.seq (r 5 [m 36 34,i 37 4 32 34,L 38 4 37,w 4 (.alloc [O,O,O,.nils]),m 3 36,s 4 4 38]) (.seq (.seq (R 6 [f 39 0 4,a [0] (l 40 39),a [1] (w 41 (.bsl false 1 1 [O] [(0,.t 40)])),a [2] (w 42 (.call 138 [.c I,.c (.int .i64 9999),.t 41])),a [3] (t 43 42),a [4,3] (m 44 43),a [5] (g 44 false (m 45 3)),a [6,5] (g 44 false (k 46 .gtr 45 O)),a [7,5,5] (g 44 false (m 47 46)),a [8] (g 47 true (m 48 0)),a [9,8] (g 47 true (w 49 (.nilck (.t 48)))),a [10,8] (g 47 true (f 50 0 49)),a [11,8] (g 47 true (f 51 2 50)),a [12,8] (g 47 true (l 52 51)),a [8] (g 47 true (m 53 3)),a [14,8] (g 47 true (k 54 .sub 53 I)),a [13,15,8] (g 47 true (i 55 4 52 54)),a [16,8] (g 47 true (f 56 0 55)),a [17,8] (g 47 true (l 57 56)),a [8] (g 47 true (f 58 0 4)),a [19,8] (g 47 true (l 59 58)),a [18,20,8] (g 47 true (o 60 .geq 57 59)),a [8,21,5] (g 44 false (v 61 47 60)),a [5,22] (u 62 44 61),a [23,8] (m 63 62),a [24] (g 63 false (f 64 1 4)),a [25,24] (g 63 false (l 65 64)),a [24] (g 63 false (f 66 2 4)),a [27,24] (g 63 false (l 67 66)),a [26,28,24] (g 63 false (w 68 (.bsl false 1 2 [O,O] [(0,.t 65),(1,.t 67)]))),a [29,24,24] (g 63 false (w 69 (.call 138 [.c I,.c (.int .i64 999),.t 68]))),a [30,24] (g 63 false (t 70 69)),a [24,31] (u 71 63 70),a [32,30] (m 72 71),a [33] (g 72 false (f 73 1 4)),a [34,33] (g 72 false (l 74 73)),a [33] (g 72 false (f 75 2 4)),a [36,33] (g 72 false (l 76 75)),a [35,37,33] (g 72 false (o 77 .gtr 74 76)),a [33,38] (u 78 72 77),a [39,33] (m 79 78),a [40] (g 79 false (f 80 3 4)),a [41,40] (g 79 false (l 81 80)),a [42,40] (g 79 false (e 82 81)),a [43,40] (g 79 false (k 83 .gtr 82 (.int .i64 8))),a [40,44] (u 84 79 83)]) (.cond (.t 84) (.seq (r 7 [n 2 (.bool false)]) .ret) .skip)) (.seq (r 8 [f 85 3 4,l 86 85,e 87 86,n 88 O]) (.block 2 (.loop (.seq (r 9 [o 89 .lss 88 87]) (.seq (.cond (.t 89) .skip (.exit 2)) (.seq (.block 3 (.seq (r 10 [m 90 88,i 91 1 86 88,l 92 91,m 5 90,m 6 92]) (.seq (r 11 [m 93 0,w 94 (.nilck (.t 93)),f 95 4 94,l 96 95,m 97 6,c 98 87 [96,97],t 99 98,m 100 99,g 100 false (m 101 5),g 100 false (k 102 .gtr 101 O),g 100 false (m 103 102),g 103 true (f 104 3 4),g 103 true (l 105 104),g 103 true (m 106 5),g 103 true (k 107 .sub 106 I),g 103 true (i 108 1 105 107),g 103 true (l 109 108),g 103 true (m 110 6),g 103 true (o 111 .geq 109 110),g 100 false (v 112 103 111),u 113 100 112]) (.cond (.t 113) (.seq (r 12 [n 2 (.bool false)]) .ret) .skip)))) (r 13 [k 114 .add 88 I,m 88 114])))))))))) (r 14 [k 115 .add 34 I,m 34 115]))))))) (.seq (r 15 [n 7 (.bool true)]) (.seq (.label 0) (.seq (.seq (r 16 [m 116 0,w 117 (.nilck (.t 116)),f 118 0 117,f 119 3 118,l 120 119,e 121 120,n 122 O]) (.block 4 (.loop (.seq (r 17 [o 123 .lss 122 121]) (.seq (.cond (.t 123) .skip (.exit 4)) (.seq (.block 5 (.seq (r 18 [m 124 122,i 125 7 120 122,L 126 7 125,w 9 (.alloc [O,O,O,O,O,O,.int .u8 0]),m 8 124,s 7 9 126]) (.seq (.seq (R 19 [m 127 8,a [0] (k 128 .gtr 127 O),a [1] (m 129 128),a [2] (g 129 true (m 130 0)),a [3,2] (g 129 true (w 131 (.nilck (.t 130)))),a [4,2] (g 129 true (f 132 0 131)),a [5,2] (g 129 true (f 133 3 132)),a [6,2] (g 129 true (l 134 133)),a [2] (g 129 true (m 135 8)),a [8,2] (g 129 true (k 136 .sub 135 I)),a [7,9,2] (g 129 true (i 137 7 134 136)),a [10,2] (g 129 true (f 138 0 137)),a [11,2] (g 129 true (l 139 138)),a [2] (g 129 true (f 140 0 9)),a [13,2] (g 129 true (l 141 140)),a [12,14,2] (g 129 true (o 142 .geq 139 141)),a [2,15] (v 143 129 142)]) (.cond (.t 143) (.seq (r 20 [n 2 (.bool false)]) .ret) .skip)) (.seq (r 21 [w 144 (.load true 5 (.g 1)),n 145 O]) (.block 6 (.loop (.seq (r 22 [k 146 .lss 145 (.int .i64 5)]) (.seq (.cond (.t 146) .skip (.exit 6)) (.seq (.block 7 (.seq (r 23 [w 147 (.vop (.aidx true 5 1) [(.t 144),(.t 145)]),w 11 (.alloc [.nilf]),s 1 11 147]) (.seq (r 24 [f 148 0 11,l 149 148,m 150 0,L 151 7 9,w 152 (.callv (.t 149) [.t 150,.t 151]),m 7 152]) (.seq (r 25 [m 153 7,t 154 153]) (.cond (.t 154) (.exit 4) .skip))))) (r 26 [k 155 .add 145 I,m 145 155])))))))))) (r 27 [k 156 .add 122 I,m 122 156]))))))) (.seq (r 28 [m 157 7,m 2 157]) .ret)))))))
def Zhd:List RRes:=[.t 2]
theorem Zhe:PCt Tryz.prog 132 Tryz.f132 Zhc Zhd:=pcT Tryz.func132 rfl (by kernel_rfl) (by kernel_rfl) (by kernel_rfl)
open Qq in
def Zhf:RCode :=
 .seq (r 0 [b 1 0,n 2 .nilp,n 3 O]) (.seq (.seq (r 1 [f 6 0 1,L 7 2 6,c 8 130 [7],m 4 8]) (.seq (r 2 [m 9 4,k 10 .neq 9 O]) (.cond (.t 10) (.seq (r 3 [m 11 4,n 2 .nilp,m 3 11]) .ret) .skip))) (.seq (r 4 [L 12 4 1,w 13 (.build [.nils,.nils,.nils,.nils,.nils] [(0,4,.t 12)]),b 14 13,m 5 14]) (.seq (r 5 [m 16 5,f 17 0 1,f 18 0 17,L 19 1 18,c 20 131 [19],m 15 20,x 21 0 15,x 22 1 15,w 23 (.nilck (.t 16)),f 24 4 23,s 1 24 21]) (.seq (.seq (r 6 [m 25 5,c 26 132 [25],t 27 26]) (.cond (.t 27) (.seq (r 7 [n 2 .nilp,n 3 (.int .i64 70)]) .ret) .skip)) (.seq (r 8 [m 28 5,m 2 28,n 3 O]) .ret)))))
def Zhg:List RRes:=[.t 2,.t 3]
theorem Zhh:PCt Tryz.prog 76 Tryz.f76 Zhf Zhg:=pcT Tryz.func76 rfl (by kernel_rfl) (by kernel_rfl) (by kernel_rfl)
open Qq in
def Zhi:RCode :=
 .seq (r 0 [b 3 0,n 6 .nilp,n 7 O]) (.seq (r 1 [L 11 4 3,c 12 76 [11],m 10 12,x 13 0 10,x 14 1 10,m 8 13,m 9 14]) (.seq (.seq (r 2 [m 15 9,k 16 .neq 15 O]) (.cond (.t 16) (.seq (r 3 [m 17 9,n 6 .nilp,m 7 17]) .ret) .skip)) (.seq (.seq (r 4 [m 18 1,w 19 (.bsl false 1 1 [O] [(0,.t 18)]),w 20 (.call 138 [.c O,.c (.int .i64 14610),.t 19]),t 21 20,m 22 21,g 22 false (m 23 2),g 22 false (w 24 (.bsl false 1 1 [O] [(0,.t 23)])),g 22 false (w 25 (.call 138 [.c I,.c (.int .i64 999),.t 24])),g 22 false (t 26 25),u 27 22 26]) (.cond (.t 27) (.seq (r 5 [n 6 .nilp,n 7 (.int .i64 2)]) .ret) .skip)) (.seq (r 6 [m 28 8,m 6 28,n 7 O]) .ret))))
def Zhj:List RRes:=[.t 6,.t 7]
theorem Zhk:PCt Tryz.prog 89 Tryz.f89 Zhi Zhj:=pcT Tryz.func89 rfl (by kernel_rfl) (by kernel_rfl) (by kernel_rfl)
open Qq in
def Zhl:RCode :=
 .seq (r 0 [b 5 0,n 10 .nilp,n 11 O]) (.seq (r 1 [L 15 4 5,m 16 1,m 17 2,c 18 89 [15,16,17],m 14 18,x 19 0 14,x 20 1 14,w 12 (.alloc [.nilp]),s 1 12 19,m 13 20]) (.seq (.seq (r 2 [m 21 13,k 22 .neq 21 O]) (.cond (.t 22) (.seq (r 3 [m 23 13,n 10 .nilp,m 11 23]) .ret) .skip)) (.seq (.seq (r 4 [l 24 12,m 25 3,c 26 82 [24,25],k 27 .lss 26 O,m 28 27,g 28 false (m 29 4),g 28 false (w 30 (.mkf (.func 127) [] [.t 12])),g 28 false (c 31 85 [29,30]),u 32 28 31]) (.cond (.t 32) (.seq (r 5 [n 10 .nilp,n 11 (.int .i64 6)]) .ret) .skip)) (.seq (r 6 [l 33 12,m 10 33,n 11 O]) .ret))))
def Zhm:List RRes:=[.t 10,.t 11]
theorem Zhn:PCt Tryz.prog 69 Tryz.f69 Zhl Zhm:=pcT Tryz.func69 rfl (by kernel_rfl) (by kernel_rfl) (by kernel_rfl)
open Qq in
def Zho:RCode :=
 .seq (r 0 [n 3 (.bool false)]) (.seq (r 1 [l 4 1,w 5 (.nilck (.t 4)),f 6 4 5,l 7 6,m 8 0,c 9 87 [7,8],t 10 9,m 3 10]) .ret)
def Zhp:List RRes:=[.t 3]
theorem Zhq:PCt Tryz.prog 127 Tryz.f127 Zho Zhp:=pcT Tryz.func127 rfl (by kernel_rfl) (by kernel_rfl) (by kernel_rfl)
open Qq in
def Zhr:RCode :=
 .seq (r 0 [b 2 0,b 3 1,n 4 .nilf]) (.seq (r 1 [w 5 (.mkf (.func 128) [] [.t 2,.t 3]),m 4 5]) .ret)
def Zhs:List RRes:=[.t 4]
theorem Zht:PCt Tryz.prog 70 Tryz.f70 Zhr Zhs:=pcT Tryz.func70 rfl (by kernel_rfl) (by kernel_rfl) (by kernel_rfl)
open Qq in
def Zhu:RCode :=
 .seq (r 0 [l 7 1,w 8 (.nilck (.t 7)),f 9 0 8,f 10 3 9,l 11 10,e 12 11,n 13 O]) (.block 0 (.loop (.seq (r 1 [o 14 .lss 13 12]) (.seq (.cond (.t 14) .skip (.exit 0)) (.seq (.block 1 (.seq (r 2 [m 15 13,i 16 7 11 13,L 17 7 16,w 5 (.alloc [O,O,O,O,O,O,.int .u8 0]),m 4 15,s 7 5 17]) (.seq (r 3 [f 18 5 5,l 19 18,k 20 .neq 19 (.int .i64 (-1)),m 21 20,g 21 true (f 22 5 5),g 21 true (l 23 22),g 21 true (l 24 2),g 21 true (o 25 .leq 23 24),v 26 21 25,m 6 26]) (.seq (r 4 [f 27 1 5,l 28 27,l 29 2,o 30 .leq 28 29,m 31 30,g 31 true (m 32 6),g 31 true (t 33 32),v 34 31 33,m 35 34,g 35 true (f 36 6 5),g 35 true (l 37 36),g 35 true (k 38 .neq 37 (.int .u8 2)),v 39 35 38,m 40 39,g 40 true (m 41 0),g 40 true (m 42 4),g 40 true (L 43 7 5),g 40 true (w 44 (.callv (.t 41) [.t 42,.t 43])),g 40 true (t 45 44),v 46 40 45]) (.cond (.t 46) .ret .skip))))) (r 5 [k 47 .add 13 I,m 13 47]))))))
open Qq in
def Zhv:RCode :=
 .seq (r 0 [b 6 2,b 7 3,n 8 .nils]) (.seq (r 1 [w 9 (.alloc [O]),z (.store 1 (.t 9) (.c O))]) (.seq (r 2 [w 10 (.alloc [.nils])]) (.seq (.seq (r 3 [m 14 0,m 15 1,c 16 70 [14,15]]) (.block 0 (.rngf (.t 16) [17,18] (r 4 [w 12 (.alloc [O,O,O,O,O,O,.int .u8 0]),s 7 12 18]) (.block 1 (.seq (.seq (r 5 [f 19 2 12,l 20 19,l 21 6,o 22 .neq 20 21,m 23 22,g 23 false (f 24 3 12),g 23 false (f 25 0 24),g 23 false (l 26 25),g 23 false (l 27 7),g 23 false (o 28 .neq 26 27),u 29 23 28]) (.cond (.t 29) (.exit 1) .skip)) (.seq (r 6 [f 30 6 12,l 31 30,k 32 .eql 31 (.int .u8 1)]) (.cond (.t 32) (r 7 [l 33 10,f 34 3 12,f 35 1 34,l 36 35,w 37 (.bsl false 1 1 [O] [(0,.t 36)]),w 38 (.app 1 8 (.t 33) (.t 37)),s 1 10 38]) (r 8 [l 39 9,f 40 3 12,f 41 1 40,l 42 41,w 43 (.mx true (.t 39) [.t 42]),s 1 9 43])))))))) (.seq (r 9 [l 44 10,l 45 9,w 46 (.bsl false 1 1 [O] [(0,.t 45)]),w 47 (.app 1 8 (.t 44) (.t 46)),m 13 47]) (.seq (r 10 [m 48 13,c 49 115 [48]]) (.seq (r 11 [m 50 13,c 51 116 [50],m 13 51]) (.seq (r 12 [m 52 13,m 53 13,l 54 9,c 55 129 [53,54],w 56 (.slc 1 (.t 52) (some (.t 55)) none),m 8 56]) .ret)))))))
def Zhw:List RRes:=[.t 8]
theorem Zhx:PCt Tryz.prog 74 Tryz.f74 Zhv Zhw:=pcT Tryz.func74 rfl (by kernel_rfl) (by kernel_rfl) (by kernel_rfl)
open Qq in
def Zhy:RCode :=
 .seq (r 0 [n 4 O]) (.seq (.seq (r 1 [m 6 0,e 7 6,n 8 O]) (.block 0 (.loop (.seq (r 2 [o 9 .lss 8 7]) (.seq (.cond (.t 9) .skip (.exit 0)) (.seq (.block 1 (.seq (r 3 [m 10 8,m 5 10]) (.seq (r 4 [m 11 1,m 12 0,m 13 5,i 14 4 12 13,L 15 4 14,w 16 (.callv (.t 11) [.t 15])]) (.cond (.t 16) (.seq (r 5 [m 17 5,m 4 17]) .ret) .skip)))) (r 6 [k 18 .add 8 I,m 8 18]))))))) (.seq (r 7 [n 4 (.int .i64 (-1))]) .ret))
def Zhz:List RRes:=[.t 4]
theorem ZhA:PCt Tryz.prog 140 Tryz.f140 Zhy Zhz:=pcT Tryz.func140 rfl (by kernel_rfl) (by kernel_rfl) (by kernel_rfl)
open Qq in
def ZhB:RCode :=
 .seq (r 0 [n 4 O]) (.seq (.seq (r 1 [m 6 0,e 7 6,n 8 O]) (.block 0 (.loop (.seq (r 2 [o 9 .lss 8 7]) (.seq (.cond (.t 9) .skip (.exit 0)) (.seq (.block 1 (.seq (r 3 [m 10 8,m 5 10]) (.seq (r 4 [m 11 1,m 12 0,m 13 5,i 14 5 12 13,L 15 5 14,w 16 (.callv (.t 11) [.t 15])]) (.cond (.t 16) (.seq (r 5 [m 17 5,m 4 17]) .ret) .skip)))) (r 6 [k 18 .add 8 I,m 8 18]))))))) (.seq (r 7 [n 4 (.int .i64 (-1))]) .ret))
def ZhC:List RRes:=[.t 4]
theorem ZhD:PCt Tryz.prog 259 Tryz.f259 ZhB ZhC:=pcT Tryz.func259 rfl (by kernel_rfl) (by kernel_rfl) (by kernel_rfl)
open Qq in
def ZhE:RCode :=
 .seq (r 0 [n 4 (.bool false)]) (.seq (r 1 [m 5 0,m 6 1,c 7 259 [5,6],k 8 .geq 7 O,m 4 8]) .ret)
def ZhF:List RRes:=[.t 4]
theorem ZhG:PCt Tryz.prog 255 Tryz.f255 ZhE ZhF:=pcT Tryz.func255 rfl (by kernel_rfl) (by kernel_rfl) (by kernel_rfl)
open Qq in
def ZhH:RCode :=
 .seq (r 0 [n 2 .nils]) (.seq (.seq (r 1 [m 6 0,e 7 6,k 8 .lss 7 (.int .i64 2)]) (.cond (.t 8) (.seq (r 2 [m 9 0,m 2 9]) .ret) .skip)) (.seq (.seq (r 3 [n 3 I]) (.block 0 (.loop (.seq (.seq (r 4 [m 10 3,m 11 0,e 12 11,o 13 .lss 10 12]) (.cond (.t 13) .skip (.exit 0))) (.seq (.block 1 (.seq (R 6 [m 16 0,m 17 3,a [0,1] (i 18 1 16 17),a [2] (l 19 18),m 20 0,m 21 3,a [5] (k 22 .sub 21 I),a [4,6] (i 23 1 20 22),a [7] (l 24 23),a [3,8] (o 25 .eql 19 24)]) (.cond (.t 25) (.seq (r 7 [m 26 0,m 27 3,w 28 (.slc 1 (.t 26) (some (.t 27)) none),m 4 28]) (.seq (.seq (r 8 [n 5 I]) (.block 2 (.loop (.seq (.seq (r 9 [m 29 5,m 30 4,e 31 30,o 32 .lss 29 31]) (.cond (.t 32) .skip (.exit 2))) (.seq (.block 3 (.seq (R 11 [m 35 4,m 36 5,a [0,1] (i 37 1 35 36),a [2] (l 38 37),m 39 4,m 40 5,a [5] (k 41 .sub 40 I),a [4,6] (i 42 1 39 41),a [7] (l 43 42),a [3,8] (o 44 .neq 38 43)]) (.cond (.t 44) (.seq (r 12 [m 45 0,m 46 3,m 47 4,m 48 5,i 49 1 47 48,l 50 49,i 51 1 45 46,s 1 51 50]) (r 13 [m 52 3,k 53 .add 52 I,m 3 53])) .skip))) (r 10 [m 33 5,k 34 .add 33 I,m 5 34])))))) (.seq (r 14 [m 54 0,m 55 3,w 56 (.slc 1 (.t 54) (some (.t 55)) none),z (.clr 1 [O] (.t 56))]) (.seq (r 15 [m 57 0,m 58 3,w 59 (.slc 1 (.t 57) none (some (.t 58))),m 2 59]) .ret)))) .skip))) (r 5 [m 14 3,k 15 .add 14 I,m 3 15])))))) (.seq (r 16 [m 60 0,m 2 60]) .ret)))
def ZhI:List RRes:=[.t 2]
theorem ZhJ {G:Nat->Option (List AV)} {objs objs':List (Nat×AObj)} {args:List AV} {v:AV} (hn:args.length<=Tryz.f116.ntmps) (h:∀ R:Run,R.G=G->R.Top->AR Tryz.prog R ZhH ⟨iniT 0 args,objs⟩ (FinB ZhI v objs')):PB Tryz.prog G 116 objs args v objs' :=
 PB_of Tryz.func116 rfl (by kernel_rfl) (rc:=ZhH) (by kernel_rfl) (rs:=ZhI) (by kernel_rfl) hn (λR _ hG hr=>h R hG hr)
structure Hld where
 id:Int
 fr:Int
 to:Int
 ds:List Int
structure Prt where
 no:Int
 dy:Int
 ho:Int
 dw:Int
 lt:Int
 bk:Int
 lo:Int
deriving DecidableEq
def hoa (h:Hld):List AV:=[.int .i64 h.id,.int .i64 h.fr,.int .i64 h.to,.vsl (h.ds.map ia)]
def ptA (x:Prt):List AV:=[.int .i64 x.no,.int .i64 x.dy,.int .i64 x.ho,.int .i64 x.dw,.int .i64 x.lt,.int .i64 x.bk,.int .u8 x.lo]
def outB (x:Prt) (day:Int):Bool:=decide (x.dy<=day)&&(decide (x.bk = -1)||decide (day<x.bk)) && !decide (x.lo=2)
theorem ZhK {a b:List Int} (ha:a.Pairwise (· < ·)) (hb:b.Pairwise (· < ·)) (h:∀ x,x∈a↔x∈b):a=b:=by
 have na:a.Nodup:=ha.imp λh=>Int.ne_of_lt h
 have nb:b.Nodup:=hb.imp λh=>Int.ne_of_lt h
 exact List.Perm.eq_of_pairwise (le:=λx y:Int=>x<y) (λx y _ _ h1 h2=>by omega) ha hb ((List.perm_ext_iff_of_nodup na nb).2 h)
def cmpG (p:Int):List Int->List Int
 |[]=>[]
 |x::t=>if x=p then cmpG p t else x::cmpG x t
def cmpI:List Int->List Int
 |[]=>[]
 |a::t=>a::cmpG a t
theorem ZhL:∀ (l:List Int) (p:Int),SrtI (p::l)->(cmpG p l).Pairwise (· < ·)/\(∀ x∈cmpG p l,p<x)/\∀ x,x∈cmpG p l↔x∈l/\x≠p
 |[],p,_=>by simp[cmpG]
 | a :: t, p,h=>by
   have h1:SrtI (a::t):=(List.pairwise_cons.1 h).2;have h2:p<=a:=(List.pairwise_cons.1 h).1 a (List.mem_cons_self ..);unfold cmpG;by_cases e:a=p
   . rw[if_pos e];subst e;obtain ⟨g1,g2,g3⟩:=ZhL t a h1;refine ⟨g1,g2,λx=>?_⟩;rw[g3]
     constructor
     . rintro ⟨q1,q2⟩;exact ⟨List.mem_cons_of_mem _ q1,q2⟩
     . rintro ⟨q1,q2⟩;rcases List.mem_cons.1 q1 with q|q
       . exact absurd q q2
       . exact ⟨q,q2⟩
   . rw [if_neg e];obtain ⟨g1,g2,g3⟩:=ZhL t a h1;have h3:p<a:=(by omega);refine ⟨List.pairwise_cons.2 ⟨λy hy=>g2 y hy,g1⟩,λx hx=>?_,λx=>?_⟩
     . rcases List.mem_cons.1 hx with rfl|hx
       . exact h3
       . have:=g2 x hx;omega
     . rw [List.mem_cons,List.mem_cons,g3]
       constructor
       . rintro (rfl | ⟨q1,q2⟩)
         . exact ⟨.inl rfl,e⟩
         . refine ⟨.inr q1,λq=>?_⟩;subst q;have:=(List.pairwise_cons.1 h1).1 x q1;omega
       . rintro ⟨q|q,q2⟩
         . exact .inl q
         . by_cases q3:x=a
           . exact .inl q3
           . exact .inr ⟨q,q3⟩
theorem ZhM {l:List Int} (h:SrtI l):(cmpI l).Pairwise (· < ·):=by
 cases l with
 |nil=>exact .nil
 |cons a t=>exact List.pairwise_cons.2 ⟨(ZhL t a h).2.1,(ZhL t a h).1⟩
theorem ZhN {l:List Int} (h:SrtI l) {x:Int}:x∈cmpI l↔x∈l:=by
 cases l with
 |nil=>rfl
 | cons a t =>
   show x∈a::cmpG a t↔_;rw[List.mem_cons,List.mem_cons,(ZhL t a h).2.2];by_cases e:x=a <;> simp[e]
def setI (l:List Int):List Int:=cmpI (sortI l)
theorem ZhO (l:List Int):(setI l).Pairwise (· < ·):=ZhM (ZcL l)
theorem ZhP {l:List Int} {x:Int}:x∈setI l↔x∈l:=(ZhN (ZcL l)).trans ZcP
theorem ZhQ {l s:List Int} (hs:s.Pairwise (· < ·)) (h:∀ x,x∈s↔x∈l):setI l=s:=ZhK (ZhO l) hs λx=>ZhP.trans (h x).symm
def r9:List Int:=[0,1,2,3,4,5,6,7,8]
theorem ZhR {x:Int}:x∈r9↔0<=x/\x<=8:=by simp[r9];omega
theorem r9_lt:r9.Pairwise (· < ·):=by decide
theorem ZhS {l:List Int} (h:l.Pairwise (· < ·)) {s:Int} (hs:s∈l):l.drop (l.idxOf s)=s::l.filter λx=>decide (s<x):=by
 induction l with
 |nil=>cases hs
 | cons a t ih =>
   rw[List.pairwise_cons]at h;by_cases e:a=s
   . subst e;have q:t.filter (λx=>decide (a<x))=t:=List.filter_eq_self.2 λx hx=>by simpa using h.1 x hx
     simp[q]
   . have hs2:s∈t:=by
      rcases List.mem_cons.1 hs with q|q
      . exact absurd q.symm e
      . exact q
     have q:=h.1 s hs2;have e2:(a == s)=false:=(by simpa using e);rw[List.idxOf_cons,e2];simp only[cond_false,List.drop_succ_cons];rw[ih h.2 hs2,List.filter_cons,if_neg (by simp;omega)]
theorem ZhT {pp:List Int} {su:Int} (hp:∀ x∈pp,0<=x/\x<=8):(setI (pp++[su])).drop ((setI (pp++[su])).idxOf su)=su::r9.filter λn=>decide (su<n)&&pp.contains n:=by
 have hm:su∈setI (pp++[su]):=ZhP.2 (by simp);rw[ZhS (ZhO _) hm]
 congr 1
 refine ZhK ((ZhO _).filter _) (r9_lt.filter _) λx=>?_
 simp only[List.mem_filter,ZhP,List.mem_append,List.mem_singleton,decide_eq_true_eq,Bool.and_eq_true,List.contains_iff_mem,ZhR]
 constructor
 . rintro ⟨q|q,q2⟩
   . exact ⟨hp x q,q2,q⟩
   . omega
 . rintro ⟨-,q2,q⟩;exact ⟨.inl q,q2⟩
def ltV (l:List Nte) (d m:Int) (v:Nat):Int:=(byV (sbT (opQ l) v) m l d l.length).lt
def r8:List Int:=[1,2,3,4,5,6,7,8]
theorem ZhU {x:Int}:x∈r8↔1<=x/\x<=8:=by simp[r8];omega
theorem r8_lt:r8.Pairwise (· < ·):=by decide
def posL (l:List Nte) (d m:Int):List Int:=r8.filter λx=>(List.range (2 ^ (opQ l).length)).any λv=>decide (ltV l d m v=x)
def mk1 (h:Hld) (x:Nte):List Int:=(if inR x.fr h.fr h.to=true then [x.fr] else [])++(if inR (x.tu+1) h.fr h.to=true then [x.tu+1] else [])
def mks (l:List Nte) (h:Hld):List Int:=h.fr::l.flatMap (mk1 h)
def ndsL (l:List Nte) (h:Hld) (d:Int):List Int:=if h.ds.contains d=true then r8.filter λx=>(mks l h).any λm=>(posL l d m).contains x else []
theorem ZhV {n a b:Int}:inR n a b=true↔a<=n/\n<=b:=by simp[inR]
theorem ZhW {l:List Nte} {h:Hld} {m:Int}:m∈mks l h↔m=h.fr∨∃ x∈l,(m=x.fr/\h.fr<=x.fr/\x.fr<=h.to)∨(m=x.tu+1/\h.fr<=x.tu+1/\x.tu+1<=h.to):=by
 unfold mks;rw[List.mem_cons,List.mem_flatMap]
 constructor
 . rintro (q | ⟨x,hx,q⟩)
   . exact .inl q
   . right
     refine ⟨x,hx,?_⟩;rcases List.mem_append.1 q with q|q <;> split at q <;> rename_i e
     . exact .inl ⟨List.mem_singleton.1 q,ZhV.1 e⟩
     . cases q
     . exact .inr ⟨List.mem_singleton.1 q,ZhV.1 e⟩
     . cases q
 . rintro (q | ⟨x,hx,⟨q,q2⟩ | ⟨q,q2⟩⟩)
   . exact .inl q
   . right
     refine ⟨x,hx,List.mem_append.2 (.inl ?_)⟩;rw[if_pos (ZhV.2 q2)];exact List.mem_singleton.2 q
   . right
     refine ⟨x,hx,List.mem_append.2 (.inr ?_)⟩;rw[if_pos (ZhV.2 q2)];exact List.mem_singleton.2 q
theorem ZhX (l:List Nte) (d m:Int):(posL l d m).Pairwise (· < ·):=r8_lt.filter _
theorem ZhY (l:List Nte) (h:Hld) (d:Int):(ndsL l h d).Pairwise (· < ·):=by
 unfold ndsL
 split
 . exact r8_lt.filter _
 . exact .nil
theorem ZhZ {l:List Nte} {d m x:Int}:x∈posL l d m↔(1<=x/\x<=8)/\∃ v,v<2 ^ (opQ l).length/\ltV l d m v=x:=by
 simp[posL,ZhU]
theorem Zi0 {l:List Nte} {h:Hld} {d x:Int}:x∈ndsL l h d↔d∈h.ds/\∃ m∈mks l h,x∈posL l d m:=by
 unfold ndsL;by_cases e:d∈h.ds
 . rw[if_pos (by simpa using e)];simp only[List.mem_filter,List.any_eq_true,List.contains_iff_mem,e,true_and]
   constructor
   . exact λq=>q.2
   . rintro ⟨m,h1,h2⟩;exact ⟨(ZhZ.1 h2).1 |> ZhU.2,m,h1,h2⟩
 . rw[if_neg (by simpa using e)];simp[e]
theorem Zi1 {l:List Nte} {h:Hld} (h0:h.fr<=h.to) {m:Int} (hm:m∈mks l h):h.fr<=m/\m<=h.to:=by
 rcases ZhW.1 hm with rfl | ⟨x,-,⟨rfl,q⟩ | ⟨rfl,q⟩⟩ <;> omega
theorem Zi2 {l:List Nte} {d m:Int} (h:∀ v,1<=ltV l d m v/\ltV l d m v<=8):posL l d m≠[]:=by
 intro e;have:ltV l d m 0∈posL l d m:=ZhZ.2 ⟨h 0,0,Nat.two_pow_pos _,rfl⟩;rw[e]at this
 cases this
def hoF (hs:List Hld) (id:Int):Option Hld:=hs.find? λh=>decide (h.id=id)
section
variable {l:List Nte} {hs:List Hld} {ps:List Prt} {day:Int} {a b:List Int}
end
theorem Zi3 {l:List Nte} {d m:Int} (h:∀ v,v<2 ^ (opQ l).length->1<=ltV l d m v/\ltV l d m v<=8):setI ((List.range (2 ^ (opQ l).length)).map (ltV l d m))=posL l d m:=by
 refine ZhQ (ZhX l d m) λx=>?_
 rw[ZhZ,List.mem_map]
 constructor
 . rintro ⟨-,v,hv,rfl⟩;exact ⟨v,List.mem_range.2 hv,rfl⟩
 . rintro ⟨v,hv,rfl⟩;have hv:=List.mem_range.1 hv;exact ⟨h v hv,v,hv,rfl⟩
theorem Zi4 {l:List Nte} {h:Hld} {d:Int} (hd:h.ds.contains d=true):setI ((mks l h).flatMap λm=>posL l d m)=ndsL l h d:=by
 refine ZhQ (ZhY l h d) λx=>?_
 rw[Zi0,List.mem_flatMap];exact ⟨λq=>q.2,λq=>⟨by simpa using hd,q⟩⟩
theorem Zi5 {r:List Iss} (h:openV r=0):Z9U r=true:=by
 unfold openV at h
 split at h
 . assumption
 . cases h
theorem Zi6 {r:List Iss} {l:List Nte} (hr:openV r=0) (hB:Zcw r l=true) {d:Int} (hd:d∈nums r) (m:Int) (v:Nat):(findN d (ltV l d m v) r).isSome=true:=by
 have hL:=Zi5 hr
 have hone:(findN d 1 r).isSome=true:=by
  rw[Zcs hL];obtain ⟨i,hi,e⟩:=Za6 (Za2 hL) hd;have hm:=List.getElem_mem hi;have hf:=Zcr hL hm;have h1:inR r[i].l 1 (lastV r d)=true:=(Zcs hL d r[i].l).1 (by rw[<- e,hf];rfl);have h2:=of_decide_eq_true h1;exact decide_eq_true (by omega)
 have hd0:d≠0:=by
  obtain ⟨i,hi,e⟩:=Za6 (Za2 hL) hd;have hm:=List.getElem_mem hi;have h1:Z9U r=true:=hL;simp only[Z9U,Bool.and_eq_true,List.all_eq_true]at h1;have h2:=h1.1.1.1.2 _ hm;simp only[issB,headB,Bool.and_eq_true]at h2;have h3:1<=r[i].d/\r[i].d<=9999:=(by simpa [inR] using h2.1.1.1.1.1);omega
 have key:∀ i,i<=l.length->(findN d (byV (sbT (opQ l) v) m l d i).lt r).isSome=true:=by
  intro i
  induction i with
  |zero=>intro _;exact hone
  | succ i ih =>
    intro hi;rw[byV]
    split
    . rename_i c;simp only[Zcw,Bool.and_eq_true]at hB;have h1:=Z9R.1 hB.1.2 i (by omega);simp only[noteB,Bool.and_eq_true]at h1;have h4:=h1.1.1.1.1.2;unfold cN4 at h4;rw[if_neg (by rw[c.1];intro q;exact hd0 q.1),c.1]at h4;exact h4
    . exact ih (by omega)
 exact key l.length (Nat.le_refl _)
theorem Zi7 {r:List Iss} {l:List Nte} (hr:openV r=0) (hB:Zcw r l=true) {d:Int} (hd:d∈nums r) (m:Int) (v:Nat):1<=ltV l d m v/\ltV l d m v<=8:=by
 have hL:=Zi5 hr;obtain ⟨x,hx⟩:=Option.isSome_iff_exists.1 (Zi6 hr hB hd m v);obtain ⟨h1,h2,h3⟩:=Zak hx;have h4:=hL;simp only[Z9U,Bool.and_eq_true,List.all_eq_true]at h4;have h5:=h4.1.1.1.2 _ h1;simp only[issB,headB,Bool.and_eq_true]at h5;have h6:1<=x.l/\x.l<=8:=(by simpa [inR] using h5.1.1.1.1.2);omega
theorem Zi8 {r:List Iss} {l:List Nte} (hr:openV r=0) (hB:Zcw r l=true) {h:Hld} {d:Int} (hd:d∈nums r) (hh:d∈h.ds):ndsL l h d≠[]:=by
 intro e;have:ltV l d h.fr 0∈ndsL l h d:=Zi0.2 ⟨hh,h.fr,ZhW.2 (.inl rfl),ZhZ.2 ⟨Zi7 hr hB hd h.fr 0,0,Nat.two_pow_pos _,rfl⟩⟩;rw[e]at this
 cases this
def riP (ps:List Prt):Prop:=ps.Pairwise λx y=>x.no<y.no
instance:Inhabited Hld:=⟨⟨0,0,0,[]⟩⟩
instance:Inhabited Prt:=⟨⟨0,0,0,0,0,0,0⟩⟩
def hAt (hs:List Hld) (i:Nat):Hld:=hs.getD i default
def pAt (ps:List Prt) (i:Nat):Prt:=ps.getD i default
theorem Zi9 {hs:List Hld} {i:Nat} (h:i<hs.length):hAt hs i=hs[i]:=by simp[hAt,List.getD_eq_getElem?_getD,h]
theorem Zia {ps:List Prt} {i:Nat} (h:i<ps.length):pAt ps i=ps[i]:=by simp[pAt,List.getD_eq_getElem?_getD,h]
def wksB (D ds:List Int):Bool:=(List.range ds.length).all λk=>D.contains (ds.getD k 0)&&(k == 0||decide (ds.getD (k-1) 0<ds.getD k 0))
def hoB (D:List Int) (hs:List Hld) (i:Nat):Bool:=inR (hAt hs i).id 1 9999&&(i == 0||decide ((hAt hs (i-1)).id<(hAt hs i).id))&&inR (hAt hs i).fr 1 (hAt hs i).to&&decide ((hAt hs i).to<=999)&&decide ((hAt hs i).ds.length<=8)&&wksB D (hAt hs i).ds
def prB (r:List Iss) (hs:List Hld) (x:Prt):Bool:=inR x.no 1 9999&&inR x.dy 0 14610&&(hoF hs x.ho).isSome&&decide (x.lo<=2)&&(findN x.dw x.lt r).isSome&&(decide (x.bk = -1)||(inR x.bk x.dy 14610&&decide (x.lo=0)))
def shB (r:List Iss) (hs:List Hld) (ps:List Prt) (i:Nat):Bool:=(i == 0||decide ((pAt ps (i-1)).no<(pAt ps i).no))&&prB r hs (pAt ps i)
def ptsB (r:List Iss) (hs:List Hld) (ps:List Prt):Bool:=decide (hs.length<=6)&&decide (ps.length<=30)&&(List.range hs.length).all (hoB (nums r) hs)&&(List.range ps.length).all (shB r hs ps)
def ck7 (r:List Iss) (l:List Nte) (hs:List Hld) (ps:List Prt):Int:=if chN r l=0 then if ptsB r hs ps=true then 0 else 70 else chN r l
theorem Zib {f:Nat->Int} {n:Nat} (h:∀ i,i+1<n->f i<f (i+1)):∀ i j,i<j->j<n->f i<f j:=by
 intro i j hij hj
 induction j with
 |zero=>omega
 | succ j ih =>
   by_cases c:i=j
   . subst c;exact h i hj
   . have:=ih (by omega) (by omega);have:=h j hj;omega
section
variable {r:List Iss} {hs:List Hld} {ps:List Prt}
theorem Zic:ptsB r hs ps=true↔(hs.length<=6/\(List.range hs.length).all (hoB (nums r) hs)=true)/\ps.length<=30/\riP ps/\∀ x∈ps,prB r hs x=true:=by
 unfold ptsB;rw[Bool.and_eq_true,Bool.and_eq_true,Bool.and_eq_true,decide_eq_true_eq,decide_eq_true_eq,Z9R (n:=ps.length)]
 constructor
 . rintro ⟨⟨⟨h1,h2⟩,h3⟩,h4⟩;refine ⟨⟨h1,h3⟩,h2,?_,λx hx=>?_⟩
   . unfold riP;rw[List.pairwise_iff_getElem];intro i j hi hj hij
     have:=Zib (f:=λk=>(pAt ps k).no) (n:=ps.length) (λk hk=>by
      have q:=h4 (k+1) hk;simp only[shB,Bool.and_eq_true,Bool.or_eq_true,decide_eq_true_eq]at q;simpa using q.1) i j hij hj
     simp only[Zia hi,Zia hj]at this;exact this
   . obtain ⟨i,hi,rfl⟩:=List.getElem_of_mem hx;have:=h4 i hi;rw[shB,Bool.and_eq_true,Zia hi]at this;exact this.2
 . rintro ⟨⟨h1,h3⟩,h2,h4,h5⟩;refine ⟨⟨⟨h1,h2⟩,h3⟩,λi hi=>?_⟩;rw[shB,Bool.and_eq_true,Zia hi];refine ⟨?_,h5 _ (List.getElem_mem hi)⟩
   cases i with
   |zero=>rfl
   | succ i =>
     have:=List.pairwise_iff_getElem.1 h4 i (i+1) (by omega) hi (by omega);simp[Zia (show i<ps.length by omega),this]
theorem Zid {id:Int} {h:Hld} (q:hoF hs id=some h):h∈hs/\h.id=id:=by
 unfold hoF at q;exact ⟨List.mem_of_find?_eq_some q,by simpa using List.find?_some q⟩
variable {l:List Nte} {day:Int} {a b:List Int}
end
def prA (r:List Iss) (l:List Nte) (hs:List Hld) (ps:List Prt):AV:=.agg [.vsl (r.map isa),.vsl (l.map na),.vsl (hs.map hoa),.vsl (ps.map ptA)]
def ofA (r:List Iss) (l:List Nte) (hs:List Hld) (ps:List Prt):AV:=.vptr [.vsl (r.map isa),.vsl (l.map na),.vsl (hs.map hoa),.vsl (ps.map ptA),.vsl ((nums r).map ia)] 0
theorem Zie (r:List Iss) (l:List Nte) (hs:List Hld) (ps:List Prt):(ofA r l hs ps).pure=true:=by unfold ofA;simp[AV.pure,isa,na,hoa,ptA]
theorem Zif (r:List Iss) (l:List Nte) (hs:List Hld) (ps:List Prt):(ofA r l hs ps).keys=[]:=AV.pure_keys _ (Zie r l hs ps)
def POk (x:Prt):Prop:=0<=x.lo/\x.lo<=255
def NOk7 (x:Nte):Prop:=0<=x.sg/\x.sg<=255/\0<=x.wy/\x.wy<=255
structure WfP (hs:List Hld) (ps:List Prt):Prop where
 hl:hs.length<=8
 pl:ps.length<=41
 dl:∀ h∈hs,h.ds.length<=20
 po:∀ x∈ps,POk x
def outI (ps:List Prt) (day:Int) (n:Nat):List Nat:=(List.range n).filter λi=>outB (pAt ps i) day
def outP (ps:List Prt) (day:Int):List Prt:=ps.filter λx=>outB x day
theorem Zig {ps:List Prt} {day:Int} {n:Nat}:outI ps day (n+1)=if outB (pAt ps n) day=true then outI ps day n++[n] else outI ps day n:=by
 unfold outI;rw[List.range_succ,List.filter_append]
 split <;> simp_all
theorem Zih {ps:List Prt} {day:Int}:∀ {n i:Nat},i<n->outB (pAt ps i) day=true->(outI ps day n)[(outI ps day i).length]? = some i
 |0,_,h,_=>by omega
 | n + 1,i,h,ho=>by
   rw[Zig];by_cases e:i=n
   . subst e;rw[if_pos ho];simp
   . have ih:=Zih (n:=n) (i:=i) (by omega) ho
     split
     . rw[List.getElem?_append_left (List.getElem?_eq_some_iff.1 ih).1];exact ih
     . exact ih
theorem Zii (ps:List Prt) (day:Int):∀ n,n<=ps.length->(outI ps day n).map (pAt ps)=(ps.take n).filter λx=>outB x day
 |0,_=>by simp[outI]
 | n+1,h=>by
   have hn:n<ps.length:=h;rw[Zig,List.take_succ_eq_append_getElem hn,List.filter_append,<- Zii ps day n (by omega),Zia hn];by_cases c:outB ps[n] day=true
   . rw[if_pos c];simp[c,Zia hn]
   . rw[if_neg c];simp[c]
theorem Zij (ps:List Prt) (day:Int):(outI ps day ps.length).map (pAt ps)=outP ps day:=by
 rw[Zii ps day _ (Nat.le_refl _),List.take_length];rfl
theorem Zik (ps:List Prt) (day:Int):(outI ps day ps.length).length=(outP ps day).length:=by rw[<- Zij,List.length_map]
def outE (ps:List Prt) (day:Int):List (AV×AV):=(outI ps day ps.length).map λ(i:Nat)=>(.int .i64 (i:Int),.agg (ptA (pAt ps i)))
theorem Zil (ps:List Prt) (day:Int):(outE ps day).length=(outP ps day).length:=by unfold outE;rw[List.length_map,Zik]
theorem Zim {ps:List Prt} {day:Int} {k:Nat} {x:AV×AV} (h:(outE ps day)[k]? = some x):∃ i:Nat,∃ hk:k<(outP ps day).length,x=(.int .i64 i,.agg (ptA (outP ps day)[k])):=by
 unfold outE at h;rw[List.getElem?_map]at h;obtain ⟨i,hi,rfl⟩:=Option.map_eq_some_iff.1 h;have h2:((outI ps day ps.length).map (pAt ps))[k]? = some (pAt ps i):=(by rw[List.getElem?_map,hi];rfl);rw[Zij]at h2;obtain ⟨hk,h3⟩:=List.getElem?_eq_some_iff.1 h2;exact ⟨i,hk,by rw[h3]⟩
def pkL {α β:Type} (p:α->Bool) (f:α->β) (L:List α) (k:Nat):List β:=((L.take k).filter p).map f
theorem Zin {α β:Type} {p:α->Bool} {f:α->β} {L:List α} {k:Nat} (h:k<L.length):pkL p f L (k+1)=if p L[k]=true then pkL p f L k++[f L[k]] else pkL p f L k:=by
 unfold pkL;rw[List.take_succ_eq_append_getElem h,List.filter_append,List.map_append]
 split <;> simp_all
theorem Zio {α β:Type} (p:α->Bool) (f:α->β) (L:List α) (k:Nat):(pkL p f L k).length<=k:=by
 unfold pkL;rw[List.length_map];exact Nat.le_trans (List.length_filter_le ..) (by simp;omega)
theorem Zip {α β:Type} (p:α->Bool) (f:α->β) (L:List α):pkL p f L 0=[]:=by simp[pkL]
theorem Ziq {α β:Type} (p:α->Bool) (f:α->β) (L:List α):pkL p f L L.length=(L.filter p).map f:=by unfold pkL;rw[List.take_length]
section
variable {G:Nat->Option (List AV)}
theorem Zir (n lo hi:Int):PC Tryz.prog G 174 [.int .i64 n,.vptr [.int .i64 lo] 0,.vptr [.int .i64 hi] 0] (.bool (!inR n lo hi)):=by
 (refine ZgN rfl λR hG hrd=>Qga ?_;subst hG)
 by_cases h1:n<lo
 . have h2:¬lo<=n:=(by omega);simp -implicitDefEqProofs[ZgL,ZgM,h1,h2,inR]
 . have h2:lo<=n:=(by omega);by_cases h3:hi<n
   . have h4:¬n<=hi:=(by omega);simp -implicitDefEqProofs[ZgL,ZgM,h1,h2,h3,h4,inR]
   . have h4:n<=hi:=(by omega);simp -implicitDefEqProofs[ZgL,ZgM,h1,h2,h3,h4,inR]
theorem Zis (lo hi:Int) (l:List Int) (hl:Sml l):PC Tryz.prog G 138 [.int .i64 lo,.int .i64 hi,.vsl (l.map ia)] (.bool (l.all λn=>inR n lo hi)):=by
 (refine ZgK rfl λR hG hrd=>Qga ?_;subst hG)
 simp -implicitDefEqProofs[ZgI,ZgJ]
 (first|refine Yd.flat (Zar 174 [.vptr [.int .i64 lo] 0,.vptr [.int .i64 hi] 0] (λn=>!inR n lo hi) l (by simp[AV.pure]) hl (λn _=>Zir n lo hi)) (by simp[AV.flat]) (by simp) ?_|refine Ye.flat (Zar 174 [.vptr [.int .i64 lo] 0,.vptr [.int .i64 hi] 0] (λn=>!inR n lo hi) l (by simp[AV.pure]) hl (λn _=>Zir n lo hi)) (by simp[AV.flat]) (by simp) ?_)
 have e:(!l.any λn=>!inR n lo hi)=l.all λn=>inR n lo hi:=by simp[List.all_eq_not_any_not]
 simp -implicitDefEqProofs[e]
theorem Zit (lo hi n:Int):PC Tryz.prog G 138 [.int .i64 lo,.int .i64 hi,.vsl [[.int .i64 n]]] (.bool (inR n lo hi)):=by
 have h:=Zis (G:=G) lo hi [n] (by simp[Sml]);simpa [ia] using h
theorem Ziu (lo hi n m:Int):PC Tryz.prog G 138 [.int .i64 lo,.int .i64 hi,.vsl [[.int .i64 n],[.int .i64 m]]] (.bool (inR n lo hi&&inR m lo hi)):=by
 have h:=Zis (G:=G) lo hi [n,m] (by simp[Sml]);simpa [ia] using h
theorem Ziv (g:Nat) (caps:List AV) (p:Hld->Bool) (l:List Hld) (hc:caps.all AV.pure=true) (hl:Sml l)
  (hg:∀ x∈l,PC Tryz.prog G g (.agg (hoa x)::caps) (.bool (p x))) :
  PC Tryz.prog G 140 [.vsl (l.map hoa),.func (.func g) [] caps] (.int .i64 (fstOf p l)):=by
 (refine ZhA rfl λR hG hrd=>Qga ?_;subst hG)
 unfold Sml at hl;have hc2:∀ x∈caps,x.pure=true:=List.all_eq_true.1 hc;simp -implicitDefEqProofs[Zhy,Zhz];refine Z9v (λi=>⟨[(8,.int .i64 i),(7,.int .i64 l.length),(0,.vsl (l.map hoa)),(1,.func (.func g) [] caps)],[]⟩) (λi=>∀ j (h:j<l.length),j<i->p l[j]=false) l.length (by (first|exact Ym.tm (by simp[lk])|exact Ym.sub (by simp[lk,Ya,AV.keys]) (by simp[lk,Yc,Ya,AV.keys]))) (by simp) ?_ ?_
 . intro i hi he;refine Qga ?_;have w1:IntKind.i64.wrap ((i:Int)+1)=((i+1:Nat):Int):=Yf (by omega) (by omega);have hgi:=hg _ (List.getElem_mem hi);have hln:(hoa l[i]).length=4:=rfl;have htk:(hoa l[i]).take 4=hoa l[i]:=rfl;simp -implicitDefEqProofs[hi,hln,htk];refine Yd.of hgi (by simpa [AV.pure,hoa] using hc2) ?_
   cases h3:p l[i]
   . simp -implicitDefEqProofs[w1];refine ⟨(by (first|exact Ym.tm (by simp[lk])|exact Ym.sub (by simp[lk,Ya,AV.keys]) (by simp[lk,Yc,Ya,AV.keys]))),λj q1 q2=>?_⟩;by_cases e:j=i
     . subst e;exact h3
     . exact he j q1 (by omega)
   . simp -implicitDefEqProofs;refine Qgr ?_;simp -implicitDefEqProofs[Zan hi h3 he]
 . intro he;refine Qga ?_;simp -implicitDefEqProofs[];refine Qgr ?_;simp -implicitDefEqProofs[Zao (p:=p) (l:=l) (λj hj=>he j hj hj)]
theorem Ziw (g:Nat) (caps:List AV) (p:Iss->Bool) (l:List Iss) (hc:caps.all AV.pure=true) (hl:Sml l)
  (hg:∀ x∈l,PC Tryz.prog G g (.agg (isa x)::caps) (.bool (p x))) :
  PC Tryz.prog G 259 [.vsl (l.map isa),.func (.func g) [] caps] (.int .i64 (fstOf p l)):=by
 (refine ZhD rfl λR hG hrd=>Qga ?_;subst hG)
 unfold Sml at hl;have hc2:∀ x∈caps,x.pure=true:=List.all_eq_true.1 hc;simp -implicitDefEqProofs[ZhB,ZhC];refine Z9v (λi=>⟨[(8,.int .i64 i),(7,.int .i64 l.length),(0,.vsl (l.map isa)),(1,.func (.func g) [] caps)],[]⟩) (λi=>∀ j (h:j<l.length),j<i->p l[j]=false) l.length (by (first|exact Ym.tm (by simp[lk])|exact Ym.sub (by simp[lk,Ya,AV.keys]) (by simp[lk,Yc,Ya,AV.keys]))) (by simp) ?_ ?_
 . intro i hi he;refine Qga ?_;have w1:IntKind.i64.wrap ((i:Int)+1)=((i+1:Nat):Int):=Yf (by omega) (by omega);have hgi:=hg _ (List.getElem_mem hi);have hln:(isa l[i]).length=5:=rfl;have htk:(isa l[i]).take 5=isa l[i]:=rfl;simp -implicitDefEqProofs[hi,hln,htk];refine Yd.of hgi (by simpa [AV.pure,isa] using hc2) ?_
   cases h3:p l[i]
   . simp -implicitDefEqProofs[w1];refine ⟨(by (first|exact Ym.tm (by simp[lk])|exact Ym.sub (by simp[lk,Ya,AV.keys]) (by simp[lk,Yc,Ya,AV.keys]))),λj q1 q2=>?_⟩;by_cases e:j=i
     . subst e;exact h3
     . exact he j q1 (by omega)
   . simp -implicitDefEqProofs;refine Qgr ?_;simp -implicitDefEqProofs[Zan hi h3 he]
 . intro he;refine Qga ?_;simp -implicitDefEqProofs[];refine Qgr ?_;simp -implicitDefEqProofs[Zao (p:=p) (l:=l) (λj hj=>he j hj hj)]
theorem Zix (g:Nat) (caps:List AV) (p:Iss->Bool) (l:List Iss) (hc:caps.all AV.pure=true) (hl:Sml l)
  (hg:∀ x∈l,PC Tryz.prog G g (.agg (isa x)::caps) (.bool (p x))) :
  PC Tryz.prog G 255 [.vsl (l.map isa),.func (.func g) [] caps] (.bool (l.any p)):=by
 have hi:=Ziw (G:=G) g caps p l hc hl hg;have e:=Zap p l
 (refine ZhG rfl λR hG hrd=>Qga ?_;subst hG)
 have hc2:∀ x∈caps,x.pure=true:=List.all_eq_true.1 hc;simp -implicitDefEqProofs[ZhE,ZhF];refine Yd.of hi (by simpa [AV.pure] using hc2) ?_;simp -implicitDefEqProofs[e]
def hoI (hs:List Hld) (id:Int):Int:=fstOf (λh=>decide (h.id=id)) hs
theorem Ziy (h:Hld) (id:Int):PC Tryz.prog G 141 [.agg (hoa h),.vptr [.int .i64 id] 0] (.bool (decide (h.id=id))):=by
 (refine ZgT rfl λR hG hrd=>Qga ?_;subst hG)
 simp -implicitDefEqProofs[ZgR,ZgS,hoa]
theorem Ziz (r:List Iss) (l:List Nte) (hs:List Hld) (ps:List Prt) (id:Int) (hh:Sml hs):PC Tryz.prog G 82 [ofA r l hs ps,.int .i64 id] (.int .i64 (hoI hs id)):=by
 have h:=Ziv (G:=G) 141 [.vptr [.int .i64 id] 0] (λh=>decide (h.id=id)) hs (by simp[AV.pure]) hh (λh _=>Ziy h id);have e:fstOf (λh=>decide (h.id=id)) hs=hoI hs id:=rfl;rw[e]at h;generalize hoI hs id=n at *;unfold ofA
 (refine ZgQ rfl λR hG hrd=>Qga ?_;subst hG)
 simp -implicitDefEqProofs[ZgO,ZgP]
 (first|refine Yd.flat (h) (by simp[AV.flat]) (by simp) ?_|refine Ye.flat (h) (by simp[AV.flat]) (by simp) ?_)
 simp -implicitDefEqProofs[]
theorem ZiA (o:AV) (x:Prt):PC Tryz.prog G 252 [o,.agg (ptA x)] (.bool (inR x.no 1 9999&&inR x.dy 0 14610)):=by
 have h1:=Zit (G:=G) 1 9999 x.no;have h2:=Zit (G:=G) 0 14610 x.dy
 (refine ZgW rfl λR hG hrd=>Qga ?_;subst hG)
 simp -implicitDefEqProofs[ZgU,ZgV,ptA];refine Qco (h1) (by simp) ?_
 cases inR x.no 1 9999
 . simp -implicitDefEqProofs[]
 . simp -implicitDefEqProofs[];refine Qco (h2) (by simp) ?_;simp -implicitDefEqProofs[]
theorem ZiB (r:List Iss) (l:List Nte) (hs:List Hld) (ps:List Prt) (x:Prt) (hh:Sml hs):PC Tryz.prog G 253 [ofA r l hs ps,.agg (ptA x)] (.bool (decide (0<=hoI hs x.ho))):=by
 have h:=Ziz (G:=G) r l hs ps x.ho hh;have pO:=Zie r l hs ps;generalize ofA r l hs ps=O at *
 (refine ZgZ rfl λR hG hrd=>Qga ?_;subst hG)
 simp -implicitDefEqProofs[ZgX,ZgY,ptA];refine Yd.of h (by simp[pO,AV.pure]) ?_;simp -implicitDefEqProofs[]
theorem ZiC (x:Prt) (y:Iss):PC Tryz.prog G 256 [.agg (isa y),.vptr (ptA x) 0] (.bool (rfp x.dw x.lt y)):=by
 (refine Zh5 rfl λR hG hrd=>Qga ?_;subst hG)
 by_cases h1:x.dw=y.d
 . by_cases h2:x.lt=y.l
   . have e:rfp x.dw x.lt y=true:=(by simp[rfp,h1,h2]);rw[e];simp -implicitDefEqProofs[Zh3,Zh4,ptA,isa,h1,h2]
   . have e:rfp x.dw x.lt y=false:=(by simp[rfp,h1,Ne.symm h2]);rw[e];simp -implicitDefEqProofs[Zh3,Zh4,ptA,isa,h1,h2]
 . have e:rfp x.dw x.lt y=false:=(by simp[rfp,Ne.symm h1]);rw[e];simp -implicitDefEqProofs[Zh3,Zh4,ptA,isa,h1]
theorem ZiD (r:List Iss) (l:List Nte) (hs:List Hld) (ps:List Prt) (x:Prt) (hr:Sml r):PC Tryz.prog G 254 [ofA r l hs ps,.agg (ptA x)] (.bool (findN x.dw x.lt r).isSome):=by
 have h:=Zix (G:=G) 256 [.vptr (ptA x) 0] (rfp x.dw x.lt) r (by simp[AV.pure,ptA]) hr (λy _=>ZiC x y);rw[Zgf];generalize r.any (rfp x.dw x.lt)=b at *;unfold ofA
 (refine Zh2 rfl λR hG hrd=>Qga ?_;subst hG)
 simp -implicitDefEqProofs[Zh0,Zh1,ptA];unfold ptA at h
 (first|refine Yd.flat (h) (by simp[AV.flat]) (by simp) ?_|refine Ye.flat (h) (by simp[AV.flat]) (by simp) ?_)
 simp -implicitDefEqProofs[]
theorem ZiE (o:AV) (x:Prt):PC Tryz.prog G 257 [o,.agg (ptA x)] (.bool (decide (x.lo<=2))):=by
 (refine Zh8 rfl λR hG hrd=>Qga ?_;subst hG)
 simp -implicitDefEqProofs[Zh6,Zh7,ptA]
theorem ZiF (o:AV) (x:Prt):PC Tryz.prog G 258 [o,.agg (ptA x)] (.bool (decide (x.bk = -1)||(inR x.bk x.dy 14610&&decide (x.lo=0)))):=by
 have h1:=Zit (G:=G) x.dy 14610 x.bk
 (refine Zhb rfl λR hG hrd=>Qga ?_;subst hG)
 by_cases h0:x.bk = -1
 . simp -implicitDefEqProofs[Zh9,Zha,ptA,h0]
 . simp -implicitDefEqProofs[Zh9,Zha,ptA,h0];refine Qco (h1) (by simp) ?_
   cases inR x.bk x.dy 14610
   . simp -implicitDefEqProofs[]
   . simp -implicitDefEqProofs[]
end
def ZiG (P:Program) (G:Nat->Option (List AV)) (gf:Nat) (caps:List AV) (els:List (AV×AV)):Prop :=
 entB P gf=true/\∀ (n l:Nat) (lb:Array Value) (J:Nat->(Nat->Prop)->World->Prop) (K:World->Prop) (M:Nat->Prop) (W:World),2<=n->(∀ k M A B,J k M A->Ext A B->J k M B)->(∀ A B,K A->Ext A B->K B) ->
  (∀ k M A,J k M A->∀ b,M b->b<A.heap.size)->(∀ k M A,J k M A->GR G M A)->CP M W caps lb ->
  (∀ (k:Nat) (x:AV×AV) (u v:Value) (M:Nat->Prop) (A:World),J k M A->els[k]? = some x->PV M A x.1 u->PV M A x.2 v ->
   YieldAt Fence.wide (n-1) P l #[u,v] A λe A'=>(e = .returned (.bool true)/\∃ M',J (k+1) M' A'/\Since M A M' A')∨(e = .returned (.bool false)/\K A')) ->
  J 0 M W->CallsIn Fence.wide n P gf (#[.func (.yield l) #[] #[]]++lb) W λe W'=>(∃ v,e = .returned v)/\((∃ M,J els.length M W')∨K W')
theorem ZiH {n:Nat} {P:Program} {g:Operand} {p q:Nat} {assign body:Code} {Q:Exit->Act->World->Prop} {a:Act} {w:World}
  {gf:Nat} {lb:Array Value} {caps:List AV} {els:List (AV×AV)} (hg:a.eval g = .func (.func gf) #[] lb) {G:Nat->Option (List AV)} (hit:ZiG P G gf caps els) (hn:3<=n)
  (I:Nat->(Nat->Prop)->World->Prop) (K:World->Prop) (M0:Nat->Prop) (hIe:∀ k M A B,I k M A->Ext A B->I k M B) (hKe:∀ A B,K A->Ext A B->K B)
  (hIo:∀ (k l:Nat) (M:Nat->Prop) (W:World) (r r':Loop),w.heap.size<=l->I k M W->W.heap[l]? = some (.loop r)->I k M (W.putObj l (.loop r')))
  (hKo:∀ (l:Nat) (W:World) (r r':Loop),w.heap.size<=l->K W->W.heap[l]? = some (.loop r)->K (W.putObj l (.loop r')))
  (hIM:∀ k M A,I k M A->(∀ b,M b->b<A.heap.size)/\∀ (b:Nat) (o:Obj),w.heap.size<=b->A.heap[b]? = some o->Odd o->¬M b)
  (hIG:∀ k M A,I k M A->GR G M A) (hcaps:CP M0 w caps lb) (h0:I 0 M0 w)
  (hround:∀ (l k m:Nat) (x:AV×AV) (u v:Value) (M:Nat->Prop) (W:World) (lr:Loop),w.heap.size<=l->I k M W->W.heap[l]? = some (.loop lr)->els[k]? = some x->PV M W x.1 u->PV M W x.2 v ->
   assign.wpIn (FW (some l)) m P (Exit.then (λa1 W1=>(∀ (b:Nat) (o:Obj),W.heap[b]? = some o->Odd o->W1.heap[b]? = some o) /\
     body.wpIn (FW (some l)) m P (λe _ W'=>((∀ (b:Nat) (o:Obj),W.heap[b]? = some o->Odd o->b≠l->W'.heap[b]? = some o)/\W'.heap[l]? = some (.loop { lr with state:=.busy })) /\
      ((e = .normal/\∃ M',I (k+1) M' W'/\W.heap.size<=W'.heap.size/\∀ b,b<W.heap.size->¬M b->¬M' b/\(b≠l->W'.heap[b]? = W.heap[b]?))∨(e = .ret/\K W'))) a1 (W1.putObj l (.loop { lr with state:=.busy }))) (λ_ _ _=>False))
    { tmps:=(a.tmps.setIfInBounds p u).setIfInBounds q v,defers:=[] } W)
  (hdone:∀ (D:Nat) (M:Nat->Prop) (W:World),w.heap.size<=D->I els.length M W->W.heap[D]? = some (.deferred (some []))->Q .normal { a with defers:=coll D::a.defers } W)
  (hstop:∀ (D:Nat) (W:World),w.heap.size<=D->K W->W.heap[D]? = some (.deferred (some []))->Q .ret { a with defers:=coll D::a.defers } W) :
  (Code.rangeFunc g #[p,q] assign body).wpIn (FW none) n P Q a w:=by
 refine wpIn_rangeFunc ?_;intro fn hfn;obtain ⟨rec,hrec⟩ : ∃ rec:LoopState->Option Code->Loop,rec=λst pe=>{ state:=st,pending:=pe,fn,tmps:=a.tmps,params:=#[p,q],assign,body,defers:=w.heap.size }:=⟨_,rfl⟩
 obtain ⟨W1,hW1⟩ : ∃ W1,(w.alloc (.deferred (some []))).alloc (.loop (rec .ready none))=W1:=⟨_,rfl⟩;have hE1:Ext w W1:=by rw[<- hW1];exact (Ext.refl w).al.al
 have hL1:W1.heap[w.heap.size+1]? = some (.loop (rec .ready none)):=by
  rw[<- hW1];have:=World.alloc_heap_new (w.alloc (.deferred (some []))) (.loop (rec .ready none));rwa [World.size_alloc]at this
 have hK1:W1.heap[w.heap.size]? = some (.deferred (some [])):=by
  rw[<- hW1];exact (Below.heap_alloc _ _ _ (by simp)).trans (World.alloc_heap_new w _)
 have hI1:I 0 M0 W1:=hIe _ _ _ _ h0 hE1;have hC1:CP M0 W1 caps lb:=⟨hcaps.1,λi x u hx hu=>(hcaps.2 i x u hx hu).mono (λb hb hM=>⟨hM,hE1.block b hb⟩) hE1.size⟩
 refine ⟨w.heap.size+1,[{ target:=.collected w.heap.size,args:=#[] }],W1,{ target:=.fn (.func gf) lb,args:=#[.func (.yield (w.heap.size+1)) #[] #[]] },W1,gf,
  #[.func (.yield (w.heap.size+1)) #[] #[]]++lb,W1,?_,?_,λ_ _=>trivial,?_,Z24,?_⟩
 . rw[<- hW1,hrec];exact run_enterLoop_outer _ _ _ _ _
 . simp only[resolve,hg];simp[go_sem]
 . simp[invoke,go_sem,Z1W hit.1]
 . have stay : ∀ {A B:World} {b:Nat} {o:Obj},Ext A B->A.heap[b]? = some o->B.heap[b]? = some o:=λh hb=>(h.block _ (Array.getElem?_eq_some_iff.1 hb).1).trans hb
   refine (hit.2 (n-1) (w.heap.size+1) lb
    (λk M W=>I k M W/\W.heap[w.heap.size+1]? = some (.loop (rec .ready none))/\W.heap[w.heap.size]? = some (.deferred (some [])))
    (λW=>K W/\W.heap[w.heap.size+1]? = some (.loop (rec .done (some .ret)))/\W.heap[w.heap.size]? = some (.deferred (some [])))
    M0 W1 (by omega) (λk M A B h e=>⟨hIe k M A B h.1 e,stay e h.2.1,stay e h.2.2⟩) (λA B h e=>⟨hKe A B h.1 e,stay e h.2.1,stay e h.2.2⟩) (λk M A h=>(hIM k M A h.1).1) (λk M A h=>hIG k M A h.1) hC1 ?_ ⟨hI1,hL1,hK1⟩).mono ?_
   . rintro k x u v M W ⟨hi,hl,hk⟩ hr hus hvs;have hls:w.heap.size+1<W.heap.size:=(Array.getElem?_eq_some_iff.1 hl).1;have hy:=run_yield (P:=P) (args:=#[u,v]) hl (by rw[hrec];rfl);rw[hrec]at hy
     have hfold:(#[p,q].zip #[u,v]).foldl (λt (x:Nat×Value)=>match x with|(p,v)=>t.setIfInBounds p v) a.tmps=(a.tmps.setIfInBounds p u).setIfInBounds q v:=by
      rw[<- Array.foldl_toList,Array.toList_zip];rfl
     have hy:(Instr.yield (w.heap.size+1) #[u,v]).run P W = .ok (.round (w.heap.size+1) fn ((a.tmps.setIfInBounds p u).setIfInBounds q v) assign body) W:=(by rw[<- hfold];exact hy);refine ⟨fn,_,assign,body,hy,roundIn_of_wpIn hfn (wpIn_mono (hround (w.heap.size+1) k _ x u v M W _ (by omega) hi hl hr hus hvs) ?_)⟩;rintro e a1 W2 hp
     cases e with
     | normal =>
       obtain ⟨hodd0,hp⟩:=hp;have hl2:=hodd0 _ _ hl trivial;have hk2:=hodd0 _ _ hk trivial;have hls2:w.heap.size+1<W2.heap.size:=(Array.getElem?_eq_some_iff.1 hl2).1;refine ⟨_,run_beginRound hl2 (by rw[hrec]),wpIn_mono hp ?_⟩;rintro e a3 W3 ⟨⟨hodd,hl3⟩,hp3⟩;have hd3:=hodd _ _ hk trivial (by omega);have hls3:=(Array.getElem?_eq_some_iff.1 hl3).1
       have fin:∀ jump:Option Code,(W3.putObj (w.heap.size+1) (.loop (rec (if jump.isNone then .ready else .done) jump))).heap[w.heap.size+1]? = some (.loop (rec (if jump.isNone then .ready else .done) jump)) /\
         (W3.putObj (w.heap.size+1) (.loop (rec (if jump.isNone then .ready else .done) jump))).heap[w.heap.size]? = some (.deferred (some [])):=λjump =>
        ⟨World.putObj_heap_same hls3,(World.putObj_heap_other (by omega)).trans hd3⟩
       rcases hp3 with ⟨rfl,M',hi3,hsz3,hs3⟩ | ⟨rfl,hk3⟩
       . have hr3:=run_endRound (P:=P) none hl3;have f1:=fin none;rw[hrec]at hr3 f1;refine ⟨_,_,hr3,.inl ⟨rfl,M',⟨hIo _ _ _ _ _ _ (by omega) hi3 hl3,?_,f1.2⟩,by simpa using hsz3,λb hb hM=>⟨(hs3 b hb hM).1,?_⟩⟩⟩
         . rw[hrec];exact f1.1
         . by_cases e:b=w.heap.size+1
           . subst e;rw[hl,hrec];exact f1.1
           . rw[World.putObj_heap_other e];exact (hs3 b hb hM).2 e
       . have hr3:=run_endRound (P:=P) (some .ret) hl3;have f1:=fin (some .ret);rw[hrec]at hr3 f1;refine ⟨_,_,hr3,.inr ⟨rfl,hKo _ _ _ _ (by omega) hk3 hl3,?_,f1.2⟩⟩;rw[hrec];exact f1.1
     |_=>exact hp.elim
   . rintro e W2 ⟨⟨v,rfl⟩,⟨M,hi,hl,hk⟩ | ⟨hi,hl,hk⟩⟩
     . exact ⟨none,_,by have:=run_endLoop (P:=P) hl (by rw[hrec];simp);rw[hrec]at this;exact this,hdone _ M _ (Nat.le_refl _) (hIo _ _ _ _ _ _ (by omega) hi hl) ((World.putObj_heap_other (by omega)).trans hk)⟩
     . exact ⟨some .ret,_,by have:=run_endLoop (P:=P) hl (by rw[hrec];simp);rw[hrec]at this;exact this,wpIn_ret (hstop _ _ (Nat.le_refl _) (hKo _ _ _ _ (by omega) hi hl) ((World.putObj_heap_other (by omega)).trans hk))⟩
section
variable {P:Program} {R:Run} {st:St} {a:Act} {W:World} {κ:Nat->Option (Nat×Nat)}
theorem ZiI {g:RA} {p q gf:Nat} {assign body:RCode} {Φ:Exit->St->Prop} {caps:List AV} {els:List (AV×AV)} (hrd:R.Top) (hpq:p≠q) (hit:ZiG P R.G gf caps els) (hg:evA R.G st g = .func (.func gf) [] caps) (hp:caps.all AV.pure=true)
  (ok:Nat->Bool) (hok:∀ k,ok k=true->k<1000) (ρ:Nat->Nat) (t0:List (Nat×AV)) (objs outs:Nat->List (Nat×AObj)) (Iv:Nat->Prop) (hI0:Iv 0) (hK:∀ k,∀ q∈objs k,1000<=q.1) (hinj:∀ k,((objs k).map λq=>ρ q.1).Nodup) (hinj2:∀ k,((outs k).map λq=>ρ q.1).Nodup)
  (hsub:∀ k,∀ q∈objs k,isK (outs k) q.1=true) (hnew:∀ k,∀ q∈outs k,isK (objs k) q.1=true∨(Yl ρ (objs k) st).get (ρ q.1)=none) (hnext:∀ k,Yl ρ (outs k) st=Yl ρ (objs (k+1)) st)
  (h0:Yl ρ (objs 0) st=st) (hin:∀ k,∀ q∈objs k,Yc (objs k) q.2=true)
  (ht0:∀ z∈t0,lk st.t z.1=some (z.2.ren ρ)/\z.1≠p/\z.1≠q/\∀ j,∀ k∈z.2.keys,isK (objs j) k=true)
  (hround:∀ (k:Nat) (x:AV×AV),els[k]? = some x->Iv k->∀ R':Run,R'.G=R.G->R'.N=R.N->AR P R' assign ⟨(p,x.1)::(q,x.2)::t0,objs k⟩ λe s1=>e = .normal/\∀ R'':Run,R''.G=R.G->R''.N=R.N ->
   AR P R'' body s1 (λe s2=>e = .normal/\(Yi ok s2).o=outs k/\Iv (k+1)))
  (hdone:Iv els.length->Φ .normal (Yl ρ (objs els.length) st)):AR P R (.rngf g [p,q] assign body) st Φ:=by
 intro c hc m a W hs
 cases c <;> simp only[Z1A,Bool.false_eq_true,Bool.and_eq_true,beq_iff_eq]at hc
 rename_i g' ps' ca cb;obtain ⟨⟨⟨⟨hcg,hps⟩,hpn⟩,hca⟩,hcb⟩:=hc;have hpn2:p<R.N/\q<R.N:=(by simpa using hpn);have hpn:=hpn2.1;have hqn:=hpn2.2;obtain rfl:ps' = #[p,q]:=(by rw[<- Array.toList_inj];exact hps);rw[hrd.1];refine wpFW.2 ((wpFW (n:=3)).1 ?_);obtain ⟨κ0,hs⟩:=hs;obtain ⟨S,hS⟩ : ∃ S:Nat->St,S=λk=>Yl ρ (objs k) st:=⟨_,rfl⟩
 have hSt:∀ k,(S k).t=st.t:=λk=>by rw[hS];exact Z4Y ρ _ _
 have nod:∀ k,((objs k).map λp=>ρ p.1).Nodup:=hinj
 have memK:∀ {o:List (Nat×AObj)} {q:Nat},isK o q=true->∃ x,(q,x)∈o:=λ{o q} h=>by
  obtain ⟨x,h1⟩:=Option.isSome_iff_exists.1 h;exact ⟨x,Z4F h1⟩
 have injK:∀ {o:List (Nat×AObj)},(o.map λp=>ρ p.1).Nodup->∀ q q',isK o q=true->isK o q'=true->ρ q=ρ q'->q=q':=λ{o} hn q q' h1 h2 e=>by
  have m1:=Z51.1 h1;have m2:=Z51.1 h2;have:(o.map (·.1)).map ρ=o.map (λp=>ρ p.1):=(by simp[List.map_map,Function.comp_def]);rw[<- this]at hn;exact Z52 hn m1 m2 e
 have hevg:∀ k,evA R.G (S k) g = .func (.func gf) [] caps:=λk=>by
  rw[<- hg]
  cases g <;> simp only[evA,St.tmp,hSt]
 have hv0:=hs.ev hcg;rw[hg]at hv0;obtain ⟨us0,lb,hav,hus0,hlb0⟩:=hv0.func_inv
 obtain rfl:us0 = #[]:=by
  have:=hus0.1;rw[<- Array.toList_inj];exact List.length_eq_zero_iff.1 (by simpa using this)
 have hcaps:∀ k W κ,SK R (S k) a W κ->CP ((S k).env R.M κ).M W caps lb:=λk W κ h=>by
  have h1:=h.ev hcg;rw[hevg,hav]at h1;obtain ⟨us1,lb1,h2,-,h3⟩:=h1.func_inv;simp only[Value.func.injEq]at h2;obtain ⟨-,-,rfl⟩:=h2;exact ⟨by simpa using h3.1,λi x u hx hu=>(h3.2 i x u hx (by simpa using hu)).toPV (List.all_eq_true.1 hp x (List.mem_of_getElem? hx))⟩
 obtain ⟨cs0,e0,nd0,hc0,-⟩:=hs.defers
 have marks:∀ (D:Nat) (st1:St) (W1:World) (κ1:Nat->Option (Nat×Nat)),W.heap.size<=D->SK R st1 a W1 κ1->W1.heap[D]? = some (.deferred (some []))->SK R st1 { a with defers:=coll D::a.defers } W1 κ1:=λD st1 W1 κ1 hD h hd=>by
  obtain ⟨cs1,e1,nd1,hc1,-⟩:=h.defers;obtain rfl:cs1=cs0:=Z54 (List.append_cancel_right (e1.symm.trans e0));refine h.odd ⟨rfl,λb=>.inl rfl⟩ rfl rfl rfl (λb _=>rfl) rfl ⟨D::cs1,by simp[e1],List.nodup_cons.2 ⟨λhm=>?_,nd1⟩,λc hm=>?_,λe=>by rw[hrd.2]at e;cases e⟩
  . have:=(Array.getElem?_eq_some_iff.1 (hc0 D hm).2).1;omega
  . rcases List.mem_cons.1 hm with rfl|hm
    . exact ⟨Nat.le_trans hs.kp.size hD,hd⟩
    . exact hc1 c hm
 have put:∀ (l:Nat) (st1:St) (W1:World) (κ1:Nat->Option (Nat×Nat)) (r r':Loop),W.heap.size<=l->SK R st1 a W1 κ1->W1.heap[l]? = some (.loop r)->SK R st1 a (W1.putObj l (.loop r')) κ1:=λl st1 W1 κ1 r r' hl h hr=>by
  obtain ⟨cs1,e1,nd1,hc1,hz1⟩:=h.defers;have:=hs.kp.size;refine h.odd (.put hr trivial) rfl rfl rfl (λb hb=>World.putObj_heap_other (by omega)) rfl ⟨cs1,e1,nd1,λc hm=>⟨(hc1 c hm).1,?_⟩,hz1⟩;rw[World.putObj_heap_other (by rintro rfl;have:=(hc1 _ hm).2;rw[hr]at this;cases this)];exact (hc1 c hm).2
 have hs0:SK R (S 0) a W κ0:=by rw[hS];show SK R (Yl ρ (objs 0) st) a W κ0;rw[h0];exact hs
 refine ZiH (I:=λk M W'=>∃ κ,(M=((S k).env R.M κ).M/\Iv k)/\SK R (S k) a W' κ) (K:=λW'=>∃ s κ,Φ .ret s/\SK R s a W' κ) (M0:=((S 0).env R.M κ0).M) (caps:=caps) (els:=els) hav hit (by omega) (λk M A B h e=>h.imp λκ h=>⟨h.1,h.2.grow e⟩) (λA B ⟨s,κ,h1,h2⟩ e=>⟨s,κ,h1,h2.grow e⟩)
  (λk l M W' r r' hl ⟨κ,hM,h⟩ hr=>⟨κ,hM,put l _ _ _ r r' hl h hr⟩) (λl W' r r' hl ⟨s,κ,h1,h⟩ hr=>⟨s,κ,h1,put l _ _ _ r r' hl h hr⟩) (λk M A ⟨κ,⟨hM,_⟩,h⟩=>?_) (λk M A ⟨κ,⟨hM,_⟩,h⟩=>hM ▸ h.gr) (hcaps 0 W κ0 hs0) ⟨κ0,⟨rfl,hI0⟩,hs0⟩ ?_ ?_ ?_
 . subst hM;refine ⟨λb hb=>h.owned_lt hb,λb o hb ho hodd hM=>?_⟩;rcases hM with hM | ⟨q,s,hq⟩
   . have:=h.low b hM;have:=hs.kp.size;omega
   . exact h.notOdd hq ho hodd
 . intro l k m x u v M W1 lr hl hI hlr hx hxu hxv;obtain ⟨κ,⟨rfl,hIk⟩,h⟩:=hI
   have enterAt:∀ W',SK R (S k) a W' κ->SK (rC (objs k) ρ R (S k) κ W') (obSt (objs k)) noAct W' (kC (objs k) ρ κ)/\∀ (x:AV) (v:Value),inK (objs k) x->VR ((S k).env R.M κ) W' (x.ren ρ) v->VR ((obSt (objs k)).env (mC (objs k) ρ R (S k) κ) (kC (objs k) ρ κ)) W' x v:=λW' h =>
    Z4V h (λq hq=>by obtain ⟨x,hx⟩:=memK hq;exact hK k _ hx) (injK (hinj k)) (λq o hq=>by rw[hS];exact Z50 ρ _ _ q o (nod k) hq)
     (λq o hq=>by
      have h2:=hin k (q,o) (Z4F hq);have kept:∀ x,Ya (objs k) x=true->inK (objs k) x:=λx hx k' hk'=>List.all_eq_true.1 hx k' hk'
      cases o with
      |box cells=>exact λx hx=>kept x (List.all_eq_true.1 h2 x hx)
      |row sz rows=>exact λr hr x hx=>kept x (List.all_eq_true.1 (List.all_eq_true.1 h2 r hr) x hx)
      | mp kvs =>
        intro p hp;have:=List.all_eq_true.1 h2 p hp;simp only[Bool.and_eq_true]at this;exact ⟨kept _ this.1,kept _ this.2⟩)
   obtain ⟨h1,conv⟩:=enterAt W1 h
   have hXo:∀ W',SK R (S k) a W' κ->∀ b,(rC (objs k) ρ R (S k) κ W').X b->∀ o,W'.heap[b]? = some o->¬Odd o:=λW' h b ⟨q,s,hq⟩ o ho hodd=>by
    simp only[kC]at hq
    split at hq
    . exact h.notOdd hq ho hodd
    . cases hq
   have hMM:∀ b,((obSt (objs k)).env (mC (objs k) ρ R (S k) κ) (kC (objs k) ρ κ)).M b->((S k).env R.M κ).M b:=λb hb=>by
    rcases hb with hb | ⟨q,s,hq⟩
    . exact hb.1
    . simp only[kC]at hq
      split at hq
      . exact .inr ⟨ρ q,s,hq⟩
      . cases hq
   let R1:Run:={ rC (objs k) ρ R (S k) κ W1 with N:=R.N,rd:=some l }
   have hN:R.N=a.tmps.size:=h.size.symm
   have start:SK R1 ⟨(p,x.1)::(q,x.2)::t0,objs k⟩ { tmps:=(a.tmps.setIfInBounds p u).setIfInBounds q v,defers:=[] } W1 (kC (objs k) ρ κ):=by
    refine ⟨.nil _ _ _ _,by show ((a.tmps.setIfInBounds p u).setIfInBounds q v).size=R.N;simp[hN],λn y hy=>?_,h1.obj,h1.dom,h1.inj,h1.low,h1.apart,h1.kp,h1.gr,h1.mono,h1.ent⟩;have hy:lk ((p,x.1)::(q,x.2)::t0) n=some y:=hy;show VR ((obSt (objs k)).env (mC (objs k) ρ R (S k) κ) (kC (objs k) ρ κ)) W1 y (((a.tmps.setIfInBounds p u).setIfInBounds q v).getD n Go.undef);have hlt:p<a.tmps.size:=(by rw[<- hN];exact hpn);have hlq:q<a.tmps.size:=(by rw[<- hN];exact hqn);simp only[lk]at hy
    split at hy
    . rename_i e;subst e;obtain rfl:x.1=y:=(by simpa using hy);have e:((a.tmps.setIfInBounds p u).setIfInBounds q v).getD p Go.undef=u:=(by simp[Array.getD_eq_getD_getElem?,Array.getElem?_setIfInBounds,Ne.symm hpq,hlt]);rw[e];exact .pv (hxu.mono (λb _ hb=>⟨λhb'=>hb (hMM b hb'),rfl⟩) (Nat.le_refl _))
    . rename_i e0
      split at hy
      . rename_i e;subst e;obtain rfl:x.2=y:=(by simpa [hpq] using hy);have e:((a.tmps.setIfInBounds p u).setIfInBounds q v).getD q Go.undef=v:=(by simp[Array.getD_eq_getD_getElem?,Array.getElem?_setIfInBounds,hlq]);rw[e];exact .pv (hxv.mono (λb _ hb=>⟨λhb'=>hb (hMM b hb'),rfl⟩) (Nat.le_refl _))
      . rename_i e
        have e2:((a.tmps.setIfInBounds p u).setIfInBounds q v).getD n Go.undef=a.tmps.getD n Go.undef:=by
         simp only[Array.getD_eq_getD_getElem?,Array.getElem?_setIfInBounds,if_neg e,if_neg e0]
        rw[e2];obtain ⟨g1,g2,g3,g5⟩:=ht0 (n,y) (Z4F hy);have g4:=h.tm n (y.ren ρ) (by show lk (S k).t n=_;rw[hSt];exact g1);exact conv y _ (λq hq=>g5 k q hq) g4
   refine wpIn_mono (hround k x hx hIk R1 rfl rfl ca hca m _ W1 ⟨_,start⟩) ?_;rintro e a1 W2 ⟨s1,⟨rfl,hbody⟩,κ1,h2⟩;refine ⟨λb o hb ho=>h2.keepOdd (hXo W1 h) hb ho,?_⟩;have hl2:W2.heap[l]? = some (.loop lr):=h2.keepOdd (hXo W1 h) hlr trivial;have h3:=SK.both rfl h2 (o':=.loop { lr with state:=.busy }) hl2 hlr;have hb:=put l _ W1 κ lr { lr with state:=.busy } hl h hlr;refine wpIn_mono (hbody { R1 with W0:=W1.putObj l (.loop { lr with state:=.busy }) } rfl rfl cb hcb m _ _ ⟨_,h3⟩) ?_;rintro e a2 W3 ⟨s2,hrnd,hs2⟩
   have hodd:∀ κ2,SK { R1 with W0:=W1.putObj l (.loop { lr with state:=.busy }) } s2 a2 W3 κ2->(∀ (b:Nat) (o:Obj),W1.heap[b]? = some o->Odd o->b≠l->W3.heap[b]? = some o)/\W3.heap[l]? = some (.loop { lr with state:=.busy }):=λκ2 h4 =>
    ⟨λb o hb1 ho hne=>h4.keepOdd (hXo _ hb) ((World.putObj_heap_other hne).trans hb1) ho,
     h4.keepOdd (hXo _ hb) (o:=.loop { lr with state:=.busy }) (World.putObj_heap_same (Array.getElem?_eq_some_iff.1 hlr).1) trivial⟩
   have leave:(Yi ok s2).o=outs k->∃ κ3,SK R (Yl ρ (outs k) st) a W3 κ3/\Mono ((S k).env R.M κ) (W1.putObj l (.loop { lr with state:=.busy })) ((Yl ρ (outs k) st).env R.M κ3) W3:=λhe=>by
    obtain ⟨κ2,h4⟩:=Ym.frz ok s2 (λk hk=>by
     cases e:ok k
     . rfl
     . have:=hok k e;omega) _ a2 W3 hs2
    have g:=h4.sub (t':=[]) (λn x hx=>by simp[lk]at hx);have e:({ Yi ok s2 with t:=[] }:St)=obSt (outs k):=(by rw[<- he];rfl);rw[e]at g
    have g2:SK (rC (objs k) ρ R (S k) κ (W1.putObj l (.loop { lr with state:=.busy }))) (obSt (outs k)) noAct W3 κ2 :=
     ⟨.nil _ _ _ _,rfl,λn x hx=>by simp[obSt,St.tmp,lk]at hx,g.obj,g.dom,g.inj,g.low,g.apart,g.kp,g.gr,g.mono,g.ent⟩
    obtain ⟨κ3,h5,h6,-⟩:=Z5f hb (objs':=outs k) (st1:=Yl ρ (outs k) st) (injK (hinj2 k)) (λq o hq=>by rw[hS];exact Z50 ρ _ _ q o (nod k) hq)
     (λq hq=>by obtain ⟨x,hx⟩:=memK hq;exact hsub k _ hx)
     (λq h1 h2=>by
      obtain ⟨x,hx⟩:=memK h1;rcases hnew k _ hx with h3|h3
      . rw[h2]at h3;cases h3
      . rw[hS];exact h3) g2 ((Z4Y ρ _ _).trans (hSt k).symm) (λq o hq=>Z50 ρ _ _ q o (hinj2 k) hq)
     (λj hj=>by
      have o1:(Yl ρ (outs k) st).get j=st.get j:=Z4Z ρ j _ _ λq hq=>hj q.1 (Z51.2 (List.mem_map.2 ⟨q,hq,rfl⟩))
      have o2:(Yl ρ (objs k) st).get j=st.get j:=Z4Z ρ j _ _ λq hq=>hj q.1 (hsub k q hq)
      rw[hS];exact o1.trans o2.symm)
    exact ⟨κ3,h5,h6⟩
   obtain ⟨κ2,h4⟩:=id hs2;refine ⟨hodd κ2 h4,?_⟩;obtain ⟨rfl,hro,hri⟩:=hrnd;obtain ⟨κ3,h5,h6⟩:=leave hro;rw[hnext k]at h5 h6;refine .inl ⟨rfl,_,⟨κ3,⟨rfl,hri⟩,by rw[hS];exact h5⟩,by have:=h6.size;simpa using this,λb hb1 hM=>?_⟩;obtain ⟨g1,g2⟩:=h6.imm b (by simpa using hb1) hM;exact ⟨by rw[hS];exact g1,λhne=>g2.trans (World.putObj_heap_other hne)⟩
 . rintro D M W1 hD ⟨κ,⟨-,hIk⟩,h⟩ hd;refine ⟨_,?_,κ,marks D _ _ _ hD h hd⟩;rw[hS];exact hdone hIk
 . rintro D W1 hD ⟨s,κ,h1,h⟩ hd;exact ⟨s,h1,κ,marks D _ _ _ hD h hd⟩
end
structure ItH (G:Nat->Option (List AV)) (J:Nat->(Nat->Prop)->World->Prop) (K:World->Prop):Prop where
 je:∀ k M A B,J k M A->Ext A B->J k M B
 ke:∀ A B,K A->Ext A B->K B
 jm:∀ k M A,J k M A->∀ b,M b->b<A.heap.size
 jg:∀ k M A,J k M A->GR G M A
def ItS (G:Nat->Option (List AV)) (N:Nat) (J:Nat->(Nat->Prop)->World->Prop) (k:Nat) (st:St) (a:Act) (A:World):Prop:=∃ M A0,J k M A0/\SR (Zgr G M A0 N none) st a A
def ItQ (G:Nat->Option (List AV)) (N:Nat) (J:Nat->(Nat->Prop)->World->Prop) (K:World->Prop) (Φ:Exit->Nat->St->Prop) (e:Exit) (a:Act) (A:World):Prop :=
 (∃ k st,Φ e k st/\ItS G N J k st a A)∨(e = .ret/\K A/\a.defers=[])
def ItW (P:Program) (G:Nat->Option (List AV)) (N n:Nat) (J:Nat->(Nat->Prop)->World->Prop) (K:World->Prop) (rc:RCode) (k:Nat) (st:St) (Φ:Exit->Nat->St->Prop):Prop :=
 ∀ c,Z1A P N c rc=true->∀ a A,ItS G N J k st a A->c.wpIn (FW none) n P (ItQ G N J K Φ) a A
def YOK (P:Program) (n l:Nat) (J:Nat->(Nat->Prop)->World->Prop) (K:World->Prop) (els:List (List AV)):Prop :=
 ∀ (k:Nat) (xs:List AV) (us:Array Value) (M:Nat->Prop) (A:World),J k M A->els[k]? = some xs->CP M A xs us ->
   YieldAt Fence.wide n P l us A λe A'=>(e = .returned (.bool true)/\∃ M',J (k+1) M' A'/\Since M A M' A')∨(e = .returned (.bool false)/\K A')
theorem PV.flatW {M M':Nat->Prop} {W W':World} {x:AV} {v:Value} (h:PV M W x v):x.flat=true->PV M' W' x v:=by
 induction h with
 |hole=>exact λ_=>.hole
 |int k n=>exact λ_=>.int k n
 |bool b=>exact λ_=>.bool b
 |abool b=>exact λ_=>.abool b
 |str s=>exact λ_=>.str s
 |nilp=>exact λ_=>.nilp
 |nils=>exact λ_=>.nils
 |nilm=>exact λ_=>.nilm
 |nilf=>exact λ_=>.nilf
 | agg xs us h1 hx ih =>
   intro h;simp only[AV.flat,List.all_eq_true,List.mem_attach,forall_const,Subtype.forall]at h;exact .agg xs us h1 (λi x u hi hu=>ih i x u hi hu (h x (List.mem_of_getElem? hi)))
 | tup xs us h1 hx ih =>
   intro h;simp only[AV.flat,List.all_eq_true,List.mem_attach,forall_const,Subtype.forall]at h;exact .tup xs us h1 (λi x u hi hu=>ih i x u hi hu (h x (List.mem_of_getElem? hi)))
 |_=>intro h;simp[AV.flat]at h
theorem ZiJ {P:Program} {R:Run} {st:St} {a:Act} {W:World} {κ:Nat->Option (Nat×Nat)} {rd:Option Nat} {m:Nat} {ops:Array Oper} {r:ROper} {j l:Nat} {o:Oper} {f:RA} {ys:List RA} {K:Act->World->Prop} {Q:Exit->Act->World->Prop}
  (hr:r.op = .callv f ys) (hf:evA R.G st f = .func (.yield l) [] []) (hw:wants st r.guard=some true) (ho:ops[j]? = some o) (hk:Z1z P R.N ops o r=true) (hκ:SK R st a W κ)
  (hc:∀ us:Array Value,us.size=ys.length->(∀ (i:Nat) (y:RA) (u:Value),ys[i]? = some y->us[i]? = some u->VR (st.env R.M κ) W (evA R.G st y) u)->YieldAt (FW rd) (m-1) P l us W fun
   |.returned v,W'=>K (a.put o.dst v) W'
   |.panicked ch,W'=>Q (.panic ch) a W'
   |.outgrown,_=>LetsOut Q):wpOpIn (FW rd) m P ops Q j K a W:=by
 simp only[Z1z,Bool.and_eq_true,decide_eq_true_eq]at hk;obtain ⟨⟨⟨hd,hdn⟩,hop⟩,hg⟩:=hk;unfold wpOpIn;simp only[ho];rw[if_pos (Z20 hκ hg hw)];rw[hr]at hop;simp only[Z1y,if_true,Z1x]at hop
 split at hop <;> try (simp at hop;done)
 . simp_all
 . simp_all
 . rename_i r0 x xs ats y' ys e1 e2;simp only[Bool.and_eq_true]at hop;simp only[ROp.callv.injEq]at e2;obtain ⟨rfl,rfl⟩:=e2;have hx:=hκ.ev hop.1;rw[hf]at hx;obtain ⟨us,vs,hv1,hv2,hv3⟩:=hx.func_inv
   obtain rfl:us = #[]:=by
    have:=hv2.1;rw[<- Array.toList_inj];exact List.length_eq_zero_iff.1 (by simpa using this)
   obtain rfl:vs = #[]:=by
    have:=hv3.1;rw[<- Array.toList_inj];exact List.length_eq_zero_iff.1 (by simpa using this)
   obtain ⟨hl,ha⟩:=Zc hop.2
   obtain ⟨fn,tmps,assign,body,h1,h2⟩:=hc ((⟨xs⟩ : Array Operand).map a.eval) (by simpa using hl) (λi y u hy hu=>by
    have hi:i<xs.length:=by
     have:=(Array.getElem?_eq_some_iff.1 hu).1;simpa using this
    have hu2:u=a.eval xs[i]:=by
     have:=(Array.getElem?_eq_some_iff.1 hu).2;simpa using this.symm
    rw[hu2];exact hκ.ev (ha i _ y (List.getElem?_eq_getElem hi) hy))
   refine ⟨λ_ _=>trivial,?_⟩;rw[Oper.semAt_eq _ _ _ (λc e=>by rw[e1]at e;cases e)]
   have:(execOp a.eval o).run P W = .ok (.round l fn tmps assign body) W:=by
    rw[<- h1];simp[execOp,e1,resolve,hv1,Deferred.ofValue,invoke,Sem.run_bind]
   rw[this];exact ⟨Z24,h2⟩
section
variable {P:Program} {G:Nat->Option (List AV)} {N n l:Nat} {J:Nat->(Nat->Prop)->World->Prop} {K:World->Prop} {k:Nat} {st:St} {Φ Ψ:Exit->Nat->St->Prop} {rc:RCode}
theorem ZiK (h:ItW P G N n J K rc k st Φ) (hm:∀ e k t,Φ e k t->Ψ e k t):ItW P G N n J K rc k st Ψ:=λc hc a A hs =>
 wpIn_mono (h c hc a A hs) λ_ _ _ q=>q.imp (λ⟨k,t,h1,h2⟩=>⟨k,t,hm _ _ _ h1,h2⟩) id
theorem ZiL (h:∀ M A,AR P (Zgr G M A N none) rc st λe s=>∃ s',Φ e k s'/\Ym s s'):ItW P G N n J K rc k st Φ:=by
 rintro c hc a A ⟨M,A0,hJ,hs⟩;refine wpIn_mono (h M A0 c hc n a A hs) ?_;rintro e a' A' ⟨s,⟨s',hΦ,hw⟩,hs'⟩;exact .inl ⟨k,s',hΦ,M,A0,hJ,hw _ _ _ hs'⟩
theorem ZiM {a b:RCode} (h:ItW P G N n J K a k st λe k' t'=>match e with | .normal=>ItW P G N n J K b k' t' Φ|e=>Φ e k' t'):ItW P G N n J K (.seq a b) k st Φ:=by
 intro c hc x A hs;obtain ⟨c1,c2,rfl,h1,h2⟩:=ZaS hc;refine wpIn_seq (wpIn_mono (h c1 h1 x A hs) ?_);rintro e a' A' (⟨k',t',hΦ,hs'⟩ | ⟨rfl,hK,hd⟩)
 . cases e with
   |normal=>exact hΦ c2 h2 a' A' hs'
   |_=>exact .inl ⟨k',t',hΦ,hs'⟩
 . exact .inr ⟨rfl,hK,hd⟩
theorem ZiN {a b:RCode} (h:ItW P G N n J K a k st λe k' t'=>e = .normal/\ItW P G N n J K b k' t' Φ):ItW P G N n J K (.seq a b) k st Φ :=
 ZiM (ZiK h λe k t ⟨he,h⟩=>by subst he;exact h)
theorem ZiO {a b:RCode} (st':St) (h:∀ M A,AR P (Zgr G M A N none) a st λe s=>e = .normal/\Ym s st') (hb:ItW P G N n J K b k st' Φ):ItW P G N n J K (.seq a b) k st Φ :=
 ZiN (ZiL λM A=>Z2D (h M A) λe s ⟨he,hw⟩=>⟨st',⟨he,hb⟩,hw⟩)
theorem ZiP {a:RCode} (e0:Exit) (st':St) (h:∀ M A,AR P (Zgr G M A N none) a st λe s=>e=e0/\Ym s st') (hb:Φ e0 k st'):ItW P G N n J K a k st Φ :=
 ZiL λM A=>Z2D (h M A) λe s ⟨he,hw⟩=>⟨st',he ▸ hb,hw⟩
def ItBk (id:Nat) (Φ:Exit->Nat->St->Prop):Exit->Nat->St->Prop
 |.exit id',k,t=>if id'=id then Φ .normal k t else Φ (.exit id') k t
 |e,k,t=>Φ e k t
theorem ZiQ {id:Nat} {a:RCode} (h:ItW P G N n J K a k st (ItBk id Φ)):ItW P G N n J K (.block id a) k st Φ:=by
 intro c hc x A hs;obtain ⟨c1,rfl,h1⟩:=ZaT hc;refine wpIn_block (wpIn_mono (h c1 h1 x A hs) ?_);rintro e a' A' (⟨k',t',hΦ,hs'⟩ | ⟨rfl,hK,hd⟩)
 . cases e
   case exit j =>
    simp only[ItBk,Exit.inBlock]at *
    split at hΦ
    . rename_i e;rw[if_pos e];exact .inl ⟨k',t',hΦ,hs'⟩
    . rename_i e;rw[if_neg e];exact .inl ⟨k',t',hΦ,hs'⟩
   all_goals exact .inl ⟨k',t',hΦ,hs'⟩
 . exact .inr ⟨rfl,hK,hd⟩
theorem ZiR {α:Type} {b:RCode} (kf:α->Nat) (tf:α->St) (I:α->Prop) (μ:α->Nat) (x0:α) (h0:kf x0=k) (ht:tf x0=st) (hi:I x0)
  (hr:∀ x,I x->ItW P G N n J K b (kf x) (tf x) λe k' t'=>match e with | .normal=>∃ y,kf y=k'/\tf y=t'/\I y/\μ y<μ x|e=>Φ e k' t'):ItW P G N n J K (.loop b) k st Φ:=by
 intro c hc x A hs;obtain ⟨c1,rfl,h1⟩:=ZaU hc;subst h0;subst ht;refine wpIn_loop_ghost (λm a A=>∃ x,I x/\m=μ x/\ItS G N J (kf x) (tf x) a A) (μ x0) ⟨x0,hi,rfl,hs⟩ ?_;rintro m a A ⟨x,hx,rfl,hs⟩;refine wpIn_mono (hr x hx c1 h1 a A hs) ?_;rintro e a' A' (⟨k',t',hΦ,hs'⟩ | ⟨rfl,hK,hd⟩)
 . cases e with
   | normal =>
     obtain ⟨y,rfl,rfl,hy,hm⟩:=hΦ;exact ⟨μ y,hm,y,hy,rfl,hs'⟩
   |_=>exact .inl ⟨k',t',hΦ,hs'⟩
 . exact .inr ⟨rfl,hK,hd⟩
theorem ZiS (H:ItH G J K) {els:List (List AV)} (hY:YOK P (n-1) l J K els) {id d:Nat} {gd:Option (Nat×Bool)} {pre post:List ROper} {f:RA} {ys:List RA} {rest:RCode} {xs:List AV} {t1 tf tF:List (Nat×AV)} {st2:St}
  (hdN:d<N) (hx:els[k]? = some xs) (hpx:∀ x∈xs,x.pure=true) (hp1:∀ q∈t1,q.2.pure=true)
  (hpre:RW P G pre st λe s=>e = .normal/\Ym s ⟨t1,[]⟩) (hw:wants ⟨t1,[]⟩ gd=some true) (hf:evA G ⟨t1,[]⟩ f = .func (.yield l) [] []) (hy:ys.map (evA G ⟨t1,[]⟩)=xs)
  (hpost:RW P G post ⟨(d,.bool true)::t1,[]⟩ λe s=>e = .normal/\Ym s st2) (hrest:ItW P G N n J K rest (k+1) st2 Φ)
  (htf:∀ q∈tf,lk t1 q.1=some q.2/\q.2.flat=true) (hpostF:RW P (λ_=>none) post ⟨(d,.bool false)::tf,[]⟩ λe s=>e = .normal/\Ym s ⟨tF,[]⟩)
  (hrestF:∀ A,AR P (Zgr (λ_=>none) (λ_=>False) A N none) rest ⟨tF,[]⟩ λe s=>e = .ret/\Ym s ⟨[],[]⟩) :
  ItW P G N n J K (.seq (.reg id false (pre++{ d:=some d,op:=.callv f ys,guard:=gd }::post)) rest) k st Φ:=by
 rintro c hc a A ⟨M,A0,hJ,hs0⟩;obtain ⟨c1,c2,rfl,hc1,hc2⟩:=ZaS hc;obtain ⟨ops,rfl,hops⟩:=ZaV hc1;obtain ⟨hol,hoo⟩:=Zc hops
 have hol:ops.size=pre.length+(1+post.length):=by
  have:ops.toList.length=ops.size:=rfl;rw[<- this,hol];simp;omega
 refine wpIn_seq (wpIn_region ?_)
 have okAt:∀ (i:Nat) (r:ROper),(pre++{ d:=some d,op:=.callv f ys,guard:=gd }::post)[i]? = some r->∃ o,ops[i]? = some o/\Z1z P N ops o r=true:=λi r hi=>by
  have hlt:i<ops.size:=by
   have:=(List.getElem?_eq_some_iff.1 hi).1;rw[hol];simp at this;omega
  exact ⟨ops[i],by simp[hlt],hoo i _ r (by simp[hlt]) hi⟩
 have hrg:List.range ops.size=List.range pre.length++(pre.length::(List.range post.length).map (λi=>pre.length+1+i)):=by
  rw[hol,List.range_add,List.range_add];simp[List.range_succ,Function.comp_def,Nat.add_assoc]
 rw[hrg];refine ZaW (R:=Zgr G M A0 N none) _ _ pre st (λs=>Ym s ⟨t1,[]⟩) a A ?_ (by simp) ?_ hpre hs0
 . intro i r hi;have hlt:=(List.getElem?_eq_some_iff.1 hi).1;obtain ⟨o,h1,h2⟩:=okAt i r (by rw[List.getElem?_append_left hlt];exact hi);exact ⟨i,o,by simp[hlt],h1,h2⟩
 intro s4 b4 B4 w4 hs4;obtain ⟨κ4,hk4⟩:=w4 _ _ _ hs4;obtain ⟨d4,n4,t4,e4⟩:=endG hs4 w4 hp1;obtain ⟨o2,ho2,hk2⟩:=okAt pre.length { d:=some d,op:=.callv f ys,guard:=gd } (by rw[List.getElem?_append_right (Nat.le_refl _)];simp);rw[wpOpsIn_cons];refine ZiJ (R:=Zgr G M A0 N none) (l:=l) (f:=f) (ys:=ys) rfl hf hw ho2 hk2 hk4 λus hus hval=>?_
 have hcp:CP M B4 xs us:=by
  refine ⟨by rw[hus,<- hy,List.length_map],λi x u hi hu=>?_⟩
  have hlt:i<ys.length:=by
   have:=(List.getElem?_eq_some_iff.1 hi).1;rw[<- hy,List.length_map]at this;exact this
  have h1:=hval i ys[i] u (List.getElem?_eq_getElem hlt) hu
  have hxe:evA G ⟨t1,[]⟩ ys[i]=x:=by
   rw[<- hy,List.getElem?_map,List.getElem?_eq_getElem hlt]at hi;simpa using hi
  rw[show evA (Zgr G M A0 N none).G ⟨t1,[]⟩ ys[i]=x from hxe]at h1;exact (h1.toPV (hpx x (List.mem_of_getElem? hi))).mono (λb _ hb=>⟨λh=>hb (.inl h),rfl⟩) (Nat.le_refl _)
 have hdst:o2.dst=some d:=by
  simp only[Z1z,Bool.and_eq_true,decide_eq_true_eq]at hk2;exact hk2.1.1.1
 have suffix:∀ (b:Bool) (T:List (Nat×AV)) (st2:St) (G':Nat->Option (List AV)) (M':Nat->Prop) (A':World),GR G' M' A'->(∀ x,M' x->x<A'.heap.size)->TT' M' A' T b4 ->
   RW P G' post ⟨(d,.bool b)::T,[]⟩ (λe s=>e = .normal/\Ym s st2)->∀ (Qx:Exit->Act->World->Prop),
    (∀ a5 A5,SR (Zgr G' M' A' N none) st2 a5 A5->Qx .normal a5 A5)->wpOpsIn (FW none) n P ops Qx ((List.range post.length).map (λi=>pre.length+1+i)) (b4.put (some d) (.bool b)) A':=by
  intro b T st2 G' M' A' hGR hM' hT hrw Qx hQx
  have hsr:SR (Zgr G' M' A' N none) ⟨(d,.bool b)::T,[]⟩ (b4.put (some d) (.bool b)) A':=by
   refine Zgs hGR hM' d4 (by simpa [Act.put] using n4) λk x hx=>?_
   show PV M' A' x ((b4.tmps.setIfInBounds d (.bool b)).getD k Go.undef);simp only[lk]at hx
   split at hx
   . rename_i e;subst e
     cases hx
     have:(b4.tmps.setIfInBounds d (.bool b)).getD d Go.undef = .bool b:=(by simp[Array.getD,n4,hdN]);rw[this];exact .bool b
   . rename_i e
     have h3:(b4.tmps.setIfInBounds d (.bool b)).getD k Go.undef=b4.tmps.getD k Go.undef:=by
      simp only[Array.getD_eq_getD_getElem?,Array.getElem?_setIfInBounds,if_neg e]
     rw[h3];exact hT k x hx
  refine Z27 (R:=Zgr G' M' A' N none) _ post ⟨(d,.bool b)::T,[]⟩ (λe s=>e = .normal/\Ym s st2) Qx _ A' ?_ (by simp) ?_ hrw hsr
  . intro i r hi;have hlt:=(List.getElem?_eq_some_iff.1 hi).1
    obtain ⟨o,h1,h2⟩:=okAt (pre.length+1+i) r (by
     rw[List.getElem?_append_right (by omega),show pre.length+1+i-pre.length=i+1 by omega];simpa using hi)
    exact ⟨pre.length+1+i,o,by simp[hlt],h1,h2⟩
  . rintro e s5 a5 A5 ⟨rfl,w5⟩ hs5;exact hQx a5 A5 (w5 _ _ _ hs5)
 obtain ⟨fn,tm,asg,bo,y1,y2⟩:=hY k xs us M B4 (H.je _ _ _ _ hJ e4) hx hcp;refine ⟨fn,tm,asg,bo,y1,y2.mono ?_⟩;rintro e A' (⟨rfl,M',hJ',hSi⟩ | ⟨rfl,hK'⟩)
 . show wpOpsIn (FW none) n P ops _ _ (b4.put o2.dst (.bool true)) A';rw[hdst];have hT':TT' M' A' t1 b4:=λk x hx=>(t4 k x hx).mono hSi.2 hSi.1
   exact suffix true t1 st2 G M' A' (H.jg _ _ _ hJ') (H.jm _ _ _ hJ') hT' hpost _ λa5 A5 h5=>hrest c2 hc2 a5 A5 ⟨M',A',hJ',h5⟩
 . show wpOpsIn (FW none) n P ops _ _ (b4.put o2.dst (.bool false)) A';rw[hdst]
   refine suffix false tf ⟨tF,[]⟩ (λ_=>none) (λ_=>False) A' (λg cs hg=>by cases hg) (λ_ h=>h.elim) (λk x hx=>by
    obtain ⟨g1,g2⟩:=htf (k,x) (Z4F hx);exact (t4 k x g1).flatW g2) hpostF _ λa5 A5 h5=>?_
   refine wpIn_mono (hrestF A' c2 hc2 n a5 A5 h5) ?_;rintro e b6 B6 ⟨s6,⟨rfl,w6⟩,hs6⟩;obtain ⟨d6,-,-,e6⟩:=endG hs6 w6 (by simp);exact .inr ⟨rfl,H.ke _ _ hK' e6,d6⟩
theorem ZiT (H:ItH G J K) {els:List (List AV)} (hY:YOK P (n-1) l J K els) {id d:Nat} {gd:Option (Nat×Bool)} {rs:List ROper} (i:Nat) {f:RA} {ys:List RA} (hri:rs[i]? = some { d:=some d,op:=.callv f ys,guard:=gd }) {rest:RCode} {xs:List AV} (t1:List (Nat×AV)) (st2:St) (tf tF:List (Nat×AV))
  (hdN:d<N) (hx:els[k]? = some xs) (hpx:∀ x∈xs,x.pure=true) (hp1:∀ q∈t1,q.2.pure=true)
  (hpre:RW P G (rs.take i) st λe s=>e = .normal/\Ym s ⟨t1,[]⟩) (hw:wants ⟨t1,[]⟩ gd=some true) (hf:evA G ⟨t1,[]⟩ f = .func (.yield l) [] []) (hy:ys.map (evA G ⟨t1,[]⟩)=xs)
  (hpost:RW P G (rs.drop (i+1)) ⟨(d,.bool true)::t1,[]⟩ λe s=>e = .normal/\Ym s st2) (hrest:ItW P G N n J K rest (k+1) st2 Φ)
  (htf:∀ q∈tf,lk t1 q.1=some q.2/\q.2.flat=true) (hpostF:RW P (λ_=>none) (rs.drop (i+1)) ⟨(d,.bool false)::tf,[]⟩ λe s=>e = .normal/\Ym s ⟨tF,[]⟩)
  (hrestF:∀ A,AR P (Zgr (λ_=>none) (λ_=>False) A N none) rest ⟨tF,[]⟩ λe s=>e = .ret/\Ym s ⟨[],[]⟩):ItW P G N n J K (.seq (.reg id false rs) rest) k st Φ:=by
 have e:rs=rs.take i++{ d:=some d,op:=.callv f ys,guard:=gd }::rs.drop (i+1):=by
  obtain ⟨hi,h⟩:=List.getElem?_eq_some_iff.1 hri;rw[<- h,<- List.drop_eq_getElem_cons hi,List.take_append_drop]
 rw[e];exact ZiS H hY hdN hx hpx hp1 hpre hw hf hy hpost hrest htf hpostF hrestF
end
theorem ZiU {P:Program} {gf:Nat} {fn:Func} (hf:P.funcs[gf]? = some fn) (hE:entB P gf=true) {rc:RCode} (hb:(match fn.body with|some c=>Z1A P fn.ntmps c rc|none=>false)=true) (hr:fn.results = #[])
  {G:Nat->Option (List AV)} {caps:List AV} {els:List (List AV)} (hn:caps.length+1<=fn.ntmps)
  (h:∀ (n l:Nat) (J:Nat->(Nat->Prop)->World->Prop) (K:World->Prop),2<=n->ItH G J K->YOK P (n-1) l J K els ->
   ItW P G fn.ntmps n J K rc 0 ⟨iniT 0 (.func (.yield l) [] []::caps),[]⟩ λe k s=>(e = .ret∨e = .normal)/\k=els.length/\Ym s ⟨[],[]⟩) :
  entB P gf=true/\∀ (n l:Nat) (lb:Array Value) (J:Nat->(Nat->Prop)->World->Prop) (K:World->Prop) (M:Nat->Prop) (W:World),2<=n->ItH G J K->CP M W caps lb->YOK P (n-1) l J K els ->
   J 0 M W->CallsIn Fence.wide n P gf (#[.func (.yield l) #[] #[]]++lb) W λe W'=>(∃ v,e = .returned v)/\((∃ M,J els.length M W')∨K W'):=by
 refine ⟨hE,λn l lb J K M W hn2 H hC hY hJ0=>?_⟩
 obtain ⟨c,hc⟩ : ∃ c,fn.body=some c:=by
  cases e:fn.body with
  |none=>rw[e]at hb;cases hb
  |some c=>exact ⟨c,rfl⟩
 rw[hc]at hb;have hb:Z1A P fn.ntmps c rc=true:=hb;refine callsIn_of_wp (F:=Fence.wide) hf hc trivial ?_ rfl
 have hres:∀ (tm:Array Value) (W':World),(results fn tm).run P W' = .ok (.tuple #[]) W':=λtm W'=>by
  simp[results,hr,Sem.run_bind]
 have hwide:Fence.wide=FW none:=rfl;rw[hwide];have hsz:lb.size=caps.length:=hC.1
 have hs0:ItS G fn.ntmps J 0 ⟨iniT 0 (.func (.yield l) [] []::caps),[]⟩ { tmps:=(#[.func (.yield l) #[] #[]]++lb:Array Value)++Array.replicate (fn.ntmps-(#[.func (.yield l) #[] #[]]++lb:Array Value).size) Go.undef,defers:=[] } W:=by
  refine ⟨M,W,hJ0,Zgs (H.jg _ _ _ hJ0) (H.jm _ _ _ hJ0) rfl (by simp;omega) λk x hx=>?_⟩
  have hini:∀ (xs:List AV) (m k:Nat) (x:AV),lk (iniT m xs) k=some x->m<=k/\xs[k-m]? = some x:=by
   intro xs
   induction xs with
   |nil=>intro m k x h;simp[iniT,lk]at h
   | cons y ys ih =>
     intro m k x h;simp only[iniT,lk]at h
     split at h
     . rename_i e;subst e;cases h;exact ⟨Nat.le_refl _,by simp⟩
     . obtain ⟨h1,h2⟩:=ih (m+1) k x h;refine ⟨by omega,?_⟩;rw[show k-m=(k-(m+1))+1 by omega];simpa using h2
  obtain ⟨-,h2⟩:=hini _ 0 k x hx;rw[Nat.sub_zero]at h2
  cases k with
  | zero =>
    have h3:AV.func (.yield l) [] []=x:=(by simpa using h2);subst h3
    have g0:((#[.func (.yield l) #[] #[]]++lb:Array Value)++Array.replicate (fn.ntmps-(#[.func (.yield l) #[] #[]]++lb:Array Value).size) Go.undef).getD 0 Go.undef = .func (.yield l) #[] #[]:=by
     rw[Array.getD_eq_getD_getElem?,Array.getElem?_append_left (by simp;omega),Array.getElem?_append_left (by simp)];rfl
    rw[g0];exact .func _ [] [] #[] #[] rfl rfl (by simp) (by simp)
  | succ k =>
    have h3:caps[k]? = some x:=(by simpa using h2);have hk:k<lb.size:=by rw[hsz];exact (List.getElem?_eq_some_iff.1 h3).1
    have g1:((#[.func (.yield l) #[] #[]]++lb:Array Value)++Array.replicate (fn.ntmps-(#[.func (.yield l) #[] #[]]++lb:Array Value).size) Go.undef).getD (k+1) Go.undef=lb[k]:=by
     rw[Array.getD_eq_getD_getElem?,Array.getElem?_append_left (by simp;omega),Array.getElem?_append_right (by simp)];simp[hk]
    rw[g1];exact hC.2 k x lb[k] h3 (by simp[hk])
 refine wpIn_mono (h n l J K hn2 H hY c hb _ W hs0) ?_;rintro e a A (⟨k,t,⟨he,rfl,hw⟩,M',A',hJ',hs⟩ | ⟨rfl,hK,hd⟩)
 . obtain ⟨hd,-,-,e'⟩:=endG hs hw (by simp);rcases he with rfl|rfl
   . exact ⟨hd,_,hres _ _,⟨_,rfl⟩,.inl ⟨M',H.je _ _ _ _ hJ' e'⟩⟩
   . exact ⟨hd,_,hres _ _,⟨_,rfl⟩,.inl ⟨M',H.je _ _ _ _ hJ' e'⟩⟩
 . exact ⟨hd,_,hres _ _,⟨_,rfl⟩,.inr hK⟩
theorem ZiV {M:Nat->Prop} {W:World} {x y:AV} {us:Array Value} (h:CP M W [x,y] us):∃ u v,us = #[u,v]/\PV M W x u/\PV M W y v:=by
 obtain ⟨h1,h2⟩:=h
 match us,h1,h2 with
 | ⟨[u,v]⟩,_,h2=>exact ⟨u,v,rfl,h2 0 x u rfl rfl,h2 1 y v rfl rfl⟩
theorem ZiW {P:Program} {gf:Nat} {fn:Func} (hf:P.funcs[gf]? = some fn) (hE:entB P gf=true) {rc:RCode} (hb:(match fn.body with|some c=>Z1A P fn.ntmps c rc|none=>false)=true) (hr:fn.results = #[])
  {G:Nat->Option (List AV)} {caps:List AV} {els:List (AV×AV)} (hn:caps.length+1<=fn.ntmps)
  (h:∀ (n l:Nat) (J:Nat->(Nat->Prop)->World->Prop) (K:World->Prop),2<=n->ItH G J K->YOK P (n-1) l J K (els.map λx=>[x.1,x.2]) ->
   ItW P G fn.ntmps n J K rc 0 ⟨iniT 0 (.func (.yield l) [] []::caps),[]⟩ λe k s=>(e = .ret∨e = .normal)/\k=els.length/\Ym s ⟨[],[]⟩):ZiG P G gf caps els:=by
 obtain ⟨h1,h2⟩:=ZiU (els:=els.map λx=>[x.1,x.2]) hf hE hb hr hn (by simpa using h);refine ⟨h1,λn l lb J K M W hn2 je ke jm jg hC hY hJ0=>?_⟩
 have:=h2 n l lb J K M W hn2 ⟨je,ke,jm,jg⟩ hC (λk xs us M A hJ hx hc=>by
  rw[List.getElem?_map]at hx;obtain ⟨x,hx1,rfl⟩:=Option.map_eq_some_iff.1 hx;obtain ⟨u,v,rfl,hu,hv⟩:=ZiV hc;exact hY k x u v M A hJ hx1 hu hv) hJ0
 simpa using this
def oiT (O:AV) (ps:List Prt) (day:Int) (l i:Nat):List (Nat×AV):=[(13,.int .i64 i),(12,.int .i64 ps.length),(11,.vsl (ps.map ptA)),(2,.vptr [.int .i64 day] 0),(1,.vptr [O] 0),(0,.func (.yield l) [] [])]
section
variable {G:Nat->Option (List AV)}
set_option maxHeartbeats 2000000 in
theorem outIt (r:List Iss) (l:List Nte) (hs:List Hld) (ps:List Prt) (day:Int) (hp:ps.length<=41) :
  ZiG Tryz.prog G 128 [.vptr [ofA r l hs ps] 0,.vptr [.int .i64 day] 0] (outE ps day):=by
 have pO:=Zie r l hs ps;have eO:ofA r l hs ps = .vptr [.vsl (r.map isa),.vsl (l.map na),.vsl (hs.map hoa),.vsl (ps.map ptA),.vsl ((nums r).map ia)] 0:=rfl;refine ZiW Tryz.func128 (by kernel_rfl) (rc:=Zhu) (by kernel_rfl) rfl (Nat.le_of_ble_eq_true rfl) λn l' J K hn H hY=>?_
 obtain ⟨O,hO⟩ : ∃ O,O=ofA r l hs ps:=⟨_,rfl⟩;rw[<- hO]at pO eO ⊢;clear hO
 have pT:∀ i,∀ q∈oiT O ps day l' i,q.2.pure=true:=λi q hq=>by
  simp only[oiT,List.mem_cons,List.not_mem_nil,or_false]at hq;rcases hq with rfl|rfl|rfl|rfl|rfl|rfl <;> simp[AV.pure,ptA,pO]
 unfold Zhu;refine ZiO ⟨oiT O ps day l' 0,[]⟩ (λM A=>?_) (ZiQ (ZiR (λi=>(outI ps day i).length) (λi=>⟨oiT O ps day l' i,[]⟩) (λi=>i<=ps.length) (λi=>ps.length-i) 0 rfl rfl (Nat.zero_le _) λi hi=>?_))
 . refine Qga ?_;simp -implicitDefEqProofs[iniT,eO,oiT]
   (refine Ym.sub (by simp[lk,Ya,AV.keys]) ?_;simp only[Wkl,and_true];(try simp[lk,Yc,Ya,AV.keys]))
 by_cases hlt:i<ps.length
 case neg =>
  obtain rfl:i=ps.length:=(by omega);refine ZiO ⟨(14,.bool false)::oiT O ps day l' ps.length,[]⟩ (λM A=>?_) (ZiM (ZiP (.exit 0) ⟨[],[]⟩ (λM A=>?_) ?_))
  . refine Qga ?_;simp -implicitDefEqProofs[oiT];exact (by (first|exact Ym.tm (by simp[lk])|exact Ym.sub (by simp[lk,Ya,AV.keys]) (by simp[lk,Yc,Ya,AV.keys])))
  . refine Qga ?_;simp -implicitDefEqProofs[oiT];exact (by (first|exact Ym.tm (by simp[lk])|exact Ym.sub (by simp[lk,Ya,AV.keys]) (by simp[lk,Yc,Ya,AV.keys])))
  . simp only[ItBk,if_true];refine ⟨by simp,by simp[outE],λ_ _ _ h=>h⟩
 have wi:IntKind.i64.wrap ((i:Int)+1)=((i+1:Nat):Int):=Yf (by omega) (by omega);have hx:=Zia hlt;have hsu:=Zig (ps:=ps) (day:=day) (n:=i);have hgt:=Zih (ps:=ps) (day:=day) (n:=ps.length) (i:=i) hlt;obtain ⟨x,hxe⟩ : ∃ x,x=ps[i]:=⟨_,rfl⟩;rw[<- hxe]at hx;rw[hx]at hsu hgt;have hlx:ps[i]=x:=hxe.symm;have hpt:ptA x=[.int .i64 x.no,.int .i64 x.dy,.int .i64 x.ho,.int .i64 x.dw,.int .i64 x.lt,.int .i64 x.bk,.int .u8 x.lo]:=rfl;refine ZiO ⟨(14,.bool true)::oiT O ps day l' i,[]⟩ (λM A=>?_) (ZiO ⟨oiT O ps day l' i,[]⟩ (λM A=>?_) (ZiN (ZiQ ?_)))
 . refine Qga ?_;simp -implicitDefEqProofs[oiT,hlt];exact (by (first|exact Ym.tm (by simp[lk])|exact Ym.sub (by simp[lk,Ya,AV.keys]) (by simp[lk,Yc,Ya,AV.keys])))
 . refine Qga ?_;simp -implicitDefEqProofs[oiT];exact (by (first|exact Ym.tm (by simp[lk])|exact Ym.sub (by simp[lk,Ya,AV.keys]) (by simp[lk,Yc,Ya,AV.keys])))
 obtain ⟨bk,hbk⟩ : ∃ bk,bk=(!decide (x.bk = -1)&&decide (x.bk<=day)):=⟨_,rfl⟩;refine ZiO ⟨(5,.ptr 5 0)::(4,.int .i64 i)::oiT O ps day l' i,[(5,.box (ptA x))]⟩ (λM A=>?_) (ZiO ⟨(6,.bool bk)::(5,.ptr 5 0)::(4,.int .i64 i)::oiT O ps day l' i,[(5,.box (ptA x))]⟩ (λM A=>?_) ?_)
 . refine Qga ?_;simp -implicitDefEqProofs[oiT,hlt,hlx,hpt]
   (refine Ym.sub (by simp[lk,Ya,AV.keys]) ?_;simp only[Wkl,and_true];(try simp[lk,Yc,Ya,AV.keys]))
 . refine Qga ?_;by_cases c1:x.bk = -1
   . have e:bk=false:=(by rw[hbk];simp[c1]);simp -implicitDefEqProofs[oiT,hpt,c1,e]
     (refine Ym.sub (by simp[lk,Ya,AV.keys]) ?_;simp only[Wkl,and_true];(try simp[lk,Yc,Ya,AV.keys]))
   . by_cases c2:x.bk<=day
     . have e:bk=true:=(by rw[hbk];simp[c1,c2]);simp -implicitDefEqProofs[oiT,hpt,c1,c2,e]
       (refine Ym.sub (by simp[lk,Ya,AV.keys]) ?_;simp only[Wkl,and_true];(try simp[lk,Yc,Ya,AV.keys]))
     . have e:bk=false:=(by rw[hbk];simp[c2]);simp -implicitDefEqProofs[oiT,hpt,c1,c2,e]
       (refine Ym.sub (by simp[lk,Ya,AV.keys]) ?_;simp only[Wkl,and_true];(try simp[lk,Yc,Ya,AV.keys]))
 have hout:outB x day=(decide (x.dy<=day) && !bk && !decide (x.lo=2)):=by
  rw[hbk,outB];by_cases c1:x.bk = -1
  . simp only[c1,decide_true,Bool.true_or,Bool.not_true,Bool.false_and,Bool.not_false]
  . by_cases c2:x.bk<=day
    . have c3:¬day<x.bk:=(by omega);simp only[c1,c2,c3,decide_true,decide_false,Bool.not_false,Bool.not_true,Bool.true_and,Bool.or_self]
    . have c3:day<x.bk:=(by omega);simp only[c1,c2,c3,decide_true,decide_false,Bool.not_false,Bool.true_and,Bool.or_true]
 clear hbk;by_cases ho:outB x day=true
 . rw [if_pos ho]at hsu;have hg:=hgt ho;rw[hout]at ho;simp only[Bool.and_eq_true,Bool.not_eq_true',decide_eq_true_eq,decide_eq_false_iff_not]at ho;obtain ⟨⟨o1,rfl⟩,o3⟩:=ho
   refine ZiT H hY 17 (d:=44) (f:=.t 41) (ys:=[.t 42,.t 43]) (gd:=some (40,true)) rfl (xs:=[.int .i64 i,.agg (ptA x)])
    ((43,.agg (ptA x))::(42,.int .i64 i)::(41,.func (.yield l') [] [])::(40,.bool true)::oiT O ps day l' i) ⟨(46,.bool false)::oiT O ps day l' i,[]⟩ [(40,.bool true)] [(46,.bool true)] (Nat.le_of_ble_eq_true rfl) ?_ (by simp[AV.pure,ptA]) ?_ ?_ (by simp[wants,St.tmp,lk]) (by simp[evA,St.tmp,lk]) (by simp[evA,St.tmp,lk]) ?_ ?_ ?_ ?_ ?_
   . rw[outE,List.map_map,List.getElem?_map,hg];simp[hx]
   . intro q hq;simp only[List.mem_cons]at hq;rcases hq with rfl|rfl|rfl|rfl|hq
     . simp[AV.pure,ptA]
     . simp[AV.pure]
     . simp[AV.pure]
     . simp[AV.pure]
     . exact pT i q hq
   . simp -implicitDefEqProofs[oiT,hpt,o1,o3]
     (refine Ym.sub (by simp[lk,Ya,AV.keys]) ?_;simp only[Wkl,and_true];(try simp[lk,Yc,Ya,AV.keys]))
   . simp -implicitDefEqProofs[oiT];exact (by (first|exact Ym.tm (by simp[lk])|exact Ym.sub (by simp[lk,Ya,AV.keys]) (by simp[lk,Yc,Ya,AV.keys])))
   . refine ZiP .normal ⟨oiT O ps day l' i,[]⟩ (λM A=>?_) ⟨rfl,ZiP .normal ⟨oiT O ps day l' (i+1),[]⟩ (λM A=>?_) ⟨i+1,by rw[hsu];simp,rfl,by omega,by omega⟩⟩
     . refine Qga ?_;simp -implicitDefEqProofs[oiT];exact (by (first|exact Ym.tm (by simp[lk])|exact Ym.sub (by simp[lk,Ya,AV.keys]) (by simp[lk,Yc,Ya,AV.keys])))
     . refine Qga ?_;simp -implicitDefEqProofs[oiT,wi];exact (by (first|exact Ym.tm (by simp[lk])|exact Ym.sub (by simp[lk,Ya,AV.keys]) (by simp[lk,Yc,Ya,AV.keys])))
   . intro q hq;simp at hq;subst hq;exact ⟨by simp[lk],by simp[AV.flat]⟩
   . simp -implicitDefEqProofs[];exact (by (first|exact Ym.tm (by simp[lk])|exact Ym.sub (by simp[lk,Ya,AV.keys]) (by simp[lk,Yc,Ya,AV.keys])))
   . intro A;refine Qga ?_;simp -implicitDefEqProofs[];exact (by (first|exact Ym.tm (by simp[lk])|exact Ym.sub (by simp[lk,Ya,AV.keys]) (by simp[lk,Yc,Ya,AV.keys])))
 . rw [if_neg ho]at hsu;rw[hout]at ho;refine ZiO ⟨(46,.bool false)::oiT O ps day l' i,[]⟩ (λM A=>?_) (ZiP .normal ⟨oiT O ps day l' i,[]⟩ (λM A=>?_) ⟨rfl,ZiP .normal ⟨oiT O ps day l' (i+1),[]⟩ (λM A=>?_) ⟨i+1,by rw[hsu],rfl,by omega,by omega⟩⟩)
   . refine Qga ?_;by_cases o1:x.dy<=day
     . cases bk
       . by_cases o3:x.lo=2
         . simp -implicitDefEqProofs[oiT,hpt,o1,o3]
           (refine Ym.sub (by simp[lk,Ya,AV.keys]) ?_;simp only[Wkl,and_true];(try simp[lk,Yc,Ya,AV.keys]))
         . exact absurd (by simp[o1,o3]) ho
       . simp -implicitDefEqProofs[oiT,hpt,o1]
         (refine Ym.sub (by simp[lk,Ya,AV.keys]) ?_;simp only[Wkl,and_true];(try simp[lk,Yc,Ya,AV.keys]))
     . simp -implicitDefEqProofs[oiT,hpt,o1]
       (refine Ym.sub (by simp[lk,Ya,AV.keys]) ?_;simp only[Wkl,and_true];(try simp[lk,Yc,Ya,AV.keys]))
   . refine Qga ?_;simp -implicitDefEqProofs[oiT];exact (by (first|exact Ym.tm (by simp[lk])|exact Ym.sub (by simp[lk,Ya,AV.keys]) (by simp[lk,Yc,Ya,AV.keys])))
   . refine Qga ?_;simp -implicitDefEqProofs[oiT,wi];exact (by (first|exact Ym.tm (by simp[lk])|exact Ym.sub (by simp[lk,Ya,AV.keys]) (by simp[lk,Yc,Ya,AV.keys])))
end
end Go.Proofs.YtcdlimgkliklhaaGreatDoor
