/-
  Lists in new memory; issues that are copied, by the abstract machine.
-/
import Derived.Test.YtldibfhbaaadcaaGreatDoorKRchToEg
set_option linter.all false
set_option maxHeartbeats 8000000
namespace Go.Proofs.YtldibfhbaaadcaaGreatDoor
open Tryz (prog)
open IntKind (i64)
open Go.RowKit
variable {G:Jg}
def FinZ (rs:List RRes) (v:AV):Exit->St->Prop
 |.normal,st | .ret,st=>∃ xs ys,Z29 st rs=some xs/\Yj (snap st) xs=some ys/\v=nz (tupV ys)
 |_,_=>False
def ZbK {P:Program} {G:Jg} {f:FuncId} {fn:Func} {c:Code} {rc:RCode} {rs:List RRes} {args:List AV} {v:AV} (hf:P.funcs[f]? = some fn) (hb:fn.body=some c) (he:entB P f=true)
  (hc:Z1A P fn.ntmps c rc=true) (hrs:allB2 (okRes P) fn.results.toList rs=true) (hn:args.length<=fn.ntmps)
  (h:∀ R:Run,R.N=fn.ntmps->R.G=G->R.Top->AR P R rc (Z2a args) (FinZ rs v)):PC P G f args v:=by
 refine ⟨he,λM W vs hM hG hsz hvs=>?_⟩;refine callsIn_wide.1 (callsIn_of_wp_marks (F:=FW none) (n:=1) hf hb trivial ?_)
 let R:Run:={ G:=G,M:=M,X:=λ_=>False,W0:=W,N:=fn.ntmps,E0:={ M:=M,loc:=λ_=>none,row:=λ_=>none } }
 have h0:SK R (Z2a args) { tmps:=vs++Array.replicate (fn.ntmps-vs.size) Go.undef,defers:=[] } W (λ_=>none):=by
  have hGM:∀ b,b<W.heap.size->¬M b->¬((Z2a args).env M (λ_=>none)).M b/\W.heap[b]? = W.heap[b]?:=λb _ h1=>⟨(by rintro (h2 | ⟨k,s,h2⟩) <;> first|exact h1 h2|cases h2),rfl⟩
  refine ⟨.nil _ _ _ _,by show (vs++_).size=fn.ntmps;simp;omega,λn x hx=>?_,(λk o ho=>by simp[Z2a,St.get,lk]at ho),(λk p hk=>by cases hk),(λk k' b s s' hk=>by cases hk),hM,λ_ _ h=>h,Kp.refl _ _,hG.mono hGM (W0f _),⟨W0f _,hGM,λk p hk=>(by cases hk),λk sz m hk=>(by cases hk)⟩,λ_ _=>⟨rfl,rfl⟩⟩;simp only[Z2a,St.tmp,Z2b,W1f,if_true,W1W]at hx;show VR _ W x ((vs++Array.replicate (fn.ntmps-vs.size) Go.undef).getD n Go.undef);rw[W0a,W0W];have c1:n<args.length:=(W02.1 hx).1;rw[if_pos (by omega)];have:vs[n]? = some vs[n]:=(by simp);rw[this];exact .pv ((hvs n x _ hx this).mono hGM (W0f _))
 refine wpIn_mono (h R rfl rfl ⟨rfl,rfl⟩ c hc 1 _ W ⟨_,h0⟩) ?_
 have key:∀ (a':Act) (W':World) (st':St),(∃ xs ys,Z29 st' rs=some xs/\Yj (snap st') xs=some ys/\v=nz (tupV ys))->SR R st' a' W' ->
   ∃ u,(results fn a'.tmps).run P W' = .ok u W'/\∃ u',Ending.returned u = .returned u'/\PV M W' v u'/\Ext W W':=by
  rintro a' W' st' ⟨xs,ys,h1,h2,rfl⟩ ⟨κ,hk⟩;obtain ⟨us,h3,h4⟩:=Z2d (P:=P) hk hrs h1;obtain ⟨h5,h6⟩:=Z1R h2;have hE:Ext W W':=⟨hk.kp.os,hk.kp.tape,hk.kp.output,hk.kp.size,λi hi=>hk.kp.block i hi (λh=>h)⟩
  have hp:∀ (i:Nat) (y:AV) (u:Value),ys[i]? = some y->us[i]? = some u->PV M W' y u:=λi y u hy hu=>by
   obtain ⟨x,h7,h8⟩:=h6 i y hy;exact Z1T hk (h4.2 i x u h7 hu) h8
  have hl:us.length=ys.length:=(by have:=h4.1;omega);refine ⟨(if h:us.toArray.size=1 then us.toArray[0] else .tuple us.toArray),?_,_,rfl,PV.nz ?_,hE⟩
  . unfold results;rw[Sem.run_bind]
    have:(fn.results.mapM λrv=>(match rv with
     |.tmp t=>pure (a'.tmps.getD t Go.undef)
     |.cell p t=>do loadVar t (<- asAddr (a'.tmps.getD p Go.undef)):Sem Value)).run P W' = .ok us.toArray W':=by
     rw[W1R,Sem.run_map];exact congrArg (λz=>Result.andThen z (λa w'=>Result.ok a.toArray w')) h3
    erw [this]
    rfl
  . match ys,us,hl,hp with
    |[],[],_,_=>exact .tup [] _ rfl (by simp)
    |[y],[u],_,hp=>exact hp 0 y u rfl rfl
    | y::y2::ys,u::u2::us,hl,hp =>
      rw[dif_neg (by simp)];exact .tup _ _ (by simpa using hl) (λi x w hx hw=>hp i x w hx (by simpa using hw))
 rintro e a' W' ⟨st',h1,κ,h2⟩
 cases e <;> try (exact h1.elim)
 all_goals
  refine h2.leave (by simp) rfl λa2 W2 ht hs2=>?_
  have:=key a2 W2 st' h1 ⟨κ,hs2⟩;rw[ht]at this;exact this
def ZbL (l:List (Int×Int)):∀ r∈l.map ita,∀ x∈r,x.flat=true:=by
 intro r hr x hx;obtain ⟨p,-,rfl⟩:=W0i.1 hr;simp only[ita,W0g,W0Q,or_false]at hx;rcases hx with rfl|rfl <;> simp[AV.flat]
def ZbM (l:List (Int×Int)):∀ r∈l.map ita,∀ x∈r,x.pure=true:=by
 intro r hr x hx;obtain ⟨p,-,rfl⟩:=W0i.1 hr;simp only[ita,W0g,W0Q,or_false]at hx;rcases hx with rfl|rfl <;> simp[AV.pure]
def ZbN (l:List Dm):∀ r∈l.map dma,∀ x∈r,x.flat=true:=by
 intro r hr x hx;obtain ⟨p,-,rfl⟩:=W0i.1 hr;simp only[dma,W0g,W0Q,or_false]at hx;rcases hx with rfl|rfl|rfl <;> simp[AV.flat]
def ZbO (l:List Dm):∀ r∈l.map dma,∀ x∈r,x.pure=true:=by
 intro r hr x hx;obtain ⟨p,-,rfl⟩:=W0i.1 hr;simp only[dma,W0g,W0Q,or_false]at hx;rcases hx with rfl|rfl|rfl <;> simp[AV.pure]
def ZbP (l:List (Int×Int)) (hne:l≠[]) (hl:Sml l):PN prog G 46 [.vsl (l.map ita)] 2 (l.map ita):=by
 refine PN_of (ZbL l) (ZbM l) Tryz.func46 rfl (by kernel_rfl) (rc:=Z8B) (by kernel_rfl) (rs:=Z8C) (by kernel_rfl) (W0C rfl) λR _ hG hrd=>Qga ?_
 unfold Sml at hl;have b1:l.length*16<=70368744177664:=(by omega);have h0:¬l.length=0:=λe=>hne (W0l.1 e)
 have k1:(l.map ita).all (λr=>r.length == 2)=true:=(by simp[ita]);have k2:(l.map ita).all (λr=>r.all AV.one)=true:=(by simp[ita,AV.one]);have k5:(l.map ita).all (λr=>r.all AV.pure)=true:=(by simp[ita,AV.pure]);simp -implicitDefEqProofs[Z8B,Z8C,h0,hne,b1,k1,k2,k5,FinN]
def ZbQ (l:List Dm) (hne:l≠[]) (hl:Sml l):PN prog G 47 [.vsl (l.map dma)] 3 (l.map dma):=by
 refine PN_of (ZbN l) (ZbO l) Tryz.func47 rfl (by kernel_rfl) (rc:=Z8E) (by kernel_rfl) (rs:=Z8F) (by kernel_rfl) (W0C rfl) λR _ hG hrd=>Qga ?_
 unfold Sml at hl;have b1:l.length*24<=70368744177664:=(by omega);have h0:¬l.length=0:=λe=>hne (W0l.1 e)
 have k1:(l.map dma).all (λr=>r.length == 3)=true:=(by simp[dma]);have k2:(l.map dma).all (λr=>r.all AV.one)=true:=(by simp[dma,AV.one]);have k5:(l.map dma).all (λr=>r.all AV.pure)=true:=(by simp[dma,AV.pure]);simp -implicitDefEqProofs[Z8E,Z8F,h0,hne,b1,k1,k2,k5,FinN]
def ZbR:PC prog G 46 [.vsl []] (.vsl []):=by
 refine ZbK Tryz.func46 rfl (by kernel_rfl) (rc:=Z8B) (by kernel_rfl) (rs:=Z8C) (by kernel_rfl) (W0C rfl) λR _ hG hrd=>Qga ?_
 simp -implicitDefEqProofs[Z8B,Z8C,FinZ,nz]
def ZbS:PC prog G 47 [.vsl []] (.vsl []):=by
 refine ZbK Tryz.func47 rfl (by kernel_rfl) (rc:=Z8E) (by kernel_rfl) (rs:=Z8F) (by kernel_rfl) (W0C rfl) λR _ hG hrd=>Qga ?_
 simp -implicitDefEqProofs[Z8E,Z8F,FinZ,nz]
def GC (G:Jg):Prop:=G 2=some [.func (.func 185) [] [],.func (.func 186) [] [],.func (.func 187) [] [],.func (.func 188) [] []]
def ckN (x:Iss):Nat->Bool
 |0=>ck1 x
 |1=>ck2 x
 |2=>ck3 x
 |_=>ck4 x
def ZbT {x:Iss} (h:∀ j,j<4->ckN x j=true):issB x=true:=by
 rw[ZaN,show ck1 x=true from h 0 (by omega),show ck2 x=true from h 1 (by omega),show ck3 x=true from h 2 (by omega),show ck4 x=true from h 3 (by omega)];rfl
def ZbU {x:Iss} {j:Nat} (hj:j<4) (h:ckN x j=false):issB x=false:=by
 rw[ZaN];have:j=0∨j=1∨j=2∨j=3:=(by omega);rcases this with rfl|rfl|rfl|rfl <;> simp only[ckN]at h <;> simp[h]
def openV (r:Jr):Int:=if Za5 r=true then
    if 0<(dRun r (nums r).length).2.length then 21 else if (∃ p∈(dRun r (nums r).length).1,6<p.2) then 20 else 0
 else 20
def openA (r:Jr):AV:=.tup [if openV r=0 then bkA r (nums r) else .nilp,.int .i64 (openV r)]
def ZbV {r:Jr} (h:Za5 r=false):openA r = .tup [.nilp,.int .i64 20]:=by simp[openA,openV,h]
def opS (r:Jr):Nat->St
 |0=>⟨[(28,.int .i64 0),(27,.int .i64 r.length),(26,.vsl (r.map isa)),(1,.ptr 1 0),(4,.ptr 4 0)],[(1,.box [.vsl (r.map isa)]),(4,.box [.ptr 18 0]),(18,.box [.vsl (r.map isa),.nils])]⟩
 |i+1=>⟨[(28,.int .i64 (i+1:Nat)),(27,.int .i64 r.length),(26,.vsl (r.map isa)),(1,.ptr 1 0),(4,.ptr 4 0)],[(1,.box [.vsl (r.map isa)]),(4,.box [.ptr 18 0]),(18,.box [.vsl (r.map isa),.osl 85 (numsN r (i+1)).length]),(85,.row 1 ((numsN r (i+1)).map ia))]⟩
def opT (r:Jr) (k:Nat):St:=⟨[(98,.int .i64 k),(97,.int .i64 r.length),(96,.vsl (r.map isa)),(4,.vptr [bkA r (nums r)] 0)],[]⟩
def opJ (r:Jr) (i:Nat) (x:Iss) (j:Nat):St:=⟨[(34,.int .i64 j),(33,.agg [.func (.func 185) [] [],.func (.func 186) [] [],.func (.func 187) [] [],.func (.func 188) [] []]),(5,.int .i64 i),(6,.ptr 6 0)]++(opS r i).t,(opS r i).o++[(6,.box (isa x))]⟩
def ZbW {x:Iss} {j:Nat} (hc:∀ k,k<j->ckN x k=true) (h:ckN x j=true):∀ k,k<j+1->ckN x k=true:=λk hk=>by
 by_cases e:k=j
 . rw[e];exact h
 . exact hc k (by omega)
set_option maxRecDepth 4000 in
def ZbX (hG:GC G) (r:Jr) (h:Wf r):PC prog G 73 [rega r] (openA r):=by
 (refine Z78 rfl λR hG hrd=>Qga ?_;subst hG)
 unfold GC at hG;have hs:=h.1.1;unfold Sml at hs;simp -implicitDefEqProofs[Z76,Z77,rega];refine Yd.flat (ZaK 1 60 r.length) (by simp[AV.flat]) (by simp) ?_
 cases q1:inR r.length 1 60
 . simp -implicitDefEqProofs[ZbV (r:=r) (by simp[Za5,q1])]
 have q1':1<=r.length/\r.length<=60:=by
  have:=W0X q1;omega
 simp -implicitDefEqProofs;refine Z9H (opS r) (λi=>∀ j (h:j<r.length),j<i->issB r[j]=true/\ordB r j=true) r.length (by simp only[opS];(first|exact Wka|exact Wkb)) (by simp) ?_ ?_
 . intro i hi he;refine Qga ?_;have w1:i64.wrap ((i:Int)+1)=((i+1:Nat):Int):=Yf;have a1:=at_eq hi;have hx:=h.1.2 r[i] (W0e hi);have hk:=h.2 r[i] (W0e hi);have a1:=at_eq hi
   cases i with
   | zero =>
     simp -implicitDefEqProofs[opS,hi,isa,hG];refine Z9H (opJ r (0) r[0]) (λj=>∀ k,k<j->ckN r[0] k=true) 4 (by simp only[opJ,opS];(first|exact Ym.tm (by simp[lk,isa,ia])|exact Ym.sub (by simp[lk,Ya,AV.keys,isa,ia]) (by simp[lk,Yc,Ya,AV.keys,isa,ia]))) (by simp) ?_ ?_
     . intro j hj hc;refine Qga ?_;rcases (show j=0∨j=1∨j=2∨j=3 by omega) with rfl|rfl|rfl|rfl
       . have v0:i64.wrap 1=1:=rfl;simp -implicitDefEqProofs[opJ,opS,isa];refine Qco (ZaO r[0]) ?_
         cases q:ck1 r[0]
         . simp -implicitDefEqProofs;refine Qgr ?_;simp -implicitDefEqProofs;refine Qgr ?_;simp -implicitDefEqProofs[ZbV (Za6 hi (ZbU (j:=0) (by omega) q))]
         . simp -implicitDefEqProofs[v0]
           first|exact ⟨(by (first|exact Ym.tm (by simp[lk,opJ,opS,isa,ia])|exact Ym.sub (by simp[lk,Ya,AV.keys,opJ,opS,isa,ia]) (by simp[lk,Yc,Ya,AV.keys,opJ,opS,isa,ia]))),ZbW hc q⟩|exact ⟨(by (first|exact Ym.tm (by simp[lk,opJ,opS,isa,ia])|exact Ym.sub (by simp[lk,Ya,AV.keys,opJ,opS,isa,ia]) (by simp[lk,Yc,Ya,AV.keys,opJ,opS,isa,ia]))),q⟩
       . have v1:i64.wrap 2=2:=rfl;simp -implicitDefEqProofs[opJ,opS,isa];refine Qco (ZaP r[0] hk) ?_
         cases q:ck2 r[0]
         . simp -implicitDefEqProofs;refine Qgr ?_;simp -implicitDefEqProofs;refine Qgr ?_;simp -implicitDefEqProofs[ZbV (Za6 hi (ZbU (j:=1) (by omega) q))]
         . simp -implicitDefEqProofs[v1]
           first|exact ⟨(by (first|exact Ym.tm (by simp[lk,opJ,opS,isa,ia])|exact Ym.sub (by simp[lk,Ya,AV.keys,opJ,opS,isa,ia]) (by simp[lk,Yc,Ya,AV.keys,opJ,opS,isa,ia]))),ZbW hc q⟩|exact ⟨(by (first|exact Ym.tm (by simp[lk,opJ,opS,isa,ia])|exact Ym.sub (by simp[lk,Ya,AV.keys,opJ,opS,isa,ia]) (by simp[lk,Yc,Ya,AV.keys,opJ,opS,isa,ia]))),q⟩
       . have v2:i64.wrap 3=3:=rfl;simp -implicitDefEqProofs[opJ,opS,isa];refine Qco (ZaQ r[0] hx.1) ?_
         cases q:ck3 r[0]
         . simp -implicitDefEqProofs;refine Qgr ?_;simp -implicitDefEqProofs;refine Qgr ?_;simp -implicitDefEqProofs[ZbV (Za6 hi (ZbU (j:=2) (by omega) q))]
         . simp -implicitDefEqProofs[v2]
           first|exact ⟨(by (first|exact Ym.tm (by simp[lk,opJ,opS,isa,ia])|exact Ym.sub (by simp[lk,Ya,AV.keys,opJ,opS,isa,ia]) (by simp[lk,Yc,Ya,AV.keys,opJ,opS,isa,ia]))),ZbW hc q⟩|exact ⟨(by (first|exact Ym.tm (by simp[lk,opJ,opS,isa,ia])|exact Ym.sub (by simp[lk,Ya,AV.keys,opJ,opS,isa,ia]) (by simp[lk,Yc,Ya,AV.keys,opJ,opS,isa,ia]))),q⟩
       . have v3:i64.wrap 4=4:=rfl;simp -implicitDefEqProofs[opJ,opS,isa];refine Qco (ZaS r[0] hx.2) ?_
         cases q:ck4 r[0]
         . simp -implicitDefEqProofs;refine Qgr ?_;simp -implicitDefEqProofs;refine Qgr ?_;simp -implicitDefEqProofs[ZbV (Za6 hi (ZbU (j:=3) (by omega) q))]
         . simp -implicitDefEqProofs[v3]
           first|exact ⟨(by (first|exact Ym.tm (by simp[lk,opJ,opS,isa,ia])|exact Ym.sub (by simp[lk,Ya,AV.keys,opJ,opS,isa,ia]) (by simp[lk,Yc,Ya,AV.keys,opJ,opS,isa,ia]))),ZbW hc q⟩|exact ⟨(by (first|exact Ym.tm (by simp[lk,opJ,opS,isa,ia])|exact Ym.sub (by simp[lk,Ya,AV.keys,opJ,opS,isa,ia]) (by simp[lk,Yc,Ya,AV.keys,opJ,opS,isa,ia]))),q⟩
     . intro hc;refine Qga ?_;have p1:issB r[0]=true:=ZbT hc;simp -implicitDefEqProofs[opJ,opS,isa];refine Qgr ?_;by_cases p3:r[0].l=1
       . have hn:numsN r 1=[r[0].d]:=(by simp[numsN,newB,a1]);have ok:ordB r 0=true:=(by simp[ordB,a1,p3]);have w0:i64.wrap 1=1:=rfl;simp -implicitDefEqProofs[p3,w0];exact ⟨rfl,(by (first|exact Ym.tm (by simp[lk,opS,hn,ia])|exact Ym.sub (by simp[lk,Ya,AV.keys,opS,hn,ia]) (by simp[lk,Yc,Ya,AV.keys,opS,hn,ia]))),λj q1 q2=>by subst q2;exact ⟨p1,ok⟩⟩
       . simp -implicitDefEqProofs[p3];refine Qgr ?_;simp -implicitDefEqProofs[ZbV (Za7 hi (by simp[ordB,a1,p3]))]
   | succ i =>
     have k1:(i:Int)+1<r.length:=(by omega);have k2:((i:Int)+1).toNat=i+1:=(by omega);have k3:(0:Int)<=(i:Int)+1:=(by omega);simp -implicitDefEqProofs[opS,hi,isa,hG,k1,k2,k3];refine Z9H (opJ r (i+1) r[i+1]) (λj=>∀ k,k<j->ckN r[i+1] k=true) 4 (by simp only[opJ,opS];(first|exact Ym.tm (by simp[lk,isa,ia])|exact Ym.sub (by simp[lk,Ya,AV.keys,isa,ia]) (by simp[lk,Yc,Ya,AV.keys,isa,ia]))) (by simp) ?_ ?_
     . intro j hj hc;refine Qga ?_;rcases (show j=0∨j=1∨j=2∨j=3 by omega) with rfl|rfl|rfl|rfl
       . have v0:i64.wrap 1=1:=rfl;simp -implicitDefEqProofs[opJ,opS,isa];refine Qco (ZaO r[i+1]) ?_
         cases q:ck1 r[i+1]
         . simp -implicitDefEqProofs;refine Qgr ?_;simp -implicitDefEqProofs;refine Qgr ?_;simp -implicitDefEqProofs[ZbV (Za6 hi (ZbU (j:=0) (by omega) q))]
         . simp -implicitDefEqProofs[v0]
           first|exact ⟨(by (first|exact Ym.tm (by simp[lk,opJ,opS,isa,ia])|exact Ym.sub (by simp[lk,Ya,AV.keys,opJ,opS,isa,ia]) (by simp[lk,Yc,Ya,AV.keys,opJ,opS,isa,ia]))),ZbW hc q⟩|exact ⟨(by (first|exact Ym.tm (by simp[lk,opJ,opS,isa,ia])|exact Ym.sub (by simp[lk,Ya,AV.keys,opJ,opS,isa,ia]) (by simp[lk,Yc,Ya,AV.keys,opJ,opS,isa,ia]))),q⟩
       . have v1:i64.wrap 2=2:=rfl;simp -implicitDefEqProofs[opJ,opS,isa];refine Qco (ZaP r[i+1] hk) ?_
         cases q:ck2 r[i+1]
         . simp -implicitDefEqProofs;refine Qgr ?_;simp -implicitDefEqProofs;refine Qgr ?_;simp -implicitDefEqProofs[ZbV (Za6 hi (ZbU (j:=1) (by omega) q))]
         . simp -implicitDefEqProofs[v1]
           first|exact ⟨(by (first|exact Ym.tm (by simp[lk,opJ,opS,isa,ia])|exact Ym.sub (by simp[lk,Ya,AV.keys,opJ,opS,isa,ia]) (by simp[lk,Yc,Ya,AV.keys,opJ,opS,isa,ia]))),ZbW hc q⟩|exact ⟨(by (first|exact Ym.tm (by simp[lk,opJ,opS,isa,ia])|exact Ym.sub (by simp[lk,Ya,AV.keys,opJ,opS,isa,ia]) (by simp[lk,Yc,Ya,AV.keys,opJ,opS,isa,ia]))),q⟩
       . have v2:i64.wrap 3=3:=rfl;simp -implicitDefEqProofs[opJ,opS,isa];refine Qco (ZaQ r[i+1] hx.1) ?_
         cases q:ck3 r[i+1]
         . simp -implicitDefEqProofs;refine Qgr ?_;simp -implicitDefEqProofs;refine Qgr ?_;simp -implicitDefEqProofs[ZbV (Za6 hi (ZbU (j:=2) (by omega) q))]
         . simp -implicitDefEqProofs[v2]
           first|exact ⟨(by (first|exact Ym.tm (by simp[lk,opJ,opS,isa,ia])|exact Ym.sub (by simp[lk,Ya,AV.keys,opJ,opS,isa,ia]) (by simp[lk,Yc,Ya,AV.keys,opJ,opS,isa,ia]))),ZbW hc q⟩|exact ⟨(by (first|exact Ym.tm (by simp[lk,opJ,opS,isa,ia])|exact Ym.sub (by simp[lk,Ya,AV.keys,opJ,opS,isa,ia]) (by simp[lk,Yc,Ya,AV.keys,opJ,opS,isa,ia]))),q⟩
       . have v3:i64.wrap 4=4:=rfl;simp -implicitDefEqProofs[opJ,opS,isa];refine Qco (ZaS r[i+1] hx.2) ?_
         cases q:ck4 r[i+1]
         . simp -implicitDefEqProofs;refine Qgr ?_;simp -implicitDefEqProofs;refine Qgr ?_;simp -implicitDefEqProofs[ZbV (Za6 hi (ZbU (j:=3) (by omega) q))]
         . simp -implicitDefEqProofs[v3]
           first|exact ⟨(by (first|exact Ym.tm (by simp[lk,opJ,opS,isa,ia])|exact Ym.sub (by simp[lk,Ya,AV.keys,opJ,opS,isa,ia]) (by simp[lk,Yc,Ya,AV.keys,opJ,opS,isa,ia]))),ZbW hc q⟩|exact ⟨(by (first|exact Ym.tm (by simp[lk,opJ,opS,isa,ia])|exact Ym.sub (by simp[lk,Ya,AV.keys,opJ,opS,isa,ia]) (by simp[lk,Yc,Ya,AV.keys,opJ,opS,isa,ia]))),q⟩
     . intro hc;refine Qga ?_;have p1:issB r[i+1]=true:=ZbT hc;simp -implicitDefEqProofs[opJ,opS,isa];refine Qgr ?_;have w2:i64.wrap (i:Int)=(i:Int):=Yf;have w3:i64.wrap ((i:Int)+1+1)=(i:Int)+1+1:=Yf;have k3:(0:Int)<(i:Int)+1:=(by omega);have hi2:i<r.length:=(by omega);have a2:=at_eq hi2;have bl:=(he i hi2 (by omega)).1;simp only[issB,headB,W01,inR,W0b]at bl;have w4:i64.wrap (r[i].l+1)=r[i].l+1:=Yf;have b1:=Z9V r (i+1);have b2:((numsN r (i+1)).length+1)*8<=70368744177664:=by omega
       have go:ordB r (i+1)=true->∀ j (h:j<r.length),j<i+1+1->issB r[j]=true/\ordB r j=true:=λg2 j q1 q2=>by
        by_cases e:j=i+1
        . subst e;exact ⟨p1,g2⟩
        . exact he j q1 (by omega)
       by_cases p3:r[i].d=r[i+1].d
       . have hn:numsN r (i+1+1)=numsN r (i+1):=(by rw[numsN];simp[newB,a1,a2,p3]);by_cases p5:r[i+1].l=r[i].l+1
         case neg =>
          have p5':¬r[i].l+1=r[i+1].l:=λe=>p5 e.symm
          simp -implicitDefEqProofs[k3,w2,w4,hi2,isa,p3,p5'];refine Qgr ?_;simp -implicitDefEqProofs[ZbV (Za7 hi (by simp[ordB,a1,a2,p3,p5]))]
         by_cases p6:r[i].k=r[i+1].k
         . have ok:ordB r (i+1)=true:=(by simp[ordB,a1,a2,p3,p5,p6]);simp -implicitDefEqProofs[k3,w2,w3,w4,hi2,isa,p3,p5,p6];exact ⟨(by (first|exact Ym.tm (by simp[lk,opS,hn,ia])|exact Ym.sub (by simp[lk,Ya,AV.keys,opS,hn,ia]) (by simp[lk,Yc,Ya,AV.keys,opS,hn,ia]))),go ok⟩
         . have p6':¬r[i+1].k=r[i].k:=λe=>p6 e.symm
           simp -implicitDefEqProofs[k3,w2,w4,hi2,isa,p3,p5,p6];refine Qgr ?_;simp -implicitDefEqProofs[ZbV (Za7 hi (by simp[ordB,a1,a2,p3,p5,p6']))]
       by_cases p4:r[i+1].d<r[i].d
       . simp -implicitDefEqProofs[k3,w2,hi2,isa,p3,p4];refine Qgr ?_;simp -implicitDefEqProofs[ZbV (Za7 hi (by simp[ordB,a1,a2,p4]))]
       have p7:r[i].d<r[i+1].d:=(by omega);have hn:numsN r (i+1+1)=numsN r (i+1)++[r[i+1].d]:=(by rw[numsN];simp[newB,a1,a2,p3]);by_cases p5:r[i+1].l=1
       . have ok:ordB r (i+1)=true:=(by simp[ordB,a1,a2,p4,p7,p5]);simp -implicitDefEqProofs[k3,w2,w3,hi2,isa,p3,p4,p5,b2];exact ⟨rfl,(by (first|exact Ym.tm (by simp[lk,opS,hn,ia])|exact Ym.sub (by simp[lk,Ya,AV.keys,opS,hn,ia]) (by simp[lk,Yc,Ya,AV.keys,opS,hn,ia]))),go ok⟩
       . simp -implicitDefEqProofs[k3,w2,hi2,isa,p3,p4,p5];refine Qgr ?_;simp -implicitDefEqProofs[ZbV (Za7 hi (by simp[ordB,a1,a2,p4,p7,p5]))]
 . intro he;refine Qga ?_;obtain ⟨n,hn⟩ : ∃ n,r.length=n+1:=⟨r.length-1,by omega⟩;have e:numsN r (n+1)=nums r:=by rw[nums,hn]
   have g1:r.all issB=true:=W03.2 λx hx=>by
    obtain ⟨j,hj,rfl⟩:=W0k hx;exact (he j hj hj).1
   have g2:(List.range r.length).all (ordB r)=true:=Za2.2 λj hj=>(he j hj hj).2
   have hO:Ord r:=λi hi=>by
    have:=(he (i+1) hi (by omega)).2;simp only[ordB]at this
    split at this
    . cases this
    . omega
   have hns:Sml (nums r):=(by have:=Zab r;unfold Sml;omega);have hsn:(nums r).Pairwise (· <= ·):=(Zaf hO).imp λh=>Int.le_of_lt h
   have k1:¬(n:Int)+1<r.length:=(by omega);rw[hn];simp -implicitDefEqProofs[opS,k1,e];refine Qgr ?_;simp -implicitDefEqProofs;by_cases c20:20<(nums r).length
   . have c20':(20:Int)<(nums r).length:=(by omega);simp -implicitDefEqProofs[c20',ZbV (r:=r) (by simp[Za5];omega)]
   have c20':¬(20:Int)<(nums r).length:=(by omega);have pu:((nums r).map ia).all (λx=>x.all AV.pure)=true:=(by simp[ia,AV.pure]);have pw:(r.map isa).all (λx=>x.all AV.pure)=true:=(by simp[isa,AV.pure]);simp -implicitDefEqProofs[c20'];refine Z9H (opT r) (λi=>∀ j (h:j<r.length),j<i->ItsIn r r[j]) r.length (Ym.trans (Ym.frz newK _ (λk hk=>by simp[newK];omega)) ?_) (by simp) ?_ ?_
   . simp only[opT,bkA,Yi];refine Ym.sub (by simp[lk,Ya,AV.keys,Yi,newK,frzA,frz,Yh,Yj,St.get,pu,pw]) (by simp) (by simp[newK])
   . intro i hi hc;refine Qga ?_;have w1:i64.wrap ((i:Int)+1)=((i+1:Nat):Int):=Yf;have hx:=h.1.2 r[i] (W0e hi);simp -implicitDefEqProofs[opT,hi,isa];refine Qco (ZaE 92 [.vptr [bkA r (nums r)] 0] (λy=>!decide (y.1∈nums r)) r[i].its (by simp[AV.pure]) hx.1 (λy _=>Zbm r (nums r) y hsn hns)) ?_
     cases q:r[i].its.any λy=>!decide (y.1∈nums r)
     . simp -implicitDefEqProofs[w1];refine ⟨(by (first|exact Ym.tm (by simp[lk,opT])|exact Ym.sub (by simp[lk,Ya,AV.keys,opT]) (by simp[lk,Yc,Ya,AV.keys,opT]))),λj q1 q2=>?_⟩;by_cases e2:j=i
       . subst e2;intro y hy;have:=W25.1 q y hy;simpa using this
       . exact hc j q1 (by omega)
     . simp -implicitDefEqProofs;refine Qgr ?_;obtain ⟨y,hy,hy2⟩:=W14.1 q;obtain ⟨k,hk,rfl⟩:=W0k hy;simp -implicitDefEqProofs[ZbV (Za8 hi hk (by simpa using hy2))]
   . intro hc;refine Qga ?_
     have g3:inB r=true:=W03.2 λx hx=>by
      obtain ⟨j,hj,rfl⟩:=W0k hx;exact W03.2 λy hy=>W0M (hc j hj hj y hy)
     have hL:Za5 r=true:=by
      simp only[Za5,q1,g1,g2,g3,W1k,W2b,W0b];omega
     simp -implicitDefEqProofs[opT];refine Qgr ?_;simp -implicitDefEqProofs;refine Qco (ZbJ r h hO (by omega)) ?_;simp -implicitDefEqProofs;by_cases c21:0<(dRun r (nums r).length).2.length
     . have v:openA r = .tup [.nilp,.int .i64 21]:=(by simp[openA,openV,hL,c21]);simp -implicitDefEqProofs[c21,v]
     simp -implicitDefEqProofs[c21];refine Z5i (kvs:=(dRun r (nums r).length).1) rfl (by simp[opnT,St.tmp,lk]) ?_ ?_
     . intro h6;refine Qgr ?_;have n6:¬ ∃ p∈(dRun r (nums r).length).1,6<p.2:=λ⟨p,hp,hp6⟩=>by have:=h6 p hp;omega
       have v:openA r = .tup [bkA r (nums r),.int .i64 0]:=by
        unfold openA openV;rw[if_pos hL,if_neg c21,if_neg n6];simp
       simp -implicitDefEqProofs[v,bkA]
     . intro h6;refine Qga ?_
       have v:openA r = .tup [.nilp,.int .i64 20]:=by
        unfold openA openV;rw[if_pos hL,if_neg c21,if_pos h6];simp
       simp -implicitDefEqProofs[Z5b,v];refine Qgr ?_;simp -implicitDefEqProofs
def ZbY {r:Jr} (h:openV r=0):Za5 r=true:=by
 unfold openV at h
 split at h
 . assumption
 . cases h
def ZbZ {r:Jr} (h:Za5 r=true):1<=r.length/\r.length<=60:=by
 simp only[Za5,W01,W0b,inR]at h;have:=h.1.1.1.1;omega
def Zc0 {r:Jr} (h:Za5 r=true) {i:Nat} (hi:i<r.length):ordB r i=true:=by
 simp only[Za5,W01]at h;exact Za2.1 h.1.1.2 i hi
def Zc1 {r:Jr} (h:Za5 r=true) {x:Iss} (hx:x∈r):ItsIn r x:=λy hy=>by
 simp only[Za5,W01,inB]at h;exact W0X (W03.1 (W03.1 h.1.2 x hx) y hy)
def Zc2 {r:Jr} (h:Sml r):Sml (nums r):=by have:=Zab r;unfold Sml at *;omega
def Zc3 {r:Jr} (hO:Ord r):(r.map (·.d)).Pairwise (· <= ·):=by
 rw[W2n,W0Y];intro i j hi hj hij;have:=hO.mono (Nat.le_of_lt hij) hj
 rwa [at_eq hi,at_eq hj]at this
def Lx (x y:Iss):Prop:=x.d<y.d∨(x.d=y.d/\x.l<y.l)
def Zc4 {r:Jr} (h:Za5 r=true):∀ {i j:Nat},i<j->j<r.length->Lx (at' r i) (at' r j):=by
 intro i j hij hj
 induction j with
 |zero=>omega
 | succ j ih =>
   have step:Lx (at' r j) (at' r (j+1)):=by
    have:=Zc0 h hj;simp only[ordB]at this
    split at this
    . cases this
    . split at this
      . rename_i h2;exact .inl h2
      . simp only[W01,W0b]at this;exact .inr ⟨by omega,by omega⟩
   by_cases e:i=j
   . subst e;exact step
   . have:=ih (by omega) (by omega);unfold Lx at *;omega
def Zc5 {r:Jr} (h:Za5 r=true):∀ y∈r,findN y.d y.l r=some y:=λy hy=>by
 obtain ⟨i,hi,rfl⟩:=W0k hy;refine Z9X hi rfl rfl λj hj hij=>?_
 have:=Zc4 h hij hi;rw[at_eq hj,at_eq hi]at this;unfold Lx at this;omega
def Zc6 (hG:GC G) (r:Jr) (h:Wf r):PC prog G 55 [rega r] (.tup [.vsl ((if openV r=0 then nums r else []).map ia),.int .i64 (openV r)]):=by
 by_cases e:openV r=0
 . (refine Z8J rfl λR hG hrd=>Qga ?_;subst hG)
   simp -implicitDefEqProofs[Z8H,Z8I,rega];refine Qco (ZbX hG r h) ?_;simp -implicitDefEqProofs[openA,e,bkA]
 . refine PC.nzR (v:=.tup [.nils,.int .i64 (openV r)]) ?_ (by simp[nz,e])
   (refine Z8J rfl λR hG hrd=>Qga ?_;subst hG)
   simp -implicitDefEqProofs[Z8H,Z8I,rega];refine Qco (ZbX hG r h) ?_;simp -implicitDefEqProofs[openA,e]
def atP (r:Jr) (d l:Int):Iss×Int:=if openV r=0 then match findN d l r with
    |some x=>(x,0)
    |none=>(zI,6)
 else (zI,openV r)
def chL (l:Jr):List Int:=l.flatMap λx=>x.its.map (·.1)
def Zc7 (x:Iss) (l:Jr):chL (x::l)=x.its.map (·.1)++chL l:=rfl
def C (r:Jr) (n:Int):List Int:=chL (issOf r n)
def dvL (f:Int->Int) (m:Int) (l:Jr):Int:=l.foldl (λm x=>dvIt f (max m 1) x.its) m
def Zc8 (r:Jr) (f:Int->Int) (n:Int):∀ i,i<=r.length->dvN r f n i=dvL f 0 (issOf (r.take i) n)
 |0,_=>by simp[dvN,issOf,dvL]
 | i+1,hi=>by
   have hlt:i<r.length:=(by omega);have ih:=Zc8 r f n i (by omega);rw[W08 hlt,issOf,W1a,dvN,at_eq hlt];by_cases e:r[i].d=n
   . rw[if_pos e,ih,W2i (by simpa using e),dvL,dvL,W1q];rfl
   . rw[if_neg e,ih,W2j (by simpa using e),List.filter_nil,W1G];rfl
def Zc9 (f:Int->Int):∀ (its:List (Int×Int)) (m:Int),m<=dvIt f m its/\(∀ y∈its,1+f y.1<=dvIt f m its)/\(dvIt f m its=m∨∃ y∈its,dvIt f m its=1+f y.1)
 |[],m=>⟨W1Y _,by simp,.inl rfl⟩
 | y :: its,m=>by
   obtain ⟨h1,h2,h3⟩:=Zc9 f its (max m (1+f y.1));have e:dvIt f m (y::its)=dvIt f (max m (1+f y.1)) its:=rfl;rw[e];refine ⟨by omega,λz hz=>?_,?_⟩
   . rcases W0g.1 hz with rfl|hz
     . omega
     . exact h2 z hz
   . rcases h3 with h3 | ⟨z,hz,h3⟩
     . rcases Int.le_total m (1+f y.1) with hm|hm
       . exact .inr ⟨y,W0H ..,by omega⟩
       . exact .inl (by omega)
     . exact .inr ⟨z,W0z _ hz,h3⟩
def Zca (f:Int->Int):∀ (l:Jr) (m:Int),m<=dvL f m l/\(l≠[]->1<=dvL f m l)/\(∀ c∈chL l,1+f c<=dvL f m l)/\(dvL f m l=m∨dvL f m l=1∨∃ c∈chL l,dvL f m l=1+f c)
 |[],m=>⟨W1Y _,by simp,by simp[chL],.inl rfl⟩
 | x :: l,m=>by
   obtain ⟨h1,h2,h3⟩:=Zc9 f x.its (max m 1);obtain ⟨g1,g2,g3,g4⟩:=Zca f l (dvIt f (max m 1) x.its);have e:dvL f m (x::l)=dvL f (dvIt f (max m 1) x.its) l:=rfl;rw[e];have q1:m<=max m 1:=Int.le_max_left ..;have q2:1<=max m 1:=Int.le_max_right ..;refine ⟨Int.le_trans q1 (Int.le_trans h1 g1),λ_=>Int.le_trans q2 (Int.le_trans h1 g1),λc hc=>?_,?_⟩
   . rw[Zc7]at hc;rcases W0h.1 hc with hc|hc
     . obtain ⟨y,hy,rfl⟩:=W0i.1 hc;exact Int.le_trans (h2 y hy) g1
     . exact g3 c hc
   . rcases g4 with g4|g4 | ⟨c,hc,g4⟩
     . rcases h3 with h3 | ⟨y,hy,h3⟩
       . rcases Int.le_total m 1 with hm|hm
         . exact .inr (.inl (by omega))
         . exact .inl (by omega)
       . exact .inr (.inr ⟨y.1,by rw[Zc7];exact W0h.2 (.inl (W0i.2 ⟨y,hy,rfl⟩)),by omega⟩)
     . exact .inr (.inl g4)
     . exact .inr (.inr ⟨c,by rw[Zc7];exact W0h.2 (.inr hc),g4⟩)
section
variable {r:Jr}
def Zcb (hO:Ord r) {n:Int} (hn:n∈nums r):issOf r n≠[]:=by
 obtain ⟨i,hi,rfl⟩:=Zah hO hn;exact List.ne_nil_of_mem (a:=r[i]) (W0G.2 ⟨W0e hi,by simp⟩)
def Dv_eq (r:Jr) (k:Nat) (n:Int):Dv r (k+1) n=dvL (Dv r k) 0 (issOf r n):=by
 rw[Dv,Zc8 r _ n _ (W0f _),W0v]
def Dv_ch (k:Nat) (n:Int) {c:Int} (hc:c∈C r n):1+Dv r k c<=Dv r (k+1) n:=by
 rw[Dv_eq];exact (Zca _ _ _).2.2.1 c hc
def Zcc (hO:Ord r) (k:Nat) {n:Int} (hn:n∈nums r):1<=Dv r (k+1) n:=by
 rw[Dv_eq];exact (Zca _ _ _).2.1 (Zcb hO hn)
def Dv_or (hO:Ord r) (k:Nat) {n:Int} (hn:n∈nums r):Dv r (k+1) n=1∨∃ c∈C r n,Dv r (k+1) n=1+Dv r k c:=by
 have h1:=Zcc hO k hn;rw[Dv_eq]at *;rcases (Zca (Dv r k) (issOf r n) 0).2.2.2 with h|h|h
 . omega
 . exact .inl h
 . exact .inr h
def C_in (hin:∀ x∈r,ItsIn r x) {n c:Int} (hc:c∈C r n):c∈nums r:=by
 obtain ⟨x,hx,hc⟩:=W0u.1 hc;obtain ⟨y,hy,rfl⟩:=W0i.1 hc;exact hin x (W0G.1 hx).1 y hy
def Zcd (lf:List Int):∀ (its:List (Int×Int)) (b:Bool),rdIt lf b its=true↔b=true/\∀ y∈its,y.1 ∉ lf
 |[],b=>by simp[rdIt]
 | y::its,b=>by
   have e:rdIt lf b (y::its)=rdIt lf (b && !decide (y.1∈lf)) its:=rfl;rw[e,Zcd lf its];simp[and_assoc]
def Zce (lf:List Int):∀ (l:Jr) (b:Bool),rdN lf b l=true↔b=true/\∀ c∈chL l,c ∉ lf
 |[],b=>by simp[rdN,chL]
 | x :: l,b=>by
   have e:rdN lf b (x::l)=rdN lf (rdIt lf b x.its) l:=rfl;rw[e,Zce lf l,Zcd,Zc7];simp only[W0h,W0i]
   constructor
   . rintro ⟨⟨h1,h2⟩,h3⟩;refine ⟨h1,λc hc=>?_⟩;rcases hc with ⟨y,hy,rfl⟩|hc
     . exact h2 y hy
     . exact h3 c hc
   . rintro ⟨h1,h2⟩;exact ⟨⟨h1,λy hy=>h2 _ (.inl ⟨y,hy,rfl⟩)⟩,λc hc=>h2 c (.inr hc)⟩
def Zcf (dp:List (Int×Int)):∀ (its:List (Int×Int)) (m:Int),m<=msIt dp m its/\(∀ y∈its,dpG dp y.1<=msIt dp m its)/\(msIt dp m its=m∨∃ y∈its,msIt dp m its=dpG dp y.1)
 |[],m=>⟨W1Y _,by simp,.inl rfl⟩
 | y :: its,m=>by
   obtain ⟨h1,h2,h3⟩:=Zcf dp its (max m (dpG dp y.1));have e:msIt dp m (y::its)=msIt dp (max m (dpG dp y.1)) its:=rfl;rw[e];refine ⟨by omega,λz hz=>?_,?_⟩
   . rcases W0g.1 hz with rfl|hz
     . omega
     . exact h2 z hz
   . rcases h3 with h3 | ⟨z,hz,h3⟩
     . rcases Int.le_total m (dpG dp y.1) with hm|hm
       . exact .inr ⟨y,W0H ..,by omega⟩
       . exact .inl (by omega)
     . exact .inr ⟨z,W0z _ hz,h3⟩
def Zcg (dp:List (Int×Int)):∀ (l:Jr) (m:Int),m<=msN dp m l/\(∀ c∈chL l,dpG dp c<=msN dp m l)/\(msN dp m l=m∨∃ c∈chL l,msN dp m l=dpG dp c)
 |[],m=>⟨W1Y _,by simp[chL],.inl rfl⟩
 | x :: l,m=>by
   obtain ⟨h1,h2,h3⟩:=Zcf dp x.its m;obtain ⟨g1,g2,g3⟩:=Zcg dp l (msIt dp m x.its);have e:msN dp m (x::l)=msN dp (msIt dp m x.its) l:=rfl;rw[e];refine ⟨by omega,λc hc=>?_,?_⟩
   . rw[Zc7]at hc;rcases W0h.1 hc with hc|hc
     . obtain ⟨y,hy,rfl⟩:=W0i.1 hc;have:=h2 y hy;omega
     . exact g2 c hc
   . rcases g3 with g3 | ⟨c,hc,g3⟩
     . rcases h3 with h3 | ⟨y,hy,h3⟩
       . exact .inl (by omega)
       . exact .inr ⟨y.1,by rw[Zc7];exact W0h.2 (.inl (W0i.2 ⟨y,hy,rfl⟩)),by omega⟩
     . exact .inr ⟨c,by rw[Zc7];exact W0h.2 (.inr hc),g3⟩
def Zch {n:Int}:∀ {dp:List (Int×Int)},n∈dp.map (·.1)->∃ v,dpLk n dp=some v
 |[],h=>by simp at h
 | p :: dp,h=>by
   simp only[dpLk]
   split
   . exact ⟨_,rfl⟩
   . rename_i e;simp only[W0F,W0g]at h;exact Zch (h.resolve_left λe2=>e (by rw[e2]))
def AInv (r:Jr) (s:List (Int×Int)×List Int):Prop:=∀ p∈s.1,∀ j:Nat,p.2<=j->Dv r j p.1=p.2
def AInv.step (hO:Ord r) (hin:∀ x∈r,ItsIn r x) {s:List (Int×Int)×List Int} (hd:DInv r s) (h:AInv r s) {n:Int} (hn:n∈nums r):AInv r (dStep r s n):=by
 unfold dStep
 split
 . rename_i hb;obtain ⟨h1,h2⟩:=(Zce _ _ _).1 hb
   have kids:∀ c∈C r n,(c,dpG s.1 c)∈s.1:=λc hc=>by
    have hc1:c∈s.1.map (·.1)++s.2:=hd.perm.mem_iff.2 (C_in hin hc);have hc2:c∈s.1.map (·.1):=(W0h.1 hc1).resolve_right (h2 c hc);obtain ⟨v,hv⟩:=Zch hc2;have:=ZbE hv
    rwa [show dpG s.1 c=v by simp[dpG,hv]]
   obtain ⟨m1,m2,m3⟩:=Zcg s.1 (issOf r n) 0;intro p hp j hj;rcases W0h.1 hp with hp|hp
   . exact h p hp j hj
   . simp only[W0B]at hp;subst hp;simp only at hj ⊢;obtain ⟨j,rfl⟩ : ∃ j',j=j'+1:=⟨j-1,by omega⟩
     have same:∀ c∈C r n,Dv r j c=dpG s.1 c:=λc hc=>by
      have:=m2 c hc;exact h _ (kids c hc) j (by simp only;omega)
     have o1:=Zcc hO j hn
     apply Int.le_antisymm
     . rcases Dv_or hO j hn with e | ⟨c,hc,e⟩
       . omega
       . have:=m2 c hc;have:=same c hc;omega
     . rcases m3 with e | ⟨c,hc,e⟩
       . omega
       . have:=Dv_ch (r:=r) j n hc;have:=same c hc;omega
 . exact h
def AInv.fold (hO:Ord r) (hin:∀ x∈r,ItsIn r x):∀ (l:List Int) {s:List (Int×Int)×List Int},(∀ n∈l,n∈nums r)->DInv r s->AInv r s->AInv r (l.foldl (dStep r) s)
 |[],s,_,_,h=>h
 |n::l,s,hl,hd,h=>AInv.fold hO hin l (λm hm=>hl m (W0z _ hm)) (hd.step n) (h.step hO hin hd (hl n (W0H ..)))
def AInv.run (hO:Ord r) (hin:∀ x∈r,ItsIn r x):∀ k,AInv r (dRun r k)
 |0=>by intro p hp;simp[dRun]at hp
 |k+1=>AInv.fold hO hin (nums r) (λ_ h=>h) (DInv.run r k) (AInv.run hO hin k)
def Stuck (r:Jr) (L:List Int):Prop:=∀ n∈L,∃ c∈C r n,c∈L
def Zci {s:List (Int×Int)×List Int} {n:Int} (h:¬rdN s.2 (decide (n∈s.2)) (issOf r n)=true):dStep r s n=s/\(n∈s.2->∃ c∈C r n,c∈s.2):=by
 refine ⟨by unfold dStep;rw[if_neg h],λhn=>?_⟩;rw[Zce]at h;by_cases e:∃ c∈C r n,c∈s.2
 . exact e
 . exact absurd ⟨W0M hn,λc hc h2=>e ⟨c,hc,h2⟩⟩ h
def Zcj (s:List (Int×Int)×List Int) (n:Int):(dStep r s n).2.length<=s.2.length:=by
 unfold dStep
 split
 . exact List.length_erase_le
 . exact W0f _
def Zck:∀ (l:List Int) (s:List (Int×Int)×List Int),(l.foldl (dStep r) s).2.length<=s.2.length
 |[],s=>W0f _
 |n::l,s=>W0O (Zck l _) (Zcj s n)
def Zcl:∀ (l:List Int) (s:List (Int×Int)×List Int),(l.foldl (dStep r) s).2.length<s.2.length∨(l.foldl (dStep r) s=s/\∀ n∈l,n∈s.2->∃ c∈C r n,c∈s.2)
 |[],s=>.inr ⟨rfl,by simp⟩
 | n :: l,s=>by
   by_cases e:rdN s.2 (decide (n∈s.2)) (issOf r n)=true
   . refine .inl (Nat.lt_of_le_of_lt (Zck l _) ?_);have hm:=ZbD e;unfold dStep;rw[if_pos e];have:=List.length_erase_of_mem hm;have:=List.length_pos_of_mem hm;simp only;omega
   . obtain ⟨h1,h2⟩:=Zci e;rw[W2d,h1];rcases Zcl l s with h | ⟨h3,h4⟩
     . exact .inl h
     . refine .inr ⟨h3,λm hm=>?_⟩;rcases W0g.1 hm with rfl|hm
       . exact h2
       . exact h4 m hm
def Zcm:∀ (l:List Int) {s:List (Int×Int)×List Int},Stuck r s.2->l.foldl (dStep r) s=s
 |[],s,_=>rfl
 | n::l,s,h=>by
   have:¬rdN s.2 (decide (n∈s.2)) (issOf r n)=true:=λe=>by
    have hm:=ZbD e;obtain ⟨c,hc,h2⟩:=h n hm;exact ((Zce _ _ _).1 e).2 c hc h2
   rw[W2d,(Zci this).1];exact Zcm l h
def Zcn (r:Jr):∀ k,(dRun r k).2.length+k<=(nums r).length∨Stuck r (dRun r k).2
 |0=>.inl (by simp[dRun])
 | k + 1=>by
   have hsub:∀ n∈(dRun r k).2,n∈nums r:=λn hn=>(DInv.run r k).perm.mem_iff.1 (W0h.2 (.inr hn))
   rcases Zcn r k with h|h
   . rcases Zcl (r:=r) (nums r) (dRun r k) with h2 | ⟨h2,h3⟩
     . exact .inl (by simp only[dRun,dPass];omega)
     . refine .inr ?_;simp only[dRun,dPass];rw[h2];exact λn hn=>h3 n (hsub n hn) hn
   . refine .inr ?_;simp only[dRun,dPass];rw[Zcm (nums r) h];exact h
def Zco {L:List Int} (h:Stuck r L):∀ (k:Nat) (n:Int),n∈L->(k:Int)<=Dv r k n
 |0,n,_=>by simp[Dv]
 | k+1,n,hn=>by
   obtain ⟨c,hc,h2⟩:=h n hn;have:=Zco h k c h2;have:=Dv_ch (r:=r) k n hc;omega
def Zcp (g:Int->Int) (K:Int):∀ (l:List Int) (m:Int),K<l.foldl (λm n=>max m (g n)) m↔K<m∨∃ n∈l,K<g n
 |[],m=>by simp
 | n::l,m=>by
   rw[W2d,Zcp g K l];simp only[W0g,exists_eq_or_imp];rw[<- or_assoc];refine or_congr_left ?_;omega
def Zcq {l:List Int} {g:Int->Int} {K:Int} (hK:0<=K):K<mostV l g↔∃ n∈l,K<g n:=by
 rw[mostV,Zcp]
 constructor
 . rintro (h|h)
   . omega
   . exact h
 . exact .inr
def dp_Dv (hL:Za5 r=true) (h:(dRun r (nums r).length).2.length=0) {n:Int} (hn:n∈nums r):(n,dpG (dRun r (nums r).length).1 n)∈(dRun r (nums r).length).1/\Dv r ((nums r).length+1) n=dpG (dRun r (nums r).length).1 n:=by
 have hd:=DInv.run r (nums r).length;have h0:(dRun r (nums r).length).2=[]:=W0l.1 h
 have h1:n∈(dRun r (nums r).length).1.map (·.1):=by
  have:=hd.perm.mem_iff.2 hn
  rwa [h0,W1G]at this
 obtain ⟨v,hv⟩:=Zch h1;have hm:=ZbE hv;have e:dpG (dRun r (nums r).length).1 n=v:=(by simp[dpG,hv]);rw[e];refine ⟨hm,?_⟩;have hb:=hd.bd _ hm;have hl:=hd.len;exact AInv.run (Zad hL) (λx hx=>Zc1 hL hx) _ _ hm _ (by simp only at hb ⊢;omega)
def Zcr (r:Jr):openV r=chkV r:=by
 unfold openV chkV
 cases hL:Za5 r
 . rfl
 . simp only [if_true];by_cases h:0<(dRun r (nums r).length).2.length
   . rw[if_pos h];have hs:Stuck r (dRun r (nums r).length).2:=(Zcn r (nums r).length).resolve_left (by omega);obtain ⟨n,hn⟩:=List.exists_mem_of_length_pos h;have hn2:n∈nums r:=(DInv.run r _).perm.mem_iff.1 (W0h.2 (.inr hn));have:=Zco hs ((nums r).length+1) n hn;rw[if_pos ((Zcq (by omega)).2 ⟨n,hn2,by omega⟩)]
   . rw [if_neg h];have h0:(dRun r (nums r).length).2.length=0:=(by omega);have hd:=DInv.run r (nums r).length;have hl:=hd.len
     have e1:(∃ p∈(dRun r (nums r).length).1,6<p.2)↔6<mostV (nums r) (Dv r ((nums r).length+1)):=by
      rw[Zcq (by omega)]
      constructor
      . rintro ⟨p,hp,h6⟩;have hn:p.1∈nums r:=hd.perm.mem_iff.1 (W0h.2 (.inl (W0i.2 ⟨p,hp,rfl⟩)));refine ⟨p.1,hn,?_⟩;have hb:=hd.bd _ hp;rw[AInv.run (Zad hL) (λx hx=>Zc1 hL hx) _ _ hp _ (by omega)];exact h6
      . rintro ⟨n,hn,h6⟩;obtain ⟨h1,h2⟩:=dp_Dv hL h0 hn;rw[h2]at h6;exact ⟨_,h1,h6⟩
     have e2:¬((nums r).length:Int)<mostV (nums r) (Dv r ((nums r).length+1)):=by
      rw[Zcq (by omega)];rintro ⟨n,hn,h6⟩;obtain ⟨h1,h2⟩:=dp_Dv hL h0 hn;have:=hd.bd _ h1;rw[h2]at h6;simp only at this;omega
     rw[if_neg e2];by_cases c:6<mostV (nums r) (Dv r ((nums r).length+1))
     . rw[if_pos c,if_pos (e1.2 c)]
     . rw[if_neg c,if_neg λe=>c (e1.1 e)]
def Zcs {i:Nat} (hi:i<r.length) (n:Int):issOf (r.take (i+1)) n=if r[i].d=n then issOf (r.take i) n++[r[i]] else issOf (r.take i) n:=by
 rw[W08 hi,issOf,W1a]
 split
 . rename_i e;rw[W2i (by simpa using e)];rfl
 . rename_i e;rw[W2j (by simpa using e),List.filter_nil,W1G];rfl
def Zct (hL:Za5 r=true):∀ (i:Nat) (hi:i<r.length),r[i].l=((issOf (r.take (i+1)) r[i].d).length:Nat)
 | 0,hi=>by
   have h0:=Zc0 hL hi;simp only[ordB,W0b,at_eq hi]at h0;rw[h0,Zcs hi,if_pos rfl];simp[issOf]
 | j + 1,hi=>by
   have hj:j<r.length:=(by omega);have h0:=Zc0 hL hi;have ih:=Zct hL j hj;have hO:=Zad hL;rw[Zcs hi,if_pos rfl];simp only[ordB,at_eq hi,at_eq hj]at h0
   split at h0
   . cases h0
   . split at h0
     . rename_i h1 h2
       have e:issOf (r.take (j+1)) r[j+1].d=[]:=by
        rw[issOf,W2m];intro x hx;obtain ⟨k,hk,rfl⟩:=W0k hx;simp only[W15]at hk;have:=hO.mono (i:=k) (j:=j) (by omega) hj;rw[at_eq (show k<r.length by omega),at_eq hj]at this;simp only[W1V,W0b];omega
       rw[e];simpa using h0
     . rename_i h1 h2;simp only[W01,W0b]at h0;have e:r[j+1].d=r[j].d:=(by omega);rw[e,h0.1,ih];simp
def Zcu (hL:Za5 r=true) (n:Int):∀ i,i<=r.length->lastN r n i=((issOf (r.take i) n).length:Nat)
 |0,_=>by simp[lastN,issOf]
 | i + 1,hi=>by
   have hlt:i<r.length:=(by omega);have ih:=Zcu hL n i (by omega);rw[lastN,at_eq hlt,Zcs hlt]
   split
   . rename_i e;have:=Zct hL i hlt;rw[e,Zcs hlt,if_pos e]at this;rw[ih,this];simp only[W0s,W1p,W1U];omega
   . exact ih
def Zcv (hL:Za5 r=true) (n:Int):lastV r n=cntV r n:=by
 rw[lastV,Zcu hL n _ (W0f _),W0v];rfl
end
def twR (r:Jr) (i:Nat):List (List AV):=(r.take i).map isa
def Zcw {r:Jr} {i:Nat} (h:i<=r.length):(twR r i).length=i:=by simp[twR];omega
def Zcx {r:Jr} {i:Nat} (h:i<r.length):twR r (i+1)=twR r i++[[.int .i64 r[i].d,.int .i64 r[i].l,.int .u8 r[i].k,.vsl (r[i].its.map ita),.vsl (r[i].dms.map dma)]]:=by
 rw[twR,W08 h,W0r];rfl
def Zcy {r:Jr} {i:Nat} (o:List (Nat×AObj)):Yc o (.row 5 (twR r i))=true:=by
 simp only[Yc,W03,twR,W0i];rintro x ⟨y,-,rfl⟩ v hv;simp only[isa,W0g,W0Q,or_false]at hv;rcases hv with rfl|rfl|rfl|rfl|rfl <;> simp[Ya,AV.keys]
def Zcz (r:Jr):twR r r.length=r.map isa:=by rw[twR,W0v]
def twS (r:Jr):Nat->St
 |0=>⟨[(4,.int .i64 0),(3,.ptr 3 0),(1,.ptr 1 0),(2,.ptr 2 0)],[(1,.box [.vsl (r.map isa)]),(2,.box [.nils]),(3,.box [.nils])]⟩
 |i+1=>⟨[(4,.int .i64 (i+1:Nat)),(3,.ptr 3 0),(1,.ptr 1 0),(2,.ptr 2 0)],[(1,.box [.vsl (r.map isa)]),(2,.box [.nils]),(3,.box [.osl 21 (i+1)]),(21,.row 5 (twR r (i+1)))]⟩
def ZcA (r:Jr) (h:SmlR r):PC prog G 38 [rega r] (rega r):=by
 by_cases h0:r=[]
 . subst h0;refine PC.nzR (v:=.agg [.nils]) ?_ (by simp[nz,rega])
   (refine Z9y rfl λR hG hrd=>Qga ?_;subst hG)
   simp -implicitDefEqProofs[Z9w,Z9x,rega];refine Z9H (twS []) (λ_=>True) 0 (by simp only[twS];(first|exact Wka|exact Wkb)) trivial (λi hi=>by omega) λ_=>?_
   refine Qga ?_;simp -implicitDefEqProofs[twS];refine Qgr ?_;simp -implicitDefEqProofs
 . (refine Z9y rfl λR hG hrd=>Qga ?_;subst hG)
   have hs:=h.1;unfold Sml at hs;simp -implicitDefEqProofs[Z9w,Z9x,rega];refine Z9H (twS r) (λ_=>True) r.length (by simp only[twS];(first|exact Wka|exact Wkb)) trivial ?_ ?_
   . intro i hi _;refine Qga ?_;have hx:=h.2 r[i] (W0e hi);have tk:=Zcx hi;have ln:=Zcw (Nat.le_of_lt hi)
     cases i with
     | zero =>
       have w1:i64.wrap 1=1:=rfl;simp -implicitDefEqProofs[twS,hi,isa];refine Qco (Z9Z r[0] hx.1 hx.2) ?_;simp -implicitDefEqProofs[w1,isa];refine ⟨rfl,?_⟩;have tk0:twR r 1=[[.int .i64 r[0].d,.int .i64 r[0].l,.int .u8 r[0].k,.vsl (r[0].its.map ita),.vsl (r[0].dms.map dma)]]:=(by rw[tk];simp[twR]);simp only[twS];exact Ym.sub (by simp[lk,Ya,AV.keys]) (by simp[lk,Yc,Ya,AV.keys,tk0])
     | succ i =>
       have w1:i64.wrap ((i:Int)+1+1)=(i:Int)+1+1:=Yf;have k1:(i:Int)+1<r.length:=(by omega);have k2:((i:Int)+1).toNat=i+1:=(by omega);have k3:(0:Int)<=(i:Int)+1:=(by omega);have b2:(i+1+1)*72<=70368744177664:=(by omega);simp -implicitDefEqProofs[twS,hi,k1,k2,k3,isa];refine Qco (Z9Z r[i+1] hx.1 hx.2) ?_;simp -implicitDefEqProofs[w1,ln,b2,isa];refine ⟨rfl,?_⟩;simp only[twS];refine Ym.sub (by simp[lk,Ya,AV.keys]) ?_;simp only[W0g,W0Q,or_false,W1M,forall_eq,Zcy,and_true];simp[lk,Yc,Ya,AV.keys,tk]
   . intro _;refine Qga ?_
     obtain ⟨n,hn⟩ : ∃ n,r.length=n+1:=⟨r.length-1,by
      have:r.length≠0:=(by simpa using h0);omega⟩
     have k1:¬(n:Int)+1<n+1:=(by omega);have e1:twR r (n+1)=r.map isa:=(by rw[<- hn,Zcz]);have pu:(r.map isa).all (λx=>x.all AV.pure)=true:=(by simp[isa,AV.pure]);rw[hn];simp -implicitDefEqProofs[twS,hn,k1,e1,pu];refine Qgr ?_;simp -implicitDefEqProofs[pu,e1,hn]
section
variable {r:Jr}
def ZcB (hL:Za5 r=true) (n:Int):∀ (i:Nat),i<=r.length->∀ k:Nat,1<=k->k<=(issOf (r.take i) n).length->∃ j,∃ h:j<r.length,r[j].d=n/\r[j].l=k
 |0,_,k,h1,h2=>by simp[issOf]at h2;omega
 | i + 1,hi,k,h1,h2=>by
   have hlt:i<r.length:=(by omega);by_cases c:k<=(issOf (r.take i) n).length
   . exact ZcB hL n i (by omega) k h1 c
   . have hl:=Zct hL i hlt;rw[Zcs hlt]at h2
     split at h2
     . rename_i e;simp only[W0s,W1p,W1U]at h2;refine ⟨i,hlt,e,?_⟩;rw[hl,e,Zcs hlt,if_pos e];simp only[W0s,W1p,W1U];omega
     . omega
def ZcC (hL:Za5 r=true) {x:Iss} (hx:x∈r):1<=x.l/\x.l<=cntV r x.d:=by
 obtain ⟨i,hi,rfl⟩:=W0k hx;have h1:=Zct hL i hi;have h2:(issOf (r.take (i+1)) r[i].d).length<=(issOf r r[i].d).length:=((List.take_sublist (i+1) r).filter _).length_le;have h3:0<(issOf (r.take (i+1)) r[i].d).length:=(by rw[Zcs hi,if_pos rfl];simp);have h4:cntV r r[i].d=((issOf r r[i].d).length:Nat):=rfl;omega
def ZcD (hL:Za5 r=true) {x:Iss} (hx:x∈r):findN x.d x.l r=some x:=Zc5 hL x hx
def ZcE (hL:Za5 r=true) (n l:Int):(findN n l r).isSome=true↔inR l 1 (lastV r n)=true:=by
 rw[inR,W0b,Zcv hL]
 constructor
 . intro h;obtain ⟨x,hx⟩:=W0t.1 h;obtain ⟨h1,rfl,rfl⟩:=Zav hx;exact ZcC hL h1
 . rintro ⟨h1,h2⟩;have h3:cntV r n=((issOf r n).length:Nat):=rfl;obtain ⟨j,hj,rfl,e⟩:=ZcB hL n r.length (W0f _) l.toNat (by omega) (by rw[W0v];omega);have:=ZcD hL (W0e hj);rw[e,show ((l.toNat:Nat):Int)=l by omega]at this;rw[this];rfl
end
structure Nte where
 nu:Int
 dy:Int
 sg:Int
 dr:Int
 lt:Int
 fr:Int
 tu:Int
 ca:Int
 up:Bool
 wy:Int
 deriving DecidableEq,Inhabited
def na (x:Nte):List AV:=[.int .i64 x.nu,.int .i64 x.dy,.int .u8 x.sg,.int .i64 x.dr,.int .i64 x.lt,.int .i64 x.fr,.int .i64 x.tu,.int .i64 x.ca,.bool x.up,.int .u8 x.wy]
def nAt (l:List Nte) (i:Nat):Nte:=l.getD i default
def ZcF {l:List Nte} {i:Nat} (h:i<l.length):nAt l i=l[i]:=by simp[nAt,W0j,h]
def cN1 (x:Nte):Bool:=inR x.nu 1 9999&&inR x.dy 0 14610
def cN2 (x:Nte):Bool:=decide (x.sg<=2)&&decide (x.wy<=3)
def cN3 (x:Nte):Bool:=inR x.fr 1 999&&inR x.tu 1 999&&decide (x.fr<=x.tu)
def cN4 (r:Jr) (x:Nte):Bool:=if x.dr=0/\x.lt=0 then !decide (x.ca=0) else (findN x.dr x.lt r).isSome
def cN5 (x:Nte):Bool:=decide (2<=x.lt)||(!x.up&&decide (x.wy=0))
def cN6 (l:List Nte) (i:Nat) (x:Nte):Bool:=decide (x.ca=0)||(l.take i).any λy=>decide (y.nu=x.ca)
def cN7 (l:List Nte) (i:Nat) (x:Nte):Bool:=!(l.take i).any λy=>decide (y.nu=x.nu)
def cN8 (l:List Nte):Nat->Nte->Bool
 |0,_=>true
 |i+1,x=>decide ((nAt l i).dy<x.dy)||(decide ((nAt l i).dy=x.dy)&&decide ((nAt l i).nu<x.nu))
def noteB (r:Jr) (l:List Nte) (i:Nat):Bool:=cN1 (nAt l i)&&cN2 (nAt l i)&&cN3 (nAt l i)&&cN4 r (nAt l i)&&cN5 (nAt l i)&&cN6 l i (nAt l i)&&cN7 l i (nAt l i)&&cN8 l i (nAt l i)
def opN (l:List Nte) (i:Nat):List Nte:=(l.take i).filter λx=>decide (x.sg=1)
def ZcG {l:List Nte} {i:Nat} (h:i<l.length):opN l (i+1)=if l[i].sg=1 then opN l i++[l[i]] else opN l i:=by
 unfold opN;rw[W08 h,W1a]
 split
 . rename_i e;rw[W2i (by simpa using e)];rfl
 . rename_i e;rw[W2j (by simpa using e)];simp
def ZcH (l:List Nte) (i:Nat):(opN l i).length<=i:=W0O (W0D _ _) (by simp;omega)
def ZcI (r:Jr) (l:List Nte):Bool:=decide (l.length<=12)&&(List.range l.length).all (noteB r l)&&decide ((opN l l.length).length<=5)
def chN (r:Jr) (l:List Nte):Int:=if openV r=0 then if ZcI r l=true then 0 else 30 else openV r
def opU (l:List Nte):List Int:=(opN l l.length).map (·.nu)
def truB (l:List Nte) (s:List Int):Bool:=(List.range s.length).all λi=>decide (s.getD i 0∈opU l)&&(i == 0||decide (s.getD (i-1) 0<s.getD i 0))
def asN (r:Jr) (l:List Nte) (s:List Int) (m:Int):Int:=if chN r l=0 then if truB l s=true then if inR m 1 999=true then 0 else 2 else 31 else chN r l
def bsF (s w:List Int) (m:Int) (x:Nte):Bool:=(decide (x.sg=2)||decide (x.nu∈s)) && !decide (x.nu∈w)&&inR m x.fr x.tu
def gcL {α:Type} (p:α->Bool) (h:α->α->Bool):List α->List Bool
 |[]=>[]
 |x::l=>(p x && !((l.zip (gcL p h l)).any λq=>q.2&&h x q.1))::gcL p h l
section
variable {α:Type} {p:α->Bool} {h:α->α->Bool} {l:List α}
def ZcJ:∀ l:List α,(gcL p h l).length=l.length
 |[]=>rfl
 |x::l=>by simp[gcL,ZcJ l]
def ZcK:∀ (l:List α) (i:Nat),(gcL p h l).drop i=gcL p h (l.drop i)
 |[],i=>by simp[gcL]
 |x::l,0=>rfl
 |x::l,i+1=>by simp only[gcL,List.drop_succ_cons];exact ZcK l i
def gcB (p:α->Bool) (h:α->α->Bool) (l:List α) (i:Nat):Bool:=(gcL p h l).getD i false
def gwB (p:α->Bool) (h:α->α->Bool) (l:List α) (x:α) (i k:Nat):Bool:=p x && !((((l.zip (gcL p h l)).take k).drop (i+1)).any λq=>q.2&&h x q.1)
def ZcL {i:Nat} (hi:i<l.length):gcB p h l i=gwB p h l l[i] i l.length:=by
 have e1:l.drop i=l[i]::l.drop (i+1):=W0x hi;have e2:=ZcK (p:=p) (h:=h) l i;have e4:=ZcK (p:=p) (h:=h) l (i+1);rw[e1,gcL]at e2
 have e3:(gcL p h l)[i]? = some (p l[i] && !(((l.drop (i+1)).zip (gcL p h (l.drop (i+1)))).any λq=>q.2&&h l[i] q.1)):=by
  have:=congrArg (λq=>q[0]?) e2;simp only[W13,W1X,W2h]at this;exact this
 have e5:((l.zip (gcL p h l)).take l.length).drop (i+1)=(l.drop (i+1)).zip (gcL p h (l.drop (i+1))):=by
  rw[W0J (by simp[ZcJ])];show List.drop (i+1) (List.zipWith Prod.mk l (gcL p h l))=List.zipWith Prod.mk (l.drop (i+1)) (gcL p h (l.drop (i+1)));rw[List.drop_zipWith,e4]
 rw[gcB,W0j,e3,W0P,gwB,e5]
def ZcM {x:α} {i:Nat}:gwB p h l x i (i+1)=p x:=by
 rw[gwB,W1j (by simp;omega)];simp
def ZcN {x:α} {i k:Nat} (hi:i<k) (hk:k<l.length):gwB p h l x i (k+1)=(gwB p h l x i k && !(gcB p h l k&&h x l[k])):=by
 have hz:k<(l.zip (gcL p h l)).length:=(by simp[ZcJ,hk]);have hf:k<(gcL p h l).length:=by rw[ZcJ];exact hk
 have e:(l.zip (gcL p h l))[k]=(l[k],gcB p h l k):=by
  rw[List.getElem_zip]
  congr 1
  rw[gcB,W0j,W07 hf];rfl
 rw[gwB,gwB,W08 hz,List.drop_append_of_le_length (by simp[ZcJ];omega),W2f,e];simp only[List.any_cons,List.any_nil,Bool.or_false,Bool.not_or,Bool.and_assoc]
end
def fB (s w:List Int) (m:Int) (l:List Nte) (i:Nat):Bool:=gcB (bsF s w m) (λx y=>decide (y.ca=x.nu)) l i
def WfN (l:List Nte):Prop:=Sml l/\∀ x∈l,0<=x.sg/\x.sg<=255/\0<=x.wy/\x.wy<=255
abbrev Jl:=List Nte
def ZcO {α:Type} {l:List α} {k:Nat} (h:k<l.length) (p:α->Bool):(l.take (k+1)).any p=((l.take k).any p||p l[k]):=by
 rw[W08 h,W2f];simp
def Chk (S:St) (Q:Prop) (Φ:Exit->St->Prop):Exit->St->Prop
 |.normal,s=>Ym s S/\Q
 |.ret,s=>Φ .ret s
 |_,_=>False
section
variable {P:Program} {R:Run} {S s:St} {Q:Prop} {Φ:Exit->St->Prop}
def ZcP:Chk S Q Φ .normal s=(Ym s S/\Q):=rfl
def ZcQ:Chk S Q Φ .ret s=Φ .ret s:=rfl
attribute [simp] ZcP ZcQ
def ZcR {a b:RCode} {st S:St} {Φ:Exit->St->Prop} (h:AR P R a st λe s=>e = .normal/\Ym s S) (hb:AR P R b S Φ):AR P R (.seq a b) st Φ :=
 Z1M (Z2I h λe s hs=>by obtain ⟨rfl,hw⟩:=hs;exact Z2R hw hb)
def ZcS {a b:RCode} {st S:St} {Q:Prop} {Φ:Exit->St->Prop} (h:AR P R a st (Chk S Q Φ)) (hb:Q->AR P R b S Φ):AR P R (.seq a b) st Φ :=
 Z1M (Z2I h λe s hs=>by
  cases e with
  |normal=>exact Z2R hs.1 (hb hs.2)
  |ret=>exact hs
  |_=>exact hs.elim)
end
def ZcT (n lo hi:Int):PC prog G 117 [.int .i64 n,.int .i64 lo,.int .i64 hi] (.bool (inR n lo hi)):=by
 (refine Z6y rfl λR hG hrd=>Qga ?_;subst hG)
 by_cases h1:lo<=n <;> by_cases h2:n<=hi <;> simp -implicitDefEqProofs[Z6w,Z6x,inR,h1,h2]
def ZcU (l:List Int) (n:Int) (h:Sml l):PC prog G 118 [.vsl (l.map ia),.int .i64 n] (.bool (decide (n∈l))):=by
 (refine Z6N rfl λR hG hrd=>Qga ?_;subst hG)
 unfold Sml at h;simp -implicitDefEqProofs[Z6L,Z6M];refine Z9H (λi=>⟨[(5,.int .i64 i),(0,.vsl (l.map ia)),(1,.int .i64 n)],[]⟩) (λi=>∀ j (h:j<l.length),j<i->¬l[j]=n) l.length (by (first|exact Wka|exact Wkb)) (by simp) ?_ ?_
 . intro i hi he;refine Qga ?_;have w1:i64.wrap ((i:Int)+1)=(i:Int)+1:=Yf;by_cases e:l[i]=n
   . have hm:n∈l:=e ▸ W0e hi;simp -implicitDefEqProofs[hi,ia,e];refine Qgr ?_;simp -implicitDefEqProofs[hm]
   . simp -implicitDefEqProofs[hi,ia,e,w1];refine ⟨by (first|exact Wka|exact Wkb),λj hj hji=>?_⟩;rcases W0q j i with h2|h2
     . exact he j hj h2
     . obtain rfl:j=i:=(by omega);exact e
 . intro he;refine Qga ?_
   have hm:¬n∈l:=λhm=>by
    obtain ⟨j,hj,e⟩:=W0k hm;exact he j hj hj e
   simp -implicitDefEqProofs;refine Qgr ?_;simp -implicitDefEqProofs[hm]
def ZcV (r:Jr) (l:Jl) (i:Nat) (hi:i<l.length) (hw:WfN l) (hr:SmlR r):PC prog G 98 [.agg [.vsl (r.map isa),.vsl (l.map na)],.int .i64 i] (.bool (noteB r l i)):=by
 have hl:=hw.1;unfold Sml at hl;have hb:=hw.2 l[i] (W0e hi);have hx:=ZcF hi;have hf:=Za1 (G:=G) r l[i].dr l[i].lt hr.1;rw[rega]at hf;obtain ⟨x,hxx⟩:=Qex (l[i]);rw[<- hxx]at hx hb hf;have hlx:l[i]=x:=hxx.symm;have hna:na x=[.int .i64 x.nu,.int .i64 x.dy,.int .u8 x.sg,.int .i64 x.dr,.int .i64 x.lt,.int .i64 x.fr,.int .i64 x.tu,.int .i64 x.ca,.bool x.up,.int .u8 x.wy]:=rfl;refine Z6B rfl λR hG hrd=>?_
 subst hG;unfold Z6z;refine ZcR (S:=⟨[(1,.int .i64 i),(2,.ptr 2 0)],[(2,.box [.vsl (r.map isa),.vsl (l.map na)])]⟩) (Qga ?_) ?_
 . simp -implicitDefEqProofs
   (refine Wkc ?_;simp only[Wkl,and_true];(try simp[lk,Yc,Ya,AV.keys]))
 refine ZcR (S:=⟨[(1,.int .i64 i),(2,.ptr 2 0),(5,.ptr 5 0)],[(2,.box [.vsl (r.map isa),.vsl (l.map na)]),(5,.box (na x))]⟩) (Qga ?_) ?_
 . simp -implicitDefEqProofs[hi,hlx,hna]
   ((try simp only[hna]);refine Ym.sub (by simp[lk,Ya,AV.keys,hna]) ?_;simp only[hna,Wkl,and_true];(try simp[lk,Yc,Ya,AV.keys,hna]))
 have nf:∀ c:Bool,c=false->(c&&noteB r l i)=false:=λc h=>by rw[h];rfl
 refine ZcS (S:=⟨[(1,.int .i64 i),(2,.ptr 2 0),(5,.ptr 5 0)],[(2,.box [.vsl (r.map isa),.vsl (l.map na)]),(5,.box (na x))]⟩) (Q:=cN1 x=true/\cN2 x=true/\cN3 x=true) (Qga ?_) ?_
 . simp -implicitDefEqProofs[hna];refine Qco (ZcT x.nu 1 9999) ?_
   cases h1:inR x.nu 1 9999
   . have e:noteB r l i=false:=(by simp[noteB,hx,cN1,h1]);simp -implicitDefEqProofs[e,Z6A]
   simp -implicitDefEqProofs;refine Qco (ZcT x.dy 0 14610) ?_
   cases h2:inR x.dy 0 14610
   . have e:noteB r l i=false:=(by simp[noteB,hx,cN1,h2]);simp -implicitDefEqProofs[e,Z6A]
   by_cases h3:2<x.sg
   . have e:noteB r l i=false:=by
      have:¬x.sg<=2:=(by omega);simp[noteB,hx,cN2,this]
     simp -implicitDefEqProofs[h3,e,Z6A]
   simp -implicitDefEqProofs[h3];refine Qco (ZcT x.fr 1 x.tu) ?_
   cases h4:inR x.fr 1 x.tu
   . have e:noteB r l i=false:=by
      have h4:=of_decide_eq_false h4
      have:cN3 x=false:=by
       cases q:cN3 x
       . rfl
       . simp only[cN3,inR,W01,W0b]at q;exact absurd ⟨q.1.1.1,q.2⟩ h4
      simp[noteB,hx,this]
     simp -implicitDefEqProofs[e,Z6A]
   by_cases h5:999<x.tu
   . have e:noteB r l i=false:=by
      have:cN3 x=false:=by
       cases q:cN3 x
       . rfl
       . simp only[cN3,inR,W01,W0b]at q;omega
      simp[noteB,hx,this]
     simp -implicitDefEqProofs[h5,e,Z6A]
   by_cases h6:3<x.wy
   . have e:noteB r l i=false:=by
      have:¬x.wy<=3:=(by omega);simp[noteB,hx,cN2,this]
     simp -implicitDefEqProofs[h5,h6,e,Z6A]
   simp -implicitDefEqProofs[h5,h6];refine ⟨?_,?_,?_,?_⟩
   . ((try simp only[hna]);refine Ym.sub (by simp[lk,Ya,AV.keys,hna]) ?_;simp only[hna,Wkl,and_true];(try simp[lk,Yc,Ya,AV.keys,hna]))
   . rw[cN1,h1,h2];rfl
   . have q1:x.sg<=2:=(by omega);have q2:x.wy<=3:=(by omega);simp[cN2,q1,q2]
   . have h4:=W0X h4;simp only[cN3,inR,W01,W0b];omega
 rintro ⟨k1,k2,k3⟩;refine ZcS (S:=⟨[(1,.int .i64 i),(2,.ptr 2 0),(5,.ptr 5 0)],[(2,.box [.vsl (r.map isa),.vsl (l.map na)]),(5,.box (na x))]⟩) (Q:=cN4 r x=true) (Qga ?_) ?_
 . by_cases hz:x.dr=0/\x.lt=0
   . by_cases hc:x.ca=0
     . have e:noteB r l i=false:=(by simp[noteB,hx,cN4,hz,hc]);simp -implicitDefEqProofs[hna,hz.1,hz.2,hc,e,Z6A]
     . simp -implicitDefEqProofs[hna,hz.1,hz.2,hc];refine ⟨?_,by simp[cN4,hz,hc]⟩
       ((try simp only[hna,hz.1,hz.2]);refine Ym.sub (by simp[lk,Ya,AV.keys,hna,hz.1,hz.2]) ?_;simp only[hna,hz.1,hz.2,Wkl,and_true];(try simp[lk,Yc,Ya,AV.keys,hna,hz.1,hz.2]))
   . have e4:cN4 r x=(findN x.dr x.lt r).isSome:=by simp[cN4,hz]
     have hA:∀ b:Bool,b=(decide (x.dr=0)&&decide (x.lt=0))->b=false:=λb e=>by
      rw[e];by_cases q:x.dr=0
      . simp[q,show ¬x.lt=0 from λh=>hz ⟨q,h⟩]
      . simp[q]
     by_cases q:x.dr=0
     case' pos =>
      have q2:¬x.lt=0:=λh=>hz ⟨q,h⟩
      simp -implicitDefEqProofs[hna,q,q2];rw[q]at hf
     case' neg=>simp -implicitDefEqProofs[hna,q]
     all_goals
      refine Qco (hf) ?_
      cases hq:findN x.dr x.lt r with
      | none =>
        have e:noteB r l i=false:=by simp[noteB,hx,e4,hq]
        first
         |simp -implicitDefEqProofs[hq,fndA,noIs,e,Z6A];done
         |(rw[q]at hq;simp -implicitDefEqProofs[hq,fndA,noIs,e,Z6A];done)
      | some y =>
        have ey:isa y=[.int .i64 y.d,.int .i64 y.l,.int .u8 y.k,.vsl (y.its.map ita),.vsl (y.dms.map dma)]:=rfl;have hq4:cN4 r x=true:=by rw[e4,hq];rfl
        first
         |(simp -implicitDefEqProofs[hq,fndA,ey];refine ⟨?_,hq4⟩;((try simp only[hna]);refine Ym.sub (by simp[lk,Ya,AV.keys,hna]) ?_;simp only[hna,Wkl,and_true];(try simp[lk,Yc,Ya,AV.keys,hna]));done)
         |(rw[q]at hq;simp -implicitDefEqProofs[hq,fndA,ey];refine ⟨?_,hq4⟩;((try simp only[hna,q]);refine Ym.sub (by simp[lk,Ya,AV.keys,hna,q]) ?_;simp only[hna,q,Wkl,and_true];(try simp[lk,Yc,Ya,AV.keys,hna,q]));done)
 intro k4;refine ZcS (S:=⟨[(1,.int .i64 i),(2,.ptr 2 0),(5,.ptr 5 0)],[(2,.box [.vsl (r.map isa),.vsl (l.map na)]),(5,.box (na x))]⟩) (Q:=cN5 x=true) (Qga ?_) ?_
 . by_cases q1:x.lt<2
   . have q1':¬2<=x.lt:=by omega
     cases q2:x.up
     . by_cases q3:0<x.wy
       . have e:noteB r l i=false:=by
          have:¬x.wy=0:=(by omega);simp[noteB,hx,cN5,q1',q2,this]
         simp -implicitDefEqProofs[hna,q1,q2,q3,e,Z6A]
       . simp -implicitDefEqProofs[hna,q1,q2,q3];refine ⟨?_,?_⟩
         . ((try simp only[hna,q2]);refine Ym.sub (by simp[lk,Ya,AV.keys,hna,q2]) ?_;simp only[hna,q2,Wkl,and_true];(try simp[lk,Yc,Ya,AV.keys,hna,q2]))
         . have:x.wy=0:=(by omega);simp[cN5,q2,this]
     . have e:noteB r l i=false:=(by simp[noteB,hx,cN5,q1',q2]);simp -implicitDefEqProofs[hna,q1,q2,e,Z6A]
   . have q1':2<=x.lt:=(by omega);simp -implicitDefEqProofs[hna,q1];refine ⟨?_,by simp[cN5,q1']⟩
     ((try simp only[hna]);refine Ym.sub (by simp[lk,Ya,AV.keys,hna]) ?_;simp only[hna,Wkl,and_true];(try simp[lk,Yc,Ya,AV.keys,hna]))
 intro k5;have en:noteB r l i=(cN6 l i x&&cN7 l i x&&cN8 l i x):=(by rw[noteB,hx,k1,k2,k3,k4,k5];rfl);rw[en];refine Qga ?_;simp -implicitDefEqProofs[hna]
 refine Z9H (λk=>⟨[(9,.int .i64 k),(8,.bool (decide (x.ca=0)||(l.take k).any λy=>decide (y.nu=x.ca))),(1,.int .i64 i),(2,.ptr 2 0),(5,.ptr 5 0)],[(2,.box [.vsl (r.map isa),.vsl (l.map na)]),(5,.box (na x))]⟩)
  (λk=>((l.take k).any λy=>decide (y.nu=x.nu))=false) i ?_ (by simp) ?_ ?_
 . ((try simp only[hna,W1g,List.any_nil,Bool.or_false]);refine Ym.sub (by simp[lk,Ya,AV.keys,hna,W1g,List.any_nil,Bool.or_false]) ?_;simp only[hna,W1g,List.any_nil,Bool.or_false,Wkl,and_true];(try simp[lk,Yc,Ya,AV.keys,hna,W1g,List.any_nil,Bool.or_false]))
 . intro k hk hI;refine Qga ?_;have hkl:k<l.length:=(by omega);have wk:i64.wrap ((k:Int)+1)=(k:Int)+1:=Yf;have a1:=ZcO hkl λy=>decide (y.nu=x.nu)
   have a2:=ZcO hkl λy=>decide (y.nu=x.ca)
   have hnk:na l[k]=[.int .i64 l[k].nu,.int .i64 l[k].dy,.int .u8 l[k].sg,.int .i64 l[k].dr,.int .i64 l[k].lt,.int .i64 l[k].fr,.int .i64 l[k].tu,.int .i64 l[k].ca,.bool l[k].up,.int .u8 l[k].wy]:=rfl;by_cases e:l[k].nu=x.nu
   . have h7:cN7 l i x=false:=by
      have:((l.take i).any λy=>decide (y.nu=x.nu))=true:=W14.2 ⟨l[k],by rw[W1Q];exact ⟨k,by omega,rfl⟩,by simp[e]⟩;rw[cN7,this];rfl
     simp -implicitDefEqProofs[hk,hkl,hna,hnk,e];refine Qgr ?_;simp -implicitDefEqProofs[h7,Z6A]
   . have hI2:((l.take (k+1)).any λy=>decide (y.nu=x.nu))=false:=by rw[a1,hI];simp[e]
     cases hB:(decide (x.ca=0)||(l.take k).any λy=>decide (y.nu=x.ca))
     . have hB2:(decide (x.ca=0)||(l.take (k+1)).any λy=>decide (y.nu=x.ca))=decide (l[k].nu=x.ca):=(by rw[a2,<- Bool.or_assoc,hB];simp);simp -implicitDefEqProofs[hk,hkl,hna,hnk,e,hB,wk];refine ⟨?_,by simpa using hI2⟩
       ((try simp only[hna,hB2]);refine Ym.sub (by simp[lk,Ya,AV.keys,hna,hB2]) ?_;simp only[hna,hB2,Wkl,and_true];(try simp[lk,Yc,Ya,AV.keys,hna,hB2]))
     . have hB2:(decide (x.ca=0)||(l.take (k+1)).any λy=>decide (y.nu=x.ca))=true:=(by rw[a2,<- Bool.or_assoc,hB];rfl);simp -implicitDefEqProofs[hk,hkl,hna,hnk,e,hB,wk];refine ⟨?_,by simpa using hI2⟩
       ((try simp only[hna,hB2]);refine Ym.sub (by simp[lk,Ya,AV.keys,hna,hB2]) ?_;simp only[hna,hB2,Wkl,and_true];(try simp[lk,Yc,Ya,AV.keys,hna,hB2]))
 . intro hI;refine Qga ?_;have h7:cN7 l i x=true:=(by rw[cN7,hI];rfl);have h6:(decide (x.ca=0)||(l.take i).any λy=>decide (y.nu=x.ca))=cN6 l i x:=rfl;rw[h6];simp -implicitDefEqProofs[hna];refine Qgr ?_
   cases i with
   |zero=>simp -implicitDefEqProofs[h7,cN8,Z6A]
   | succ k =>
     have hkl:k<l.length:=(by omega);have w1:i64.wrap ((k:Int)+1-1)=(k:Int):=(by rw[Yf (by omega) (by omega)];omega);have w2:i64.wrap (k:Int)=(k:Int):=Yf;have i0:¬(k:Int)+1=0:=(by omega);have ek:=ZcF hkl;have hnk:na l[k]=[.int .i64 l[k].nu,.int .i64 l[k].dy,.int .u8 l[k].sg,.int .i64 l[k].dr,.int .i64 l[k].lt,.int .i64 l[k].fr,.int .i64 l[k].tu,.int .i64 l[k].ca,.bool l[k].up,.int .u8 l[k].wy]:=rfl;have e8:cN8 l (k+1) x=(decide (l[k].dy<x.dy)||(decide (l[k].dy=x.dy)&&decide (l[k].nu<x.nu))):=(by rw[cN8,ek]);rw[e8]
     cases h6:cN6 l (k+1) x
     . simp -implicitDefEqProofs[h7,i0,w1,w2,hkl,hnk,hna,h6,Z6A]
     by_cases q1:l[k].dy<x.dy
     . simp -implicitDefEqProofs[h7,i0,w1,w2,hkl,hnk,hna,q1,h6,Z6A]
     by_cases q2:l[k].dy=x.dy
     . have q1':¬x.dy<x.dy:=(by omega);simp -implicitDefEqProofs[h7,i0,w1,w2,hkl,hnk,hna,q2,h6,Z6A]
     . simp -implicitDefEqProofs[h7,i0,w1,w2,hkl,hnk,hna,q1,q2,h6,Z6A]
def sortI (l:List Int):List Int:=l.mergeSort λa b=>decide (a<=b)
def SrtI (l:List Int):Prop:=l.Pairwise λx y=>x<=y
def ZcW (l:List Int):(sortI l).Perm l:=List.mergeSort_perm l _
def ZcX (l:List Int):SrtI (sortI l):=by
 have:=List.pairwise_mergeSort (le:=λa b:Int=>decide (a<=b)) (λa b c=>by simp;omega) (λa b=>by simp;omega) l;exact this.imp (by simp)
def ZcY {a b:List Int} (p:a.Perm b) (ha:SrtI a) (hb:SrtI b):a=b :=
 List.Perm.eq_of_pairwise (le:=λx y:Int=>x<=y) (λx y _ _ h1 h2=>by omega) ha hb p
def ZcZ {l s:List Int} (p:s.Perm l) (hs:SrtI s):sortI l=s:=ZcY ((ZcW l).trans p.symm) (ZcX l) hs
def Zd0 (l:List Int):(sortI l).length=l.length:=(ZcW l).length_eq
def Zd1 {l:List Int} {x:Int}:x∈sortI l↔x∈l:=(ZcW l).mem_iff
def srtI (l:List Int) (a b:Nat):List Int:=l.take a++(sortI ((l.take b).drop a)++l.drop b)
def Zd2 {l:List Int} {a b:Nat} (h1:a<=b) (h2:b<=a+1):srtI l a b=l:=by
 have e:sortI ((l.take b).drop a)=(l.take b).drop a:=by
  generalize hq:(l.take b).drop a=q;have hl:q.length<=1:=by rw[<- hq];simp;omega
  match q,hl with
  |[],_=>simp[sortI]
  |[x],_=>simp[sortI]
 have e2:l.take a=(l.take b).take a:=(by rw[List.take_take,Nat.min_eq_left h1]);rw[srtI,e,<- W0U,e2,W11,W11]
def mvI (l:List Int) (a i p:Nat):List Int :=
 l.take a++((sortI ((l.take i).drop a)).take p++(l.getD i 0::((sortI ((l.take i).drop a)).drop p++l.drop (i+1))))
def Zd3 {l:List Int} {a i:Nat} (h:i<=l.length):(sortI ((l.take i).drop a)).length=i-a:=by rw[Zd0];simp;omega
def Zd4 {l:List Int} {a i:Nat} (h1:a<=i) (h2:i<l.length):srtI l a i=mvI l a i (i-a):=by
 have e:=Zd3 (l:=l) (a:=a) (i:=i) (by omega);rw[mvI,srtI,W0x h2];generalize sortI ((l.take i).drop a)=s at *;rw[W0J (by omega:s.length<=i-a),W1j (by omega:s.length<=i-a)];simp[W0j,h2]
def Zd5 {l:List Int} {a i p:Nat} (h1:a<=i) (h2:i<l.length) (h3:p<=i-a):(mvI l a i p).length=l.length:=by
 have e:=Zd3 (l:=l) (a:=a) (i:=i) (by omega);simp[mvI,e];omega
def Zd6 {α:Type} (D C:List α) (y x:α) (n:Nat) (h:n=D.length):((D++y::x::C).set (n+1) y).set n x=D++x::y::C:=by
 subst h;rw[W23 _ _ (by omega),W23 _ _ (by omega)];simp
def Zd7 {l:List Int} {a i p:Nat} (h1:a<=i) (h2:i<l.length) (h3:p+1<=i-a) :
  ∃ y,(sortI ((l.take i).drop a))[p]? = some y/\(mvI l a i (p+1))[a+p+1]? = some l[i]/\(mvI l a i (p+1))[a+p]? = some y/\((mvI l a i (p+1)).set (a+p+1) y).set (a+p) l[i]=mvI l a i p/\y∈l:=by
 have e:=Zd3 (l:=l) (a:=a) (i:=i) (by omega);have hm:∀ y∈sortI ((l.take i).drop a),y∈l:=λy hy=>W1r (W1S (Zd1.1 hy))
 unfold mvI;generalize sortI ((l.take i).drop a)=s at *;have hp:p<s.length:=(by omega);have ta:(l.take a).length=a:=(by simp;omega);have e1:s.take (p+1)=s.take p++[s[p]]:=W08 hp;have e2:s.drop p=s[p]::s.drop (p+1):=W0x hp;have e3:l.getD i 0=l[i]:=(by simp[W0j,h2]);have tp:(s.take p).length=p:=(by simp;omega);refine ⟨s[p],by simp[hp],?_,?_,?_,hm _ (W0e hp)⟩
 . rw[e1,e3,W0o (by omega),ta,W0o (by simp;omega)];have:a+p+1-a-(s.take p++[s[p]]).length=0:=(by simp;omega);rw[this];rfl
 . rw[e1,W0o (by omega),ta,W0U,W0o (by omega),tp];have:a+p-a-p=0:=(by omega);rw[this];rfl
 . rw[e1,e2,e3,W0U];have q:=Zd6 (l.take a++s.take p) (s.drop (p+1)++l.drop (i+1)) s[p] l[i] (a+p) (by simp;omega);simp only[W0U,W1e,W18]at q ⊢;exact q
def Zd8 {l:List Int} {a i p:Nat} (h1:a<=i) (h2:i<l.length) (h3:p<=i-a)
  (hd:∀ y∈(sortI ((l.take i).drop a)).drop p,l[i]<y) (hc:∀ q,p=q+1->∀ y,(sortI ((l.take i).drop a))[q]? = some y->¬l[i]<y):mvI l a i p=srtI l a (i+1):=by
 have e:=Zd3 (l:=l) (a:=a) (i:=i) (by omega);have e3:l.getD i 0=l[i]:=by simp[W0j,h2]
 have e4:(l.take (i+1)).drop a=(l.take i).drop a++[l[i]]:=by
  rw[W08 h2,List.drop_append_of_le_length (by simp;omega)]
 have hs:=ZcX ((l.take i).drop a);have hp:=ZcW ((l.take i).drop a);rw[srtI,mvI,e3];rw[ZcZ (l:=(l.take (i+1)).drop a) (s:=(sortI ((l.take i).drop a)).take p++l[i]::(sortI ((l.take i).drop a)).drop p) ]
 . simp[W0U]
 . rw[e4];refine List.perm_middle.trans ?_;rw[W11];exact (List.perm_cons _).2 hp |>.trans (List.perm_append_singleton _ _).symm
 . generalize sortI ((l.take i).drop a)=s at *;have hs2:=hs;unfold SrtI at hs ⊢;rw[<- W11 p s,W27]at hs;obtain ⟨t1,t2,t3⟩:=hs;rw[W27];refine ⟨t1,W1l.2 ⟨λy hy=>by have:=hd y hy;omega,t2⟩,λu hu v hv=>?_⟩;rcases W0g.1 hv with rfl|hv
   . match p,hc,h3 with
     |0,_,_=>simp at hu
     | q + 1,hc,h3 =>
       have hq:q<s.length:=(by omega);have hc2:=hc q rfl s[q] (by simp[hq]);obtain ⟨j,hj,rfl⟩:=W0k hu;rw[W1V];have hjq:j<=q:=(by simp at hj;omega);rcases W0q j q with hl|hg
       . have:=W0Y.1 hs2 j q (by omega) hq hl;omega
       . have:j=q:=(by omega);subst this;omega
   . exact t3 u hu v hv
def insK (f:Nat->Int) (L:List Nat) (x:Nat):List Nat:=(L.takeWhile λy=>decide (f y<=f x))++x::L.dropWhile λy=>decide (f y<=f x)
def opI (l:Jl):Nat->List Nat
 |0=>[]
 |i+1=>if (nAt l i).sg=1 then insK (λj=>(nAt l j).nu) (opI l i) i else opI l i
def Zd9 (f:Nat->Int) (L:List Nat) (x:Nat):(insK f L x).length=L.length+1:=by
 have:=congrArg List.length (W1D (p:=λy=>decide (f y<=f x)) (l:=L));simp only[W0s]at this;simp only[insK,W0s,W1p];omega
def Zda (l:Jl):∀ i,(opI l i).length<=i
 |0=>W0f _
 | i+1=>by
   have:=Zda l i;rw[opI]
   split
   . rw[Zd9];omega
   . omega
def Zdb (f:Nat->Int) (L:List Nat) (x:Nat):(insK f L x).Perm (x::L):=by
 have h:=List.perm_middle (a:=x) (l₁:=L.takeWhile λy=>decide (f y<=f x)) (l₂:=L.dropWhile λy=>decide (f y<=f x));rw[W1D]at h;exact h
def Zdc (l:Jl):∀ i,∀ j∈opI l i,j<i/\(nAt l j).sg=1
 |0,j,h=>by cases h
 | i + 1,j,h=>by
   rw[opI]at h
   split at h
   . rename_i e;rcases W0g.1 ((Zdb _ _ _).mem_iff.1 h) with rfl|h
     . exact ⟨by omega,e⟩
     . have:=Zdc l i j h;exact ⟨by omega,this.2⟩
   . have:=Zdc l i j h;exact ⟨by omega,this.2⟩
def Zdd (l:Jl):∀ i,∀ j,j<i->(nAt l j).sg=1->j∈opI l i
 |0,j,h,_=>by omega
 | i + 1,j,h,e=>by
   rw[opI];rcases W0q j i with h1|h1
   . have:=Zdd l i j h1 e
     split
     . exact (Zdb _ _ _).mem_iff.2 (W0z _ this)
     . exact this
   . obtain rfl:j=i:=(by omega);rw[if_pos e];exact (Zdb _ _ _).mem_iff.2 (W0H)
def Zde {l:Jl} {n:Int}:n∈(opI l l.length).map (λj=>(nAt l j).nu)↔n∈opU l:=by
 unfold opU opN;rw[W0v,W0i,W0i]
 constructor
 . rintro ⟨j,hj,e⟩;obtain ⟨h1,h2⟩:=Zdc l _ j hj;rw[ZcF h1]at e h2;exact ⟨l[j],W0G.2 ⟨W0e h1,by simpa using h2⟩,e⟩
 . rintro ⟨x,hx,e⟩;obtain ⟨h1,h2⟩:=W0G.1 hx;obtain ⟨j,hj,rfl⟩:=W0k h1;have h2:l[j].sg=1:=(by simpa using h2);exact ⟨j,Zdd l _ j hj (by rw[ZcF hj];exact h2),by rw[ZcF hj];exact e⟩
def SrtF (f:Nat->Int) (L:List Nat):Prop:=L.Pairwise λa b=>f a<=f b
def Zdf {f:Nat->Int} {L:List Nat} {x:Nat} (h:SrtF f L):SrtF f (insK f L x):=by
 have ht:=W1D (p:=λy=>decide (f y<=f x)) (l:=L)
 have hd:∀ y∈L.dropWhile (λy=>decide (f y<=f x)),f x<f y:=by
  induction L with
  |nil=>intro y hy;cases hy
  | cons z L ih =>
    intro y hy;rw[List.dropWhile_cons]at hy;unfold SrtF at h;rw[W1l]at h
    split at hy
    . exact ih h.2 W1D y hy
    . rename_i e;have e:¬f z<=f x:=(by simpa using e);rcases W0g.1 hy with rfl|hy
      . omega
      . have:=h.1 y hy;omega
 have htk:∀ y∈L.takeWhile (λy=>decide (f y<=f x)),f y<=f x:=λy hy=>by
  have:=W03.1 (List.all_takeWhile (p:=λy=>decide (f y<=f x)) (l:=L)) y hy;simpa using this
 unfold SrtF at h ⊢;rw[<- ht,W27]at h;unfold insK;rw[W27];refine ⟨h.1,W1l.2 ⟨λy hy=>Int.le_of_lt (hd y hy),h.2.1⟩,λa ha b hb=>?_⟩;rcases W0g.1 hb with rfl|hb
 . exact htk a ha
 . exact h.2.2 a ha b hb
def Zdg (l:Jl):∀ i,SrtF (λj=>(nAt l j).nu) (opI l i)
 |0=>List.Pairwise.nil
 | i+1=>by
   rw[opI]
   split
   . exact Zdf (Zdg l i)
   . exact Zdg l i
def Zdh {f:Nat->Int} {L:List Nat} {x k:Nat} (h:SrtF f L) (hk:k<=L.length) (h1:∀ y∈L.drop k,f x<f y) (h2:∀ q,k=q+1->∀ y,L[q]? = some y->f y<=f x):L.take k++x::L.drop k=insK f L x:=by
 have ha:∀ y∈L.take k,f y<=f x:=λy hy=>by
  obtain ⟨j,hj,rfl⟩:=W0k hy;rw[W1V];have hjk:j<k:=(by simp at hj;omega);obtain ⟨q,rfl⟩ : ∃ q,k=q+1:=⟨k-1,by omega⟩;have hq:q<L.length:=(by omega);have hz:=h2 q rfl L[q] (W07 hq);rcases W0q j q with h3|h3
  . have:=W0Y.1 h j q (by omega) hq h3;omega
  . obtain rfl:j=q:=(by omega);exact hz
 have hL:=W11 k L;unfold insK
 have e1:L.takeWhile (λy=>decide (f y<=f x))=L.take k:=by
  conv=>lhs;rw[<- hL]
  rw[List.takeWhile_append_of_pos (λy hy=>by simpa using ha y hy)]
  have:(L.drop k).takeWhile (λy=>decide (f y<=f x))=[]:=by
   cases hd:L.drop k with
   |nil=>rfl
   | cons z D =>
     have:=h1 z (by rw[hd];exact W0H);rw[List.takeWhile_cons,if_neg (by simp;omega)]
  rw[this,W1G]
 have e2:L.dropWhile (λy=>decide (f y<=f x))=L.drop k:=by
  have h3:=W1D (p:=λy=>decide (f y<=f x)) (l:=L);rw[e1]at h3
  conv at h3=>rhs;rw[<- hL]
  exact List.append_cancel_left h3
 rw[e1,e2]
def Zdi (r:Jr) (l:Jl) (hw:WfN l) (hr:SmlR r):PC prog G 76 [.agg [.vsl (r.map isa),.vsl (l.map na)]] (.bool (ZcI r l)):=by
 (refine Z6E rfl λR hG hrd=>Qga ?_;subst hG)
 by_cases h0:12<l.length
 . have h0':(12:Int)<l.length:=by omega
   have e:ZcI r l=false:=by
    have:¬l.length<=12:=(by omega);simp[ZcI,this]
   simp -implicitDefEqProofs[Z6C,Z6D,h0,h0',e]
 have h0':¬(12:Int)<l.length:=(by omega);simp -implicitDefEqProofs[Z6C,Z6D,h0,h0'];refine Z9H (λi=>⟨[(4,.int .i64 i),(3,.int .i64 ((opN l i).length:Nat)),(1,.ptr 1 0)],[(1,.box [.vsl (r.map isa),.vsl (l.map na)])]⟩) (λi=>∀ j,j<i->noteB r l j=true) l.length (by (first|exact Ym.tm (by simp[lk,opN])|exact Ym.sub (by simp[lk,Ya,AV.keys,opN]) (by simp[lk,Yc,Ya,AV.keys,opN]))) (by simp) ?_ ?_
 . intro i hi he;refine Qga ?_;have wi:i64.wrap ((i:Int)+1)=(i:Int)+1:=Yf;have hn:=ZcV (G:=R.G) r l i hi hw hr;have sc:=ZcG hi;have ol:=ZcH l i;have wo:i64.wrap (((opN l i).length:Int)+1)=((opN l i).length:Int)+1:=Yf;simp -implicitDefEqProofs[hi];refine Qco (hn) ?_
   cases hb:noteB r l i
   . have e:ZcI r l=false:=by
      cases q:ZcI r l
      . rfl
      . simp only[ZcI,W01]at q;have:=Za2.1 q.1.2 i hi;rw[hb]at this;cases this
     simp -implicitDefEqProofs;refine Qgr ?_;simp -implicitDefEqProofs[e]
   . have he2:∀ j,j<i+1->noteB r l j=true:=λj hj=>by
      rcases W0q j i with h1|h1
      . exact he j h1
      . obtain rfl:j=i:=(by omega);exact hb
     by_cases q:l[i].sg=1
     . rw[if_pos q]at sc;simp -implicitDefEqProofs[hi,na,q,wo,wi];refine ⟨?_,he2⟩
       (first|exact Ym.tm (by simp[lk,sc])|exact Ym.sub (by simp[lk,Ya,AV.keys,sc]) (by simp[lk,Yc,Ya,AV.keys,sc]))
     . rw[if_neg q]at sc;simp -implicitDefEqProofs[hi,na,q,wi];refine ⟨?_,he2⟩
       (first|exact Ym.tm (by simp[lk,sc])|exact Ym.sub (by simp[lk,Ya,AV.keys,sc]) (by simp[lk,Yc,Ya,AV.keys,sc]))
 . intro he;refine Qga ?_
   have e:ZcI r l=decide ((opN l l.length).length<=5):=by
    have h1:(List.range l.length).all (noteB r l)=true:=Za2.2 he;have h2:l.length<=12:=(by omega);simp[ZcI,h1,h2]
   have h5:decide (((opN l l.length).length:Int)<=5)=decide ((opN l l.length).length<=5):=decide_eq_decide.2 (by omega);simp -implicitDefEqProofs;refine Qgr ?_;simp -implicitDefEqProofs[e,h5]
def Zdj (r:Jr) (l:Jl) (hw:WfN l) (hr:Wf r):PC prog G 60 [.agg [.vsl (r.map isa),.vsl (l.map na)]] (.int .i64 (chN r l)):=by
 have hc:=Zax (G:=G) r hr;rw[<- Zcr,rega]at hc
 (refine Z6H rfl λR hG hrd=>Qga ?_;subst hG)
 simp -implicitDefEqProofs[Z6F,Z6G];refine Qco (hc) ?_;by_cases h:openV r=0
 . simp -implicitDefEqProofs[h];refine Qco (Zdi r l hw hr.1) ?_
   cases q:ZcI r l <;> simp -implicitDefEqProofs[chN,h,q]
 . simp -implicitDefEqProofs[chN,h]
section
open Qq Tryz
def Zdk:RCode :=
 S [r 0 [b 3 0,b 4 1,n 6 (.bool false)],r 1 [m 7 2,w 8 (.mkf (.func 129) [] [.t 3,.t 4]),c 9 16 [7,8],t 10 9,m 6 10],.ret]
def Zdl:List RRes:=[.t 6]
def Zdm:PCt prog 104 f104 Zdk Zdl:=pcT func104 rfl
def Zdn:RCode :=
 S [r 0 [n 4 (.bool false)],r 1 [m 5 0,l 6 1,o 7 .lss 5 6,m 8 7,g 8 false (m 9 0),g 8 false (l 10 2),g 8 false (o 11 .gtr 9 10),u 12 8 11,m 4 12],.ret]
def Zdo:List RRes:=[.t 4]
def Zdp:PCt prog 129 f129 Zdn Zdo:=pcT func129 rfl
def Zdq:RCode :=
 S [r 0 [b 2 0,n 4 (.bool false)],r 1 [f 5 1 2,l 6 5,m 7 1,i 8 10 6 7,f 9 0 8,l 10 9,w 11 (.bsl false 1 1 [O] [(0,.t 10)]),w 12 (.call 104 [.c I,.c (.int .i64 9999),.t 11]),m 13 12,g 13 true (f 14 1 2),g 13 true (l 15 14),g 13 true (m 16 1),g 13 true (i 17 10 15 16),g 13 true (f 18 1 17),g 13 true (l 19 18),g 13 true (w 20 (.bsl false 1 1 [O] [(0,.t 19)])),g 13 true (w 21 (.call 104 [.c O,.c (.int .i64 14610),.t 20])),v 22 13 21,m 4 22],.ret]
def Zdr:List RRes:=[.t 4]
def Zds:PCt prog 168 f168 Zdq Zdr:=pcT func168 rfl
def Zdt:RCode :=
 S [r 0 [b 2 0,n 4 (.bool false)],r 1 [f 5 1 2,l 6 5,m 7 1,i 8 10 6 7,f 9 2 8,l 10 9,k 11 .leq 10 (.int .u8 2),m 12 11,g 12 true (f 13 1 2),g 12 true (l 14 13),g 12 true (m 15 1),g 12 true (i 16 10 14 15),g 12 true (f 17 9 16),g 12 true (l 18 17),g 12 true (k 19 .leq 18 (.int .u8 3)),v 20 12 19,m 4 20],.ret]
def Zdu:List RRes:=[.t 4]
def Zdv:PCt prog 169 f169 Zdt Zdu:=pcT func169 rfl
def Zdw:RCode :=
 S [r 0 [b 2 0,n 4 (.bool false)],r 1 [f 6 1 2,l 7 6,m 8 1,i 9 10 7 8,L 10 10 9,w 5 (.alloc [O,O,.int .u8 0,O,O,O,O,O,.bool false,.int .u8 0]),s 10 5 10],r 2 [f 11 5 5,l 12 11,f 13 6 5,l 14 13,w 15 (.bsl false 1 2 [O,O] [(0,.t 12),(1,.t 14)]),w 16 (.call 104 [.c I,.c (.int .i64 999),.t 15]),m 17 16,g 17 true (f 18 5 5),g 17 true (l 19 18),g 17 true (f 20 6 5),g 17 true (l 21 20),g 17 true (o 22 .leq 19 21),v 23 17 22,m 4 23],.ret]
def Zdx:List RRes:=[.t 4]
def Zdy:PCt prog 170 f170 Zdw Zdx:=pcT func170 rfl
def Zdz:RCode :=
 S [r 0 [b 2 0,n 4 (.bool false)],r 1 [f 8 1 2,l 9 8,m 10 1,i 11 10 9 10,L 12 10 11,w 5 (.alloc [O,O,.int .u8 0,O,O,O,O,O,.bool false,.int .u8 0]),s 10 5 12],S [r 2 [w 13 (.build [O,O] []),f 14 3 5,l 15 14,f 16 4 5,l 17 16,w 18 (.build [O,O] [(0,1,.t 15),(1,1,.t 17)]),w 19 (.eqs false [.i,.i] (.t 13) (.t 18))],K 19 3 [f 20 7 5,l 21 20,k 22 .neq 21 O,m 4 22]],r 4 [f 24 0 2,L 25 1 24,f 26 3 5,l 27 26,f 28 4 5,l 29 28,w 30 (.build [O,O] [(0,1,.t 27),(1,1,.t 29)]),c 31 172 [25,30],m 23 31,x 32 0 23,x 33 1 23,w 6 (.alloc [O,O,.int .u8 0,.nils,.nils]),s 5 6 32,m 7 33],r 5 [m 34 7,k 35 .eql 34 O,m 4 35],.ret]
def ZdA:List RRes:=[.t 4]
def ZdB:PCt prog 171 f171 Zdz ZdA:=pcT func171 rfl
def ZdC:RCode :=
 S [r 0 [b 2 0,n 4 (.bool false)],r 1 [f 6 1 2,l 7 6,m 8 1,i 9 10 7 8,L 10 10 9,w 5 (.alloc [O,O,.int .u8 0,O,O,O,O,O,.bool false,.int .u8 0]),s 10 5 10],r 2 [f 11 4 5,l 12 11,k 13 .geq 12 (.int .i64 2),m 14 13,g 14 false (f 15 8 5),g 14 false (l 16 15),g 14 false (t 17 16),g 14 false (m 18 17),g 18 true (f 19 9 5),g 18 true (l 20 19),g 18 true (k 21 .eql 20 (.int .u8 0)),g 14 false (v 22 18 21),u 23 14 22,m 4 23],.ret]
def ZdD:List RRes:=[.t 4]
def ZdE:PCt prog 173 f173 ZdC ZdD:=pcT func173 rfl
def ZdF:RCode :=
 S [r 0 [b 2 0,n 4 (.bool false)],r 1 [f 6 1 2,l 7 6,m 8 1,i 9 10 7 8,L 10 10 9,w 5 (.alloc [O,O,.int .u8 0,O,O,O,O,O,.bool false,.int .u8 0]),s 10 5 10],r 2 [f 11 7 5,l 12 11,k 13 .eql 12 O,m 14 13,g 14 false (f 15 1 2),g 14 false (l 16 15),g 14 false (m 17 1),g 14 false (w 18 (.slc 10 (.t 16) none (some (.t 17)))),g 14 false (w 19 (.mkf (.func 176) [] [.t 5])),g 14 false (c 20 175 [18,19]),u 21 14 20,m 4 21],.ret]
def ZdG:List RRes:=[.t 4]
def ZdH:PCt prog 174 f174 ZdF ZdG:=pcT func174 rfl
def ZdI:RCode :=
 S [r 0 [b 2 0,n 3 (.bool false)],r 1 [f 4 0 2,l 5 4,f 6 7 1,l 7 6,o 8 .eql 5 7,m 3 8],.ret]
def ZdJ:List RRes:=[.t 3]
def ZdK:PCt prog 176 f176 ZdI ZdJ:=pcT func176 rfl
def ZdL:RCode :=
 S [r 0 [b 2 0,b 3 1,n 4 (.bool false)],r 1 [f 5 1 2,l 6 5,l 7 3,w 8 (.slc 10 (.t 6) none (some (.t 7))),w 9 (.mkf (.func 178) [] [.t 2,.t 3]),c 10 175 [8,9],t 11 10,m 4 11],.ret]
def ZdM:List RRes:=[.t 4]
def ZdN:PCt prog 177 f177 ZdL ZdM:=pcT func177 rfl
def ZdO:RCode :=
 S [r 0 [b 3 0,n 4 (.bool false)],R 1 [f 5 0 3,a [0] (l 6 5),f 7 1 1,a [2] (l 8 7),l 9 2,a [3,4] (i 10 10 8 9),a [5] (f 11 0 10),a [6] (l 12 11),a [1,7] (o 13 .eql 6 12),a [8,0,1,2,3,4,5,6,7,8] (m 4 13)],.ret]
def ZdP:List RRes:=[.t 4]
def ZdQ:PCt prog 178 f178 ZdO ZdP:=pcT func178 rfl
def ZdR:RCode :=
 S [r 0 [b 2 0,n 4 (.bool false)],R 1 [m 5 1,a [0] (k 6 .eql 5 O),a [1] (m 7 6),a [2] (g 7 false (f 8 1 2)),a [3,2] (g 7 false (l 9 8)),a [2] (g 7 false (m 10 1)),a [5,2] (g 7 false (k 11 .sub 10 I)),a [4,6,2] (g 7 false (i 12 10 9 11)),a [7,2] (g 7 false (f 13 1 12)),a [8,2] (g 7 false (l 14 13)),a [2] (g 7 false (f 15 1 2)),a [10,2] (g 7 false (l 16 15)),a [2] (g 7 false (m 17 1)),a [11,12,2] (g 7 false (i 18 10 16 17)),a [13,2] (g 7 false (f 19 1 18)),a [14,2] (g 7 false (l 20 19)),a [9,15,2,2] (g 7 false (c 21 31 [14,20])),a [2] (g 7 false (f 22 1 2)),a [17,2] (g 7 false (l 23 22)),a [2] (g 7 false (m 24 1)),a [19,2] (g 7 false (k 25 .sub 24 I)),a [18,20,2] (g 7 false (i 26 10 23 25)),a [21,2] (g 7 false (f 27 0 26)),a [22,2] (g 7 false (l 28 27)),a [2] (g 7 false (f 29 1 2)),a [24,2] (g 7 false (l 30 29)),a [2] (g 7 false (m 31 1)),a [25,26,2] (g 7 false (i 32 10 30 31)),a [27,2] (g 7 false (f 33 0 32)),a [28,2] (g 7 false (l 34 33)),a [23,29,16,2] (g 7 false (c 35 31 [28,34])),a [16,30,2] (g 7 false (w 36 (.bsl false 1 2 [O,O] [(0,.t 21),(1,.t 35)]))),a [31,30,2] (g 7 false (c 37 180 [36])),a [32,2] (g 7 false (k 38 .lss 37 O)),a [2,33] (u 39 7 38),a [34,32,0,1,2,3,4,5,6,7,8,9,10,11,12,13,14,15,16,17,18,19,20,21,22,23,24,25,26,27,28,29,30,31,32,33,34] (m 4 39)],.ret]
def ZdS:List RRes:=[.t 4]
def ZdT:PCt prog 179 f179 ZdR ZdS:=pcT func179 rfl
def ZdU:RCode :=
 S [r 0 [b 1 0,n 2 .nilp,n 3 O],.scope (S [r 1 [f 13 0 1,L 14 1 13,c 15 55 [14],m 12 15,x 16 0 12,x 17 1 12,m 4 16,m 5 17],S [r 2 [m 18 5,k 19 .neq 18 O],K 19 3 [m 20 5,n 2 .nilp,m 3 20]],S [r 4 [f 21 1 1,l 22 21,e 23 22,k 24 .gtr 23 (.int .i64 12)],K 24 5 [n 2 .nilp,n 3 (.int .i64 30)]],r 6 [L 25 2 1,m 26 4,w 27 (.build [.nils,.nils,.nils,.nils] [(0,2,.t 25),(2,1,.t 26)]),b 28 27,m 6 28],r 7 [n 7 (.bool false)],(.label 0),S [r 8 [f 29 1 1,l 30 29,e 31 30,n 32 O],.block 0 (.loop (S [r 9 [o 33 .lss 32 31],.cond (.t 33) .skip (.exit 0),.block 1 (S [r 10 [m 34 32,i 35 10 30 32,L 36 10 35,w 9 (.alloc [O,O,.int .u8 0,O,O,O,O,O,.bool false,.int .u8 0]),m 8 34,s 10 9 36],S [r 11 [w 37 (.load true 8 (.g 1)),n 38 O],.block 2 (.loop (S [r 12 [k 39 .lss 38 (.int .i64 8)],.cond (.t 39) .skip (.exit 2),.block 3 (S [r 13 [w 40 (.vop (.aidx true 8 1) [(.t 37),(.t 38)]),w 11 (.alloc [.nilf]),s 1 11 40],r 14 [f 41 0 11,l 42 41,L 43 2 1,m 44 8,w 45 (.callv (.t 42) [.t 43,.t 44]),t 46 45],.cond (.t 46) (S [r 15 [n 7 (.bool true)],.exit 0]) .skip]),r 16 [k 47 .add 38 I,m 38 47]]))],r 17 [f 48 2 9,l 49 48,k 50 .eql 49 (.int .u8 1)],.cond (.t 50) (R 18 [m 51 6,m 52 6,a [1] (w 53 (.nilck (.t 52))),a [2] (f 54 3 53),a [3] (l 55 54),f 56 0 9,a [5] (l 57 56),a [6] (w 58 (.bsl false 1 1 [O] [(0,.t 57)])),a [4,7] (w 59 (.app 1 8 (.t 55) (.t 58))),a [0,0,1,2,3,4,5,6,7,8] (w 60 (.nilck (.t 51))),a [9,0,1,2,3,4,5,6,7,8] (f 61 3 60),a [10,8,8,0,1,2,3,4,5,6,7,8] (s 1 61 59)]) .skip]),r 19 [k 62 .add 32 I,m 32 62]]))],S [r 20 [m 63 7,m 64 63,g 64 false (m 65 6),g 64 false (w 66 (.nilck (.t 65))),g 64 false (f 67 3 66),g 64 false (l 68 67),g 64 false (e 69 68),g 64 false (k 70 .gtr 69 (.int .i64 5)),u 71 64 70],K 71 21 [n 2 .nilp,n 3 (.int .i64 30)]],r 22 [m 72 6,w 73 (.nilck (.t 72)),f 74 3 73,l 75 74,c 76 68 [75]],r 23 [m 77 6,m 2 77,n 3 O],.ret])]
def ZdV:List RRes:=[.t 2,.t 3]
def ZdW:PCt prog 72 f72 ZdU ZdV:=pcT func72 rfl
def ZdX:RCode :=
 S [r 0 [b 1 0,n 2 O],r 1 [L 6 2 1,c 7 72 [6],m 5 7,x 8 0 5,x 9 1 5,m 3 8,m 4 9],r 2 [m 10 4,m 2 10],.ret]
def ZdY:List RRes:=[.t 2]
def ZdZ:PCt prog 54 f54 ZdX ZdY:=pcT func54 rfl
def Ze0:RCode :=
 S [r 0 [n 4 O],r 1 [w 10 (.mkmap),m 5 10],S [r 2 [m 11 0,w 12 (.nilck (.t 11)),f 13 3 12,l 14 13,e 15 14,n 16 O],.block 0 (.loop (S [r 3 [o 17 .lss 16 15],.cond (.t 17) .skip (.exit 0),.block 1 (S [r 4 [i 18 1 14 16,l 19 18,m 7 19],r 5 [m 20 5,m 21 7,z (.mupd (.i .i64) (.t 20) (.t 21) (.c (.bool true)))]]),r 6 [k 22 .add 16 I,m 16 22]]))],S [r 7 [m 23 1,e 24 23,n 25 O],.block 2 (.loop (S [r 8 [o 26 .lss 25 24],.cond (.t 26) .skip (.exit 2),.block 3 (S [r 9 [m 27 25,i 28 1 23 25,l 29 28,m 8 27,m 9 29],S [r 10 [m 30 5,m 31 9,w 32 (.look (.i .i64) (.bool false) false (.t 30) (.t 31)),t 33 32,m 34 33,g 34 false (m 35 8),g 34 false (k 36 .gtr 35 O),g 34 false (m 37 36),g 37 true (m 38 1),g 37 true (m 39 8),g 37 true (k 40 .sub 39 I),g 37 true (i 41 1 38 40),g 37 true (l 42 41),g 37 true (m 43 9),g 37 true (o 44 .gtr 42 43),g 34 false (v 45 37 44),u 46 34 45],K 46 11 [n 4 (.int .i64 31)]],r 12 [m 47 5,m 48 9,z (.mdel (.i .i64) (.t 47) (.t 48))]]),r 13 [k 49 .add 25 I,m 25 49]]))],r 14 [n 4 O],.ret]
def Ze1:List RRes:=[.t 4]
def Ze2:PCt prog 128 f128 Ze0 Ze1:=pcT func128 rfl
def Ze3:RCode :=
 S [r 0 [b 3 0,n 6 .nilp,n 7 O],r 1 [L 12 2 3,c 13 72 [12],m 11 13,x 14 0 11,x 15 1 11,m 8 14,m 9 15],S [r 2 [m 16 9,k 17 .neq 16 O],K 17 3 [m 18 9,n 6 .nilp,m 7 18]],S [r 4 [m 19 8,m 20 1,c 21 128 [19,20],m 10 21],r 5 [m 22 10,k 23 .neq 22 O],K 23 6 [m 24 10,n 6 .nilp,m 7 24]],S [r 7 [m 25 2,w 26 (.bsl false 1 1 [O] [(0,.t 25)]),w 27 (.call 104 [.c I,.c (.int .i64 999),.t 26]),t 28 27],K 28 8 [n 6 .nilp,n 7 (.int .i64 2)]],r 9 [m 29 8,m 6 29,n 7 O],.ret]
def Ze4:List RRes:=[.t 6,.t 7]
def Ze5:PCt prog 100 f100 Ze3 Ze4:=pcT func100 rfl
def Ze6:RCode :=
 S [r 0 [b 4 0,b 5 1,b 6 2,b 7 3,n 8 .nilf],r 1 [w 11 (.mkmap),w 9 (.alloc [.nilm]),s 1 9 11],r 2 [w 10 (.alloc [.nilf])],r 3 [w 12 (.mkf (.func 103) [] [.t 9,.t 4,.t 5,.t 6,.t 7,.t 10]),s 1 10 12],r 4 [l 13 10,m 8 13],.ret]
def Ze7:List RRes:=[.t 8]
def Ze8:RCode :=
 S [r 0 [n 8 (.bool false)],S [r 1 [l 15 1,m 16 0,w 17 (.look (.i .i64) (.bool false) true (.t 15) (.t 16)),m 14 17,x 18 0 14,x 19 1 14,m 9 18,m 10 19],r 2 [m 20 10],K 20 3 [m 21 9,m 8 21]],r 4 [l 22 2,w 23 (.nilck (.t 22)),f 24 0 23,f 25 1 24,l 26 25,m 27 0,i 28 10 26 27,L 29 10 28,w 11 (.alloc [O,O,.int .u8 0,O,O,O,O,O,.bool false,.int .u8 0]),s 10 11 29],r 5 [f 30 2 11,l 31 30,k 32 .eql 31 (.int .u8 2),m 33 32,g 33 false (l 34 3),g 33 false (f 35 0 11),g 33 false (l 36 35),g 33 false (c 37 18 [34,36]),u 38 33 37,m 39 38,g 39 true (l 40 4),g 39 true (f 41 0 11),g 39 true (l 42 41),g 39 true (c 43 18 [40,42]),g 39 true (t 44 43),v 45 39 44,m 46 45,g 46 true (f 47 5 11),g 46 true (l 48 47),g 46 true (f 49 6 11),g 46 true (l 50 49),g 46 true (l 51 5),g 46 true (w 52 (.bsl false 1 1 [O] [(0,.t 51)])),g 46 true (c 53 104 [48,50,52]),v 54 46 53,m 12 54],S [r 6 [m 55 0,k 56 .add 55 I,m 13 56],.block 0 (.loop (S [S [r 7 [m 57 12,m 58 57,g 58 true (m 59 13),g 58 true (l 60 2),g 58 true (w 61 (.nilck (.t 60))),g 58 true (f 62 0 61),g 58 true (f 63 1 62),g 58 true (l 64 63),g 58 true (e 65 64),g 58 true (o 66 .lss 59 65),v 67 58 66],.cond (.t 67) .skip (.exit 0)],.block 1 (R 9 [l 70 2,a [0] (w 71 (.nilck (.t 70))),a [1] (f 72 0 71),a [2] (f 73 1 72),a [3] (l 74 73),m 75 13,a [4,5] (i 76 10 74 75),a [6] (f 77 7 76),a [7] (l 78 77),f 79 0 11,a [9] (l 80 79),a [8,10] (o 81 .neq 78 80),a [11] (m 82 81),a [12] (g 82 false (l 83 6)),a [12] (g 82 false (m 84 13)),a [13,14,12,12] (g 82 false (w 85 (.callv (.t 83) [.t 84]))),a [15,12] (g 82 false (t 86 85)),a [12,16] (u 87 82 86),a [17,15,0,1,2,3,4,5,6,7,8,9,10,11,12,13,14,15,16,17] (m 12 87)]),r 8 [m 68 13,k 69 .add 68 I,m 13 69]]))],r 10 [l 88 1,m 89 0,m 90 12,z (.mupd (.i .i64) (.t 88) (.t 89) (.t 90))],r 11 [m 91 12,m 8 91],.ret]
def Ze9:List RRes:=[.t 8]
def Zea {G:Jg} {objs objs':List (Nat×AObj)} {args:List AV} {v:AV} (hn:args.length<=f103.ntmps) (h:∀ R:Run,R.G=G->R.Top->AR prog R Ze8 ⟨iniT 0 args,objs⟩ (FinB Ze9 v objs')):PB prog G 103 objs args v objs' :=
 PB_of func103 rfl (by kernel_rfl) (rc:=Ze8) (by kernel_rfl) (rs:=Ze9) (by kernel_rfl) hn (λR _ hG hr=>h R hG hr)
def Zeb:RCode :=
 S [r 0 [n 4 (.bool false)],r 1 [m 5 0,m 6 1,c 7 183 [5,6],k 8 .geq 7 O,m 4 8],.ret]
def Zec:List RRes:=[.t 4]
def Zed:PCt prog 175 f175 Zeb Zec:=pcT func175 rfl
def Zee:RCode :=
 S [r 0 [n 4 O],S [r 1 [m 6 0,e 7 6,n 8 O],.block 0 (.loop (S [r 2 [o 9 .lss 8 7],.cond (.t 9) .skip (.exit 0),.block 1 (S [r 3 [m 10 8,m 5 10],r 4 [m 11 1,m 12 0,m 13 5,i 14 10 12 13,L 15 10 14,w 16 (.callv (.t 11) [.t 15])],K 16 5 [m 17 5,m 4 17]]),r 6 [k 18 .add 8 I,m 8 18]]))],r 7 [n 4 (.int .i64 (-1))],.ret]
def Zef:List RRes:=[.t 4]
def Zeg:PCt prog 183 f183 Zee Zef:=pcT func183 rfl
def Zeh:RCode :=
 S [r 0 [n 4 (.bool false)],r 1 [m 5 0,m 6 1,c 7 43 [5,6],k 8 .geq 7 O,m 4 8],.ret]
def Zei:List RRes:=[.t 4]
def Zej:PCt prog 18 f18 Zeh Zei:=pcT func18 rfl
def Zek:RCode :=
 S [r 0 [n 4 O],S [r 1 [m 6 0,e 7 6,n 8 O],.block 0 (.loop (S [r 2 [o 9 .lss 8 7],.cond (.t 9) .skip (.exit 0),.block 1 (S [r 3 [m 10 8,m 5 10],r 4 [m 11 1,m 12 0,m 13 5,i 14 1 12 13,l 15 14,o 16 .eql 11 15],K 16 5 [m 17 5,m 4 17]]),r 6 [k 18 .add 8 I,m 8 18]]))],r 7 [n 4 (.int .i64 (-1))],.ret]
def Zel:List RRes:=[.t 4]
def Zem:PCt prog 43 f43 Zek Zel:=pcT func43 rfl
def Zen:RCode :=
 S [r 0 [m 3 0,e 4 3,m 2 4],r 1 [m 5 0,m 6 2,m 7 2,w 8 (.conv .u64 (.t 7)),c 9 84 [8],w 10 (.call 83 [.t 5,.c O,.t 6,.t 9])]]
def Zeo:List RRes:=[]
def Zep:PCt prog 68 f68 Zen Zeo:=pcT func68 rfl
def Zeq {G:Jg} {objs objs':List (Nat×AObj)} {args:List AV} {v:AV} (hn:args.length<=f68.ntmps) (h:∀ R:Run,R.G=G->R.Top->AR prog R Zen ⟨iniT 0 args,objs⟩ (FinB Zeo v objs')):PB prog G 68 objs args v objs' :=
 PB_of func68 rfl (by kernel_rfl) (rc:=Zen) (by kernel_rfl) (rs:=Zeo) (by kernel_rfl) hn (λR _ hG hr=>h R hG hr)
def Zer:RCode :=
 S [r 0 [n 8 (.bool true)],r 1 [n 9 (.bool true)],.block 0 (.loop (.block 1 (S [r 2 [m 19 2,m 20 1,o 21 .sub 19 20,m 10 21],S [r 3 [m 22 10,k 23 .leq 22 (.int .i64 12)],K 23 4 [m 24 0,m 25 1,m 26 2,c 27 105 [24,25,26]]],S [r 5 [m 28 3,k 29 .eql 28 O],K 29 6 [m 30 0,m 31 1,m 32 2,c 33 106 [30,31,32]]],S [r 7 [m 34 8,t 35 34],.cond (.t 35) (S [r 8 [m 36 0,m 37 1,m 38 2,c 39 107 [36,37,38]],r 9 [m 40 3,k 41 .sub 40 I,m 3 41]]) .skip],r 10 [m 43 0,m 44 1,m 45 2,c 46 108 [43,44,45],m 42 46,x 47 0 42,x 48 1 42,m 11 47,m 12 48],S [r 11 [m 49 12,k 50 .eql 49 (.int .i64 2)],.cond (.t 50) (S [r 12 [m 51 0,m 52 1,m 53 2,c 54 109 [51,52,53]],r 13 [m 55 2,k 56 .sub 55 I,m 57 11,m 58 1,o 59 .sub 57 58,o 60 .sub 56 59,m 11 60],r 14 [n 12 I]]) .skip],S [r 15 [m 61 8,m 62 61,g 62 true (m 63 9),v 64 62 63,m 65 64,g 65 true (m 66 12),g 65 true (k 67 .eql 66 I),v 68 65 67],.cond (.t 68) (S [r 16 [m 69 0,m 70 1,m 71 2,c 72 110 [69,70,71]],.cond (.t 72) .ret .skip]) .skip],S [R 17 [m 73 1,a [0] (k 74 .gtr 73 O),a [1] (m 75 74),a [2] (g 75 true (m 76 0)),a [2] (g 75 true (m 77 1)),a [4,2] (g 75 true (k 78 .sub 77 I)),a [3,5,2] (g 75 true (i 79 1 76 78)),a [6,2] (g 75 true (l 80 79)),a [2] (g 75 true (m 81 0)),a [2] (g 75 true (m 82 11)),a [8,9,2] (g 75 true (i 83 1 81 82)),a [10,2] (g 75 true (l 84 83)),a [7,11,2,2] (g 75 true (c 85 111 [80,84])),a [12,2] (g 75 true (t 86 85)),a [2,13] (v 87 75 86)],.cond (.t 87) (S [r 18 [m 88 0,m 89 1,m 90 2,m 91 11,c 92 112 [88,89,90,91],m 13 92],r 19 [m 93 13,m 1 93],.exit 1]) .skip],r 20 [m 95 0,m 96 1,m 97 2,m 98 11,c 99 113 [95,96,97,98],m 94 99,x 100 0 94,x 101 1 94,m 14 100,m 15 101],r 21 [m 102 15,m 9 102],r 22 [m 103 14,m 104 1,o 105 .sub 103 104,m 106 2,m 107 14,o 108 .sub 106 107,m 16 105,m 17 108],r 23 [m 109 10,k 110 .quo 109 (.int .i64 8),m 18 110],r 24 [m 111 16,m 112 17,o 113 .lss 111 112],.cond (.t 113) (S [r 25 [m 114 16,m 115 18,o 116 .geq 114 115,m 8 116],r 26 [m 117 0,m 118 1,m 119 14,m 120 3,c 121 83 [117,118,119,120]],r 27 [m 122 14,k 123 .add 122 I,m 1 123]]) (S [r 28 [m 124 17,m 125 18,o 126 .geq 124 125,m 8 126],r 29 [m 127 0,m 128 14,k 129 .add 128 I,m 130 2,m 131 3,c 132 83 [127,129,130,131]],r 30 [m 133 14,m 2 133]])])))]
def Zes:List RRes:=[]
def Zet:PCt prog 83 f83 Zer Zes:=pcT func83 rfl
def Zeu {G:Jg} {objs objs':List (Nat×AObj)} {args:List AV} {v:AV} (hn:args.length<=f83.ntmps) (h:∀ R:Run,R.G=G->R.Top->AR prog R Zer ⟨iniT 0 args,objs⟩ (FinB Zes v objs')):PB prog G 83 objs args v objs' :=
 PB_of func83 rfl (by kernel_rfl) (rc:=Zer) (by kernel_rfl) (rs:=Zes) (by kernel_rfl) hn (λR _ hG hr=>h R hG hr)
def Zev:RCode :=
 S [r 0 [m 8 1,k 9 .add 8 I,m 6 9],.block 0 (.loop (S [S [r 1 [m 10 6,m 11 2,o 12 .lss 10 11],.cond (.t 12) .skip (.exit 0)],.block 1 (S [r 3 [m 15 6,m 7 15],.block 2 (.loop (S [S [R 4 [m 16 7,m 17 1,a [0,1] (o 18 .gtr 16 17),a [2] (m 19 18),a [3] (g 19 true (m 20 0)),a [3] (g 19 true (m 21 7)),a [4,5,3] (g 19 true (i 22 1 20 21)),a [6,3] (g 19 true (l 23 22)),a [3] (g 19 true (m 24 0)),a [3] (g 19 true (m 25 7)),a [9,3] (g 19 true (k 26 .sub 25 I)),a [8,10,3] (g 19 true (i 27 1 24 26)),a [11,3] (g 19 true (l 28 27)),a [7,12,3,3] (g 19 true (c 29 111 [23,28])),a [3,13] (v 30 19 29)],.cond (.t 30) .skip (.exit 2)],.block 3 (R 6 [m 33 0,m 34 7,m 35 0,m 36 7,a [3] (k 37 .sub 36 I),m 38 0,m 39 7,a [6] (k 40 .sub 39 I),a [5,7] (i 41 1 38 40),a [8] (l 42 41),m 43 0,m 44 7,a [10,11] (i 45 1 43 44),a [12] (l 46 45),a [0,1,0,1,5,6,7,8,9,13] (i 47 1 33 34),a [14,9,0,1,5,6,7,8,9,13] (s 1 47 42),a [2,4,0,1,2,3,4,5,6,7,8,9,10,11,12,13,14,15] (i 48 1 35 37),a [16,13,15,0,1,2,3,4,5,6,7,8,9,10,11,12,13,14,15] (s 1 48 46)]),r 5 [m 31 7,k 32 .sub 31 I,m 7 32]]))]),r 2 [m 13 6,k 14 .add 13 I,m 6 14]]))]
def Zew:List RRes:=[]
def Zex:PCt prog 105 f105 Zev Zew:=pcT func105 rfl
def Zey {G:Jg} {objs objs':List (Nat×AObj)} {args:List AV} {v:AV} (hn:args.length<=f105.ntmps) (h:∀ R:Run,R.G=G->R.Top->AR prog R Zev ⟨iniT 0 args,objs⟩ (FinB Zew v objs')):PB prog G 105 objs args v objs' :=
 PB_of func105 rfl (by kernel_rfl) (rc:=Zev) (by kernel_rfl) (rs:=Zew) (by kernel_rfl) hn (λR _ hG hr=>h R hG hr)
def Zez:RCode :=
 S [r 0 [n 2 O],r 1 [n 3 O],S [r 2 [m 6 0,e 7 6,n 8 O],.block 0 (.loop (S [r 3 [o 9 .lss 8 7],.cond (.t 9) .skip (.exit 0),.block 1 (S [r 4 [i 10 1 6 8,l 11 10,m 5 11],r 5 [m 12 5,m 13 3,o 14 .neq 12 13],K 14 6 [m 15 5,m 2 15]]),r 7 [k 16 .add 8 I,m 8 16]]))],r 8 [m 17 3,m 2 17],.ret]
def ZeA:List RRes:=[.t 2]
def ZeB:PCt prog 180 f180 Zez ZeA:=pcT func180 rfl
def ZeC:RCode :=
 S [r 0 [n 2 O],.cond (.c (.bool false)) (S [r 1 [m 3 0,w 4 (.conv .u32 (.t 3)),c 5 114 [4],m 2 5],.ret]) .skip,r 2 [m 6 0,c 7 115 [6],m 2 7],.ret]
def ZeD:List RRes:=[.t 2]
def ZeE:PCt prog 84 f84 ZeC ZeD:=pcT func84 rfl
def ZeF:RCode :=
 S [r 0 [n 2 O],S [r 1 [m 3 0,k 4 .geq 3 (.int .u64 4294967296)],.cond (.t 4) (S [r 2 [m 5 0,w 6 (.vop (.sh false) [(.t 5),(.c (.int .u64 32))]),m 0 6],r 3 [n 2 (.int .i64 32)]]) .skip],S [r 4 [m 7 0,k 8 .geq 7 (.int .u64 65536)],.cond (.t 8) (S [r 5 [m 9 0,w 10 (.vop (.sh false) [(.t 9),(.c (.int .u64 16))]),m 0 10],r 6 [m 11 2,k 12 .add 11 (.int .i64 16),m 2 12]]) .skip],S [r 7 [m 13 0,k 14 .geq 13 (.int .u64 256)],.cond (.t 14) (S [r 8 [m 15 0,w 16 (.vop (.sh false) [(.t 15),(.c (.int .u64 8))]),m 0 16],r 9 [m 17 2,k 18 .add 17 (.int .i64 8),m 2 18]]) .skip],r 10 [m 19 2,m 20 0,w 21 (.conv .u8 (.t 20)),w 22 (.vop .sidx [(.c (.str ⟨#[0,1,2,2,3,3,3,3,4,4,4,4,4,4,4,4,5,5,5,5,5,5,5,5,5,5,5,5,5,5,5,5,6,6,6,6,6,6,6,6,6,6,6,6,6,6,6,6,6,6,6,6,6,6,6,6,6,6,6,6,6,6,6,6,7,7,7,7,7,7,7,7,7,7,7,7,7,7,7,7,7,7,7,7,7,7,7,7,7,7,7,7,7,7,7,7,7,7,7,7,7,7,7,7,7,7,7,7,7,7,7,7,7,7,7,7,7,7,7,7,7,7,7,7,7,7,7,7,8,8,8,8,8,8,8,8,8,8,8,8,8,8,8,8,8,8,8,8,8,8,8,8,8,8,8,8,8,8,8,8,8,8,8,8,8,8,8,8,8,8,8,8,8,8,8,8,8,8,8,8,8,8,8,8,8,8,8,8,8,8,8,8,8,8,8,8,8,8,8,8,8,8,8,8,8,8,8,8,8,8,8,8,8,8,8,8,8,8,8,8,8,8,8,8,8,8,8,8,8,8,8,8,8,8,8,8,8,8,8,8,8,8,8,8,8,8,8,8,8,8,8,8,8,8,8,8]⟩)),(.t 21)]),w 23 (.conv .i64 (.t 22)),o 24 .add 19 23,m 2 24],.ret]
def ZeG:List RRes:=[.t 2]
def ZeH:PCt prog 115 f115 ZeF ZeG:=pcT func115 rfl
end
def ZeI (l:Jr):(l.map isa).all (λr=>r.all AV.pure)=true:=by simp[isa,AV.pure]
def ZeJ (x:Iss) (h1:Sml x.its) (h2:Sml x.dms):PC prog G 182 [.agg (isa x)] (.agg (isa x)):=by
 have p1:(x.its.map ita).all (λr=>r.all AV.pure)=true:=(by simp[ita,AV.pure]);have p2:(x.dms.map dma).all (λr=>r.all AV.pure)=true:=by simp[dma,AV.pure]
 (refine Z8A rfl λR hG hrd=>Qga ?_;subst hG)
 by_cases e1:x.its=[] <;> by_cases e2:x.dms=[]
 . simp -implicitDefEqProofs[Z8y,Z8z,isa,e1,e2];refine Z2U.of ZbR (by simp) ?_;simp -implicitDefEqProofs;refine Z2U.of ZbS (by simp) ?_;simp -implicitDefEqProofs;exact rfl
 . simp -implicitDefEqProofs[Z8y,Z8z,isa,e1];refine Z2U.of ZbR (by simp) ?_;simp -implicitDefEqProofs;refine Z2U.new (ZbQ _ e2 h2) (by simp) (by simp[lk,St.get]) ?_;simp -implicitDefEqProofs[p2];exact rfl
 . simp -implicitDefEqProofs[Z8y,Z8z,isa,e2];refine Z2U.new (ZbP _ e1 h1) (by simp) (by simp[lk,St.get]) ?_;simp -implicitDefEqProofs;refine Z2U.of ZbS (by simp) ?_;simp -implicitDefEqProofs[p1];exact rfl
 . simp -implicitDefEqProofs[Z8y,Z8z,isa];refine Z2U.new (ZbP _ e1 h1) (by simp) (by simp[lk,St.get]) ?_;simp -implicitDefEqProofs;refine Z2U.new (ZbQ _ e2 h2) (by simp) (by simp[lk,St.get]) ?_;simp -implicitDefEqProofs[p1,p2];exact rfl
def at_pc (hG:GC G) (r:Jr) (d l:Int) (h:Wf r):PC prog G 172 [rega r,.agg [.int .i64 d,.int .i64 l]] (.tup [.agg (isa (atP r d l).1),.int .i64 (atP r d l).2]):=by
 by_cases e:openV r=0
 case neg =>
  refine PC.nzR (v:=.tup [.agg [.int .i64 0,.int .i64 0,.int .u8 0,.nils,.nils],.int .i64 (openV r)]) ?_ (by simp[nz,atP,e,zI,isa])
  (refine Z8M rfl λR hG hrd=>Qga ?_;subst hG)
  simp -implicitDefEqProofs[Z8K,Z8L,rega];refine Qco (ZbX hG r h) ?_;simp -implicitDefEqProofs[openA,e]
 have hL:=ZbY e;have hO:=Zad hL
 cases hf:findN d l r with
 | none =>
   refine PC.nzR (v:=.tup [.agg [.int .i64 0,.int .i64 0,.int .u8 0,.nils,.nils],.int .i64 6]) ?_ (by simp[nz,atP,e,hf,zI,isa])
   (refine Z8M rfl λR hG hrd=>Qga ?_;subst hG)
   simp -implicitDefEqProofs[Z8K,Z8L,rega];refine Qco (ZbX hG r h) ?_;simp -implicitDefEqProofs[openA,e];refine Qco (Zbo r (nums r) d l (Zc3 hO) h.1.1 (Zc5 hL)) ?_;simp -implicitDefEqProofs[hf,fndA,noIs]
 | some x =>
   have ev:atP r d l=(x,0):=(by simp[atP,e,hf]);have hx:=h.1.2 x (Zav hf).1;have ex:isa x=[.int .i64 x.d,.int .i64 x.l,.int .u8 x.k,.vsl (x.its.map ita),.vsl (x.dms.map dma)]:=rfl;have cp:=ZeJ (G:=G) x hx.1 hx.2;rw[ev];rw[ex]at cp
   (refine Z8M rfl λR hG hrd=>Qga ?_;subst hG)
   simp -implicitDefEqProofs[Z8K,Z8L,rega];refine Qco (ZbX hG r h) ?_;simp -implicitDefEqProofs[openA,e];refine Qco (Zbo r (nums r) d l (Zc3 hO) h.1.1 (Zc5 hL)) ?_;simp -implicitDefEqProofs[hf,fndA,ex];refine Qco (cp) ?_;simp -implicitDefEqProofs[ex]
theorem  ZeK (n lo hi:Int):PC prog G 129 [.int .i64 n,.vptr [.int .i64 lo] 0,.vptr [.int .i64 hi] 0] (.bool (!inR n lo hi)):=by
 (refine Zdp rfl λR hG hrd=>Qga ?_;subst hG)
 by_cases h1:n<lo
 . have h2:¬lo<=n:=(by omega);simp -implicitDefEqProofs[Zdn,Zdo,h1,h2,inR]
 . have h2:lo<=n:=(by omega);by_cases h3:hi<n
   . have h4:¬n<=hi:=(by omega);simp -implicitDefEqProofs[Zdn,Zdo,h1,h2,h3,h4,inR]
   . have h4:n<=hi:=(by omega);simp -implicitDefEqProofs[Zdn,Zdo,h1,h2,h3,h4,inR]
theorem  ZeL (lo hi:Int) (l:List Int) (hl:Sml l):PC prog G 104 [.int .i64 lo,.int .i64 hi,.vsl (l.map ia)] (.bool (l.all λn=>inR n lo hi)):=by
 (refine Zdm rfl λR hG hrd=>Qga ?_;subst hG)
 simp -implicitDefEqProofs[Zdk,Zdl]
 (first|refine Yd.flat (ZaC 129 [.vptr [.int .i64 lo] 0,.vptr [.int .i64 hi] 0] (λn=>!inR n lo hi) l (by simp[AV.pure]) hl (λn _=>ZeK n lo hi)) (by simp[AV.flat]) (by simp) ?_|refine Ye.flat (ZaC 129 [.vptr [.int .i64 lo] 0,.vptr [.int .i64 hi] 0] (λn=>!inR n lo hi) l (by simp[AV.pure]) hl (λn _=>ZeK n lo hi)) (by simp[AV.flat]) (by simp) ?_)
 have e:(!l.any λn=>!inR n lo hi)=l.all λn=>inR n lo hi:=by simp[W2k]
 simp -implicitDefEqProofs[e]
theorem  ZeM (lo hi n:Int):PC prog G 104 [.int .i64 lo,.int .i64 hi,.vsl [[.int .i64 n]]] (.bool (inR n lo hi)):=by
 have h:=ZeL (G:=G) lo hi [n] (by simp[Sml]);simpa [ia] using h
theorem  ZeN (lo hi n m:Int):PC prog G 104 [.int .i64 lo,.int .i64 hi,.vsl [[.int .i64 n],[.int .i64 m]]] (.bool (inR n lo hi&&inR m lo hi)):=by
 have h:=ZeL (G:=G) lo hi [n,m] (by simp[Sml]);simpa [ia] using h
theorem  ZeO (g:Nat) (caps:List AV) (p:Nte->Bool) (l:Jl) (hc:caps.all AV.pure=true) (hl:Sml l)
  (hg:∀ x∈l,PC prog G g (.agg (na x)::caps) (.bool (p x))) :
  PC prog G 183 [.vsl (l.map na),.func (.func g) [] caps] (.int .i64 (fstOf p l)):=by
 (refine Zeg rfl λR hG hrd=>Qga ?_;subst hG)
 unfold Sml at hl;have hc2:∀ x∈caps,x.pure=true:=W03.1 hc;simp -implicitDefEqProofs[Zee,Zef];refine Z9H (λi=>⟨[(8,.int .i64 i),(7,.int .i64 l.length),(0,.vsl (l.map na)),(1,.func (.func g) [] caps)],[]⟩) (λi=>∀ j (h:j<l.length),j<i->p l[j]=false) l.length (by (first|exact Wka|exact Wkb)) (by simp) ?_ ?_
 . intro i hi he;refine Qga ?_;have w1:i64.wrap ((i:Int)+1)=((i+1:Nat):Int):=Yf;have hgi:=hg _ (W0e hi);have hln:(na l[i]).length=10:=rfl;have htk:(na l[i]).take 10=na l[i]:=rfl;simp -implicitDefEqProofs[hi,hln,htk];refine Yd.of hgi (by simpa [AV.pure,na] using hc2) ?_
   cases h3:p l[i]
   . simp -implicitDefEqProofs[w1];refine ⟨(by (first|exact Wka|exact Wkb)),λj q1 q2=>?_⟩;by_cases e:j=i
     . subst e;exact h3
     . exact he j q1 (by omega)
   . simp -implicitDefEqProofs;refine Qgr ?_;simp -implicitDefEqProofs[Zay hi h3 he]
 . intro he;refine Qga ?_;simp -implicitDefEqProofs;refine Qgr ?_;simp -implicitDefEqProofs[Zaz (p:=p) (l:=l) (λj hj=>he j hj hj)]
theorem  ZeP (g:Nat) (caps:List AV) (p:Nte->Bool) (l:Jl) (hc:caps.all AV.pure=true) (hl:Sml l)
  (hg:∀ x∈l,PC prog G g (.agg (na x)::caps) (.bool (p x))) :
  PC prog G 175 [.vsl (l.map na),.func (.func g) [] caps] (.bool (l.any p)):=by
 (refine Zed rfl λR hG hrd=>Qga ?_;subst hG)
 simp -implicitDefEqProofs[Zeb,Zec];have hc2:∀ x∈caps,x.pure=true:=W03.1 hc;refine Yd.of (ZeO g caps p l hc hl hg) (by simpa [AV.pure] using hc2) ?_;have e:=ZaA p l;simp -implicitDefEqProofs[e]
theorem  ZeQ (a b:Int):PC prog G 180 [.vsl [[.int .i64 a],[.int .i64 b]]] (.int .i64 (if a=0 then b else a)):=by
 (refine ZeB rfl λR hG hrd=>Qga ?_;subst hG)
 simp -implicitDefEqProofs[Zez,ZeA];refine Z9H (λi=>⟨[(8,.int .i64 i),(7,.int .i64 2),(6,.vsl [[.int .i64 a],[.int .i64 b]]),(3,.int .i64 0)],[]⟩) (λi=>(0<i->a=0)/\(1<i->b=0)) 2 (by (first|exact Wka|exact Wkb)) (by simp) ?_ ?_
 . intro i hi he;refine Qga ?_
   match i,hi,he with
   | 0,_,_ =>
     have w1:i64.wrap 1=1:=rfl;by_cases h:a=0
     . simp -implicitDefEqProofs[h,w1]
       (first|exact Wka|exact Wkb)
     . simp -implicitDefEqProofs[h];refine Qgr ?_;simp -implicitDefEqProofs[h]
   | 1,_,he =>
     have h0:=he.1 (by omega);have w1:i64.wrap 2=2:=rfl;by_cases h:b=0
     . simp -implicitDefEqProofs[h,w1];exact ⟨(by (first|exact Wka|exact Wkb)),h0⟩
     . simp -implicitDefEqProofs[h];refine Qgr ?_;simp -implicitDefEqProofs[h,h0]
 . rintro ⟨h0,h1⟩;refine Qga ?_;have e0:=h0 (by omega);have e1:=h1 (by omega);simp -implicitDefEqProofs;refine Qgr ?_;simp -implicitDefEqProofs[e0,e1]
theorem  ZeR (x y:Nte):PC prog G 176 [.agg (na y),.vptr (na x) 0] (.bool (decide (y.nu=x.ca))):=by
 (refine ZdK rfl λR hG hrd=>Qga ?_;subst hG)
 simp -implicitDefEqProofs[ZdI,ZdJ,na]
section
variable (r:Jr) (l:Jl) (i:Nat) (hi:i<l.length) (hw:WfN l) (hr:Wf r)
include hi hw hr
theorem  ZeS:PC prog G 168 [.agg [.vsl (r.map isa),.vsl (l.map na)],.int .i64 i] (.bool (cN1 (nAt l i))):=by
 rw[ZcF hi]
 (refine Zds rfl λR hG hrd=>Qga ?_;subst hG)
 simp -implicitDefEqProofs[Zdq,Zdr,hi,na];refine Qco (ZeM 1 9999 l[i].nu) ?_
 cases h1:inR l[i].nu 1 9999
 . simp -implicitDefEqProofs[cN1,h1]
 simp -implicitDefEqProofs[hi,na];refine Qco (ZeM 0 14610 l[i].dy) ?_;simp -implicitDefEqProofs[cN1,h1]
theorem  ZeT:PC prog G 169 [.agg [.vsl (r.map isa),.vsl (l.map na)],.int .i64 i] (.bool (cN2 (nAt l i))):=by
 rw[ZcF hi]
 (refine Zdv rfl λR hG hrd=>Qga ?_;subst hG)
 by_cases h1:l[i].sg<=2 <;> by_cases h2:l[i].wy<=3 <;> simp -implicitDefEqProofs[Zdt,Zdu,hi,na,cN2,h1,h2]
theorem  ZeU:PC prog G 170 [.agg [.vsl (r.map isa),.vsl (l.map na)],.int .i64 i] (.bool (cN3 (nAt l i))):=by
 rw[ZcF hi]
 (refine Zdy rfl λR hG hrd=>Qga ?_;subst hG)
 simp -implicitDefEqProofs[Zdw,Zdx,hi,na];refine Qco (ZeN 1 999 l[i].fr l[i].tu) ?_
 cases h1:inR l[i].fr 1 999&&inR l[i].tu 1 999
 . simp -implicitDefEqProofs[cN3,h1]
 . by_cases h2:l[i].fr<=l[i].tu <;> simp -implicitDefEqProofs[cN3,h1,h2]
end
section
variable (hG:GC G) (r:Jr) (l:Jl) (i:Nat) (hi:i<l.length) (hw:WfN l) (hr:Wf r)
include hi hw hr
include hG in
theorem  ZeV (ho:openV r=0):PC prog G 171 [.agg [.vsl (r.map isa),.vsl (l.map na)],.int .i64 i] (.bool (cN4 r (nAt l i))):=by
 rw[ZcF hi];have ha:=at_pc hG r l[i].dr l[i].lt hr;rw[rega]at ha;obtain ⟨x,hxx⟩:=Qex (l[i]);rw[<- hxx]at ha ⊢;have hlx:l[i]=x:=hxx.symm;have hna:na x=[.int .i64 x.nu,.int .i64 x.dy,.int .u8 x.sg,.int .i64 x.dr,.int .i64 x.lt,.int .i64 x.fr,.int .i64 x.tu,.int .i64 x.ca,.bool x.up,.int .u8 x.wy]:=rfl
 have he:(atP r x.dr x.lt).2=0↔(findN x.dr x.lt r).isSome=true:=by
  unfold atP;rw[if_pos ho]
  cases findN x.dr x.lt r <;> simp
 (refine ZdB rfl λR hG hrd=>Qga ?_;subst hG)
 by_cases hz:x.dr=0/\x.lt=0
 . simp -implicitDefEqProofs[Zdz,ZdA,hi,hlx,hna,hz.1,hz.2,cN4]
 . have hz1:¬(0=x.dr/\0=x.lt):=λh=>hz ⟨h.1.symm,h.2.symm⟩
   have e4:cN4 r x=decide ((atP r x.dr x.lt).2=0):=by
    rw[cN4,if_neg hz]
    cases q:(findN x.dr x.lt r).isSome
    . rw[eq_comm,W1b,he,q];simp
    . rw[eq_comm,W0b,he,q]
   rw[e4];have ey:isa (atP r x.dr x.lt).1=[.int .i64 (atP r x.dr x.lt).1.d,.int .i64 (atP r x.dr x.lt).1.l,.int .u8 (atP r x.dr x.lt).1.k,.vsl ((atP r x.dr x.lt).1.its.map ita),.vsl ((atP r x.dr x.lt).1.dms.map dma)]:=rfl;rw[ey]at ha;generalize atP r x.dr x.lt=v at *;by_cases q1:x.dr=0
   . have q2:¬x.lt=0:=λh=>hz ⟨q1,h⟩
     have q2':¬0=x.lt:=λh=>q2 h.symm
     rw[q1]at ha;simp -implicitDefEqProofs[Zdz,ZdA,hi,hlx,hna,q1,q2,q2'];refine Qco (ha) ?_;simp -implicitDefEqProofs
   . have q1':¬0=x.dr:=λh=>q1 h.symm
     simp -implicitDefEqProofs[Zdz,ZdA,hi,hlx,hna,q1,q1'];refine Qco (ha) ?_;simp -implicitDefEqProofs
theorem  ZeW:PC prog G 173 [.agg [.vsl (r.map isa),.vsl (l.map na)],.int .i64 i] (.bool (cN5 (nAt l i))):=by
 rw[ZcF hi]
 (refine ZdE rfl λR hG hrd=>Qga ?_;subst hG)
 by_cases h1:2<=l[i].lt
 . simp -implicitDefEqProofs[ZdC,ZdD,hi,na,cN5,h1]
 . cases h2:l[i].up
   . by_cases h3:l[i].wy=0 <;> simp -implicitDefEqProofs[ZdC,ZdD,hi,na,cN5,h1,h2,h3]
   . simp -implicitDefEqProofs[ZdC,ZdD,hi,na,cN5,h1,h2]
theorem  ZeX:PC prog G 174 [.agg [.vsl (r.map isa),.vsl (l.map na)],.int .i64 i] (.bool (cN6 l i (nAt l i))):=by
 have hl:=hw.1;unfold Sml at hl;rw[ZcF hi];obtain ⟨x,hxx⟩:=Qex (l[i]);rw[<- hxx];have hlx:l[i]=x:=hxx.symm;have hna:na x=[.int .i64 x.nu,.int .i64 x.dy,.int .u8 x.sg,.int .i64 x.dr,.int .i64 x.lt,.int .i64 x.fr,.int .i64 x.tu,.int .i64 x.ca,.bool x.up,.int .u8 x.wy]:=rfl;have hc:=ZeP (G:=G) 176 [.vptr (na x) 0] (λy=>decide (y.nu=x.ca)) (l.take i) (by simp[AV.pure,na]) (by unfold Sml;simp;omega) (λy _=>ZeR x y);have i1:i<=l.length:=(by omega);have bl:∀ x:Nte,(na x).length=10:=λ_=>rfl
 rw[List.map_take]at hc
 have pu:∀ x∈List.take i (List.map na l),∀ y∈x,y.pure=true:=λx hx y hy=>by
  obtain ⟨z,-,rfl⟩:=W0i.1 (W1r hx);simp only[na,W0g,W0Q,or_false]at hy;rcases hy with rfl|rfl|rfl|rfl|rfl|rfl|rfl|rfl|rfl|rfl <;> simp[AV.pure]
 (refine ZdH rfl λR hG hrd=>Qga ?_;subst hG)
 by_cases h1:x.ca=0
 . simp -implicitDefEqProofs[ZdF,ZdG,hi,hlx,hna,cN6,h1]
 . simp -implicitDefEqProofs[ZdF,ZdG,hi,hlx,hna,cN6,h1,i1,bl];rw[hna]at hc;refine Yd.flat hc (by simp[AV.flat]) (by simp) ?_;simp -implicitDefEqProofs
theorem  ZeY:PC prog G 179 [.agg [.vsl (r.map isa),.vsl (l.map na)],.int .i64 i] (.bool (cN8 l i (nAt l i))):=by
 have hl:=hw.1;unfold Sml at hl
 cases i with
 | zero =>
   (refine ZdT rfl λR hG hrd=>Qga ?_;subst hG)
   simp -implicitDefEqProofs[ZdR,ZdS,cN8];rfl
 | succ k =>
   have hk:k<l.length:=(by omega);have w1:i64.wrap ((k:Int)+1-1)=(k:Int):=(by rw[Yf (by omega) (by omega)];omega);have w2:i64.wrap (k:Int)=(k:Int):=Yf;have i0:¬(k:Int)+1=0:=(by omega);have k1:(0:Int)<=(k:Int)+1:=(by omega);have k2:((k:Int)+1).toNat=k+1:=(by omega);have e8:cN8 l (k+1) (nAt l (k+1))=(decide (l[k].dy<l[k+1].dy)||(decide (l[k].dy=l[k+1].dy)&&decide (l[k].nu<l[k+1].nu))):=(by rw[cN8,ZcF hk,ZcF hi]);have hc1:=Zbe (G:=G) l[k].dy l[k+1].dy;have hc2:=Zbe (G:=G) l[k].nu l[k+1].nu;have hR:∀ a b:AV,(List.range 2).map (λi=>List.take 1 (List.drop i [a,b]))=[[a],[b]]:=λ_ _=>rfl
   obtain ⟨a,b,ha,hb,hv⟩ : ∃ a b:Int,(if l[k].dy<l[k+1].dy then (-1:Int) else if l[k+1].dy<l[k].dy then 1 else 0)=a/\(if l[k].nu<l[k+1].nu then (-1:Int) else if l[k+1].nu<l[k].nu then 1 else 0)=b/\decide ((if a=0 then b else a)<0)=(decide (l[k].dy<l[k+1].dy)||(decide (l[k].dy=l[k+1].dy)&&decide (l[k].nu<l[k+1].nu))):=by
    refine ⟨_,_,rfl,rfl,?_⟩;rcases Int.lt_trichotomy l[k].dy l[k+1].dy with q|q|q
    . simp[q]
    . rw[q];rcases Int.lt_trichotomy l[k].nu l[k+1].nu with q2|q2|q2
      . simp[q2]
      . rw[q2];simp
      . have:¬l[k].nu<l[k+1].nu:=(by omega);simp[q2,this]
    . have h1:¬l[k].dy<l[k+1].dy:=(by omega);have h2:¬l[k].dy=l[k+1].dy:=(by omega);simp[q,h1,h2]
   rw[ha]at hc1;rw[hb]at hc2;have ho:=ZeQ (G:=G) a b;rw[e8,<- hv];clear hv;generalize (if a=0 then b else a)=c at *
   (refine ZdT rfl λR hG hrd=>Qga ?_;subst hG)
   simp -implicitDefEqProofs[ZdR,ZdS,hi,hk,w1,w2,i0,k1,k2,na];refine Qco (hc1) ?_;simp -implicitDefEqProofs[hi,hk,w1,w2,i0,k1,k2,na];refine Qco (hc2) ?_;simp -implicitDefEqProofs[hR];refine Qco (ho) ?_;simp -implicitDefEqProofs;rfl
theorem  ZeZ (y:Nte):PC prog G 178 [.agg (na y),.vptr [.vsl (r.map isa),.vsl (l.map na)] 0,.vptr [.int .i64 i] 0] (.bool (decide (y.nu=(nAt l i).nu))):=by
 rw[ZcF hi]
 (refine ZdQ rfl λR hG hrd=>Qga ?_;subst hG)
 simp -implicitDefEqProofs[ZdO,ZdP,na,hi];rfl
theorem  Zf0:PC prog G 177 [.agg [.vsl (r.map isa),.vsl (l.map na)],.int .i64 i] (.bool (cN7 l i (nAt l i))):=by
 have hl:=hw.1;unfold Sml at hl;have hc:=ZeP (G:=G) 178 [.vptr [.vsl (r.map isa),.vsl (l.map na)] 0,.vptr [.int .i64 i] 0] (λy=>decide (y.nu=(nAt l i).nu)) (l.take i) (by simp[AV.pure,isa,na]) (by unfold Sml;simp;omega) (λy _=>ZeZ r l i hi hw hr y);have i1:i<=l.length:=(by omega);have bl:∀ x:Nte,(na x).length=10:=λ_=>rfl
 rw[List.map_take]at hc
 have pu:∀ x∈List.take i (List.map na l),∀ y∈x,y.pure=true:=λx hx y hy=>by
  obtain ⟨z,-,rfl⟩:=W0i.1 (W1r hx);simp only[na,W0g,W0Q,or_false]at hy;rcases hy with rfl|rfl|rfl|rfl|rfl|rfl|rfl|rfl|rfl|rfl <;> simp[AV.pure]
 have pn:(l.map na).all (λr=>r.all AV.pure)=true:=(by simp[na,AV.pure]);have pi:=ZeI r;have e7:cN7 l i (nAt l i) = !(l.take i).any λy=>decide (y.nu=(nAt l i).nu):=rfl
 rw[e7]
 (refine ZdN rfl λR hG hrd=>Qga ?_;subst hG)
 simp -implicitDefEqProofs[ZdL,ZdM,i1,bl];refine Yd.flat hc (by simp[AV.flat]) (by simp[pn,pi]) ?_;simp -implicitDefEqProofs
end
def Zf1 (ok:Nat->Bool) (st:St) (l:List Int):frzO ok st (.row 1 (l.map ia)) = .row 1 (l.map ia):=by
 simp only[frzO,W10]
 congr 2
 funext p;simp[ia,frzA,frz,AV.keys]
def Zf2 (ρ:Nat->Nat) (l:List Int):AObj.ren ρ (.row 1 (l.map ia)) = .row 1 (l.map ia):=by
 simp only[AObj.ren,W10]
 congr 2
 funext p;simp[ia,AV.ren]
def Zf3 (o:List (Nat×AObj)) (l:List Int):Yc o (.row 1 (l.map ia))=true:=by
 simp only[Yc,W03,W0i];rintro x ⟨y,-,rfl⟩ v hv;simp only[ia,W0B]at hv;subst hv;simp[Ya,AV.keys]
def Zf4 (S:ByteArray):RCode:=.seq (.reg 0 false [{ d:=some 2,op:=.mov (.c (.int .i64 0)) }]) (.seq (.seq (.reg 1 false [{ d:=some 3,op:=.mov (.t 0) },{ d:=some 4,op:=.bin .geq (.t 3) (.c (.int .u64 4294967296)) }]) (.cond (.t 4) (.seq (.reg 2 false [{ d:=some 5,op:=.mov (.t 0) },{ d:=some 6,op:=.vop (.sh false) [(.t 5),(.c (.int .u64 32))] },{ d:=some 0,op:=.mov (.t 6) }]) (.reg 3 false [{ d:=some 2,op:=.mov (.c (.int .i64 32)) }])) (.skip))) (.seq (.seq (.reg 4 false [{ d:=some 7,op:=.mov (.t 0) },{ d:=some 8,op:=.bin .geq (.t 7) (.c (.int .u64 65536)) }]) (.cond (.t 8) (.seq (.reg 5 false [{ d:=some 9,op:=.mov (.t 0) },{ d:=some 10,op:=.vop (.sh false) [(.t 9),(.c (.int .u64 16))] },{ d:=some 0,op:=.mov (.t 10) }]) (.reg 6 false [{ d:=some 11,op:=.mov (.t 2) },{ d:=some 12,op:=.bin .add (.t 11) (.c (.int .i64 16)) },{ d:=some 2,op:=.mov (.t 12) }])) (.skip))) (.seq (.seq (.reg 7 false [{ d:=some 13,op:=.mov (.t 0) },{ d:=some 14,op:=.bin .geq (.t 13) (.c (.int .u64 256)) }]) (.cond (.t 14) (.seq (.reg 8 false [{ d:=some 15,op:=.mov (.t 0) },{ d:=some 16,op:=.vop (.sh false) [(.t 15),(.c (.int .u64 8))] },{ d:=some 0,op:=.mov (.t 16) }]) (.reg 9 false [{ d:=some 17,op:=.mov (.t 2) },{ d:=some 18,op:=.bin .add (.t 17) (.c (.int .i64 8)) },{ d:=some 2,op:=.mov (.t 18) }])) (.skip))) (.seq (.reg 10 false [{ d:=some 19,op:=.mov (.t 2) },{ d:=some 20,op:=.mov (.t 0) },{ d:=some 21,op:=.conv .u8 (.t 20) },{ d:=some 22,op:=.vop .sidx [(.c (.str S)),(.t 21)] },{ d:=some 23,op:=.conv .i64 (.t 22) },{ d:=some 24,op:=.bin .add (.t 19) (.t 23) },{ d:=some 2,op:=.mov (.t 24) }]) (.ret))))) 
def Zf5 (l:List Int) (a b:Nat) (h1:a<=b) (h2:b<=l.length) (h3:l.length<=1000) :
  PB prog G 105 [(1000,.row 1 (l.map ia))] [.osl 1000 l.length,.int .i64 a,.int .i64 b] (.tup []) [(1000,.row 1 ((srtI l a b).map ia))]:=by
 (refine Zey (W0C rfl) λR hG hrd=>Qga ?_;subst hG)
 have w1:i64.wrap ((a:Int)+1)=a+1:=Yf;simp -implicitDefEqProofs[Zev,Zew,w1];refine Z9H (λi=>⟨[(6,.int .i64 ((a:Int)+1+i)),(0,.osl 1000 l.length),(1,.int .i64 a),(2,.int .i64 b)],[(1000,.row 1 ((srtI l a (a+1+i)).map ia))]⟩) (λi=>True) (b-(a+1)) ?_ trivial ?_ ?_
 . rw[Zd2 (by omega) (by omega)]
   (refine Wkc ?_;simp only[Zf3,Wkl,and_true];(try simp[lk,Yc,Ya,AV.keys]))
 . intro i hi _;refine Qga ?_;have k1:(a:Int)+1+i<b:=(by omega);simp -implicitDefEqProofs[k1];have hI:a+1+i<l.length:=(by omega);have z:=Zd4 (l:=l) (a:=a) (i:=a+1+i) (by omega) hI;have z0:a+1+i-a=i+1:=(by omega);rw[z0]at z;rw[z];have hat:=λp (hp:p+1<=a+1+i-a)=>Zd7 (l:=l) (a:=a) (i:=a+1+i) (p:=p) (by omega) hI hp
   have hend:=λp=>Zd8 (l:=l) (a:=a) (i:=a+1+i) (p:=p) (by omega) hI
   have hln:=λp (hp:p<=a+1+i-a)=>Zd5 (l:=l) (a:=a) (i:=a+1+i) (p:=p) (by omega) hI hp
   have hsl:=Zd3 (l:=l) (a:=a) (i:=a+1+i) (by omega);generalize hsg:sortI ((l.take (a+1+i)).drop a)=s at *;generalize hxx:l[a+1+i]=x at *
   refine Z1Q (λp:Nat=>⟨[(7,.int .i64 ((a:Int)+p)),(6,.int .i64 ((a:Int)+1+i)),(0,.osl 1000 l.length),(1,.int .i64 a),(2,.int .i64 b)],[(1000,.row 1 ((mvI l a (a+1+i) p).map ia))]⟩)
    (λp=>p<=i+1/\∀ y∈s.drop p,x<y) (λp=>p) (i+1) ?_ ⟨W0f _,λy hy=>by rw[W1j (by omega)]at hy;cases hy⟩ ?_
   . have e9:(a:Int)+1+i=(a:Int)+(i+1:Nat):=(by omega);rw[e9]
     (refine Wkc ?_;simp only[Zf3,Wkl,and_true];(try simp[lk,Yc,Ya,AV.keys]))
   . rintro p ⟨hp,hd⟩;refine Qga ?_
     cases p with
     | zero =>
       have k2:¬(a:Int)<a:=(by omega);simp -implicitDefEqProofs;refine ⟨rfl,?_⟩;refine Qgr ?_;have w3:i64.wrap ((a:Int)+1+i+1)=(a:Int)+1+(i+1):=(by rw[Yf (by omega) (by omega)];omega);have he:=hend 0 (W1f _) hd (λq hq=>by omega);have he2:a+1+i+1=a+1+(i+1):=(by omega);rw[he2]at he;rw[he];simp -implicitDefEqProofs[w3]
       (refine Wkc ?_;simp only[Zf3,Wkl,and_true];(try simp[lk,Yc,Ya,AV.keys]))
     | succ p =>
       obtain ⟨y,hy0,hy1,hy2,hy3,hy4⟩:=hat p (by omega);have hl2:=hln (p+1) (by omega);have k2:(a:Int)<(a:Int)+(p+1):=(by omega);have k3:((a:Int)+(p+1)).toNat=a+p+1:=(by omega);have w2:i64.wrap ((a:Int)+(p+1)-1)=(a:Int)+p:=(by rw[Yf (by omega) (by omega)];omega);have k4:((a:Int)+p).toNat=a+p:=(by omega);have k5:a+p+1<l.length:=(by omega);have k6:a+p<l.length:=(by omega);have k7:(0:Int)<=(a:Int)+(p+1):=(by omega);have k8:(0:Int)<=(a:Int)+p:=(by omega);have he:=hend (p+1) (by omega) hd;generalize mvI l a (a+1+i) (p+1)=Q at *;obtain ⟨q1,g1⟩:=W02.1 hy1;obtain ⟨q2,g2⟩:=W02.1 hy2;have hls:=Zb0 (G:=R.G) x y;simp -implicitDefEqProofs[k2,k3,w2,k4,k5,k6,k7,k8,g1,g2,hl2,ia];refine Qco (hls) ?_;by_cases hlt:x<y
       . simp -implicitDefEqProofs[hlt,k3,w2,k4,k5,k6,k7,k8,g1,g2,hl2,ia];refine ⟨rfl,rfl,p,?_,⟨by omega,λu hu=>?_⟩,W2u _⟩
         . have e1:∀ z:Int,[AV.int .i64 z]=ia z:=λ_=>rfl
           rw[e1,e1,<- W2q,<- W2q,hy3]
           (refine Wkc ?_;simp only[Zf3,Wkl,and_true];(try simp[lk,Yc,Ya,AV.keys]))
         . obtain ⟨hps,gs⟩:=W02.1 hy0;rw[W0x hps,gs]at hu;rcases W0g.1 hu with rfl|hu
           . exact hlt
           . exact hd u hu
       . simp -implicitDefEqProofs[hlt];refine ⟨rfl,?_⟩;refine Qgr ?_;have w3:i64.wrap ((a:Int)+1+i+1)=(a:Int)+1+(i+1):=by rw[Yf (by omega) (by omega)];omega
         have he:=he (λq hq u hu hk=>by
          have:q=p:=(by omega);subst this;rw[hy0]at hu
          cases hu
          exact hlt hk)
         have he2:a+1+i+1=a+1+(i+1):=(by omega);rw[he2]at he;rw[he];simp -implicitDefEqProofs[w3]
         (refine Wkc ?_;simp only[Zf3,Wkl,and_true];(try simp[lk,Yc,Ya,AV.keys]))
 . intro _;refine Qga ?_;have k1:¬(a:Int)+1+(b-(a+1):Nat)<b:=by omega
   have e:srtI l a (a+1+(b-(a+1)))=srtI l a b:=by
    rcases W0q a b with h|h
    . congr 1;omega
    . rw[Zd2 (by omega) (by omega),Zd2 (by omega) (by omega)]
   rw[e];simp -implicitDefEqProofs[k1];refine Qgr ?_;simp -implicitDefEqProofs;refine ⟨[],rfl,rfl,?_⟩;simp[Yi,newK,Zf1]
def Zf6 (l:List Int):srtI l 0 l.length=sortI l:=by simp[srtI]
def Zf7 (l:List Int) (m:Int) (h3:l.length<=12) :
  PB prog G 83 [(1000,.row 1 (l.map ia))] [.osl 1000 l.length,.int .i64 0,.int .i64 l.length,.int .i64 m] (.tup []) [(1000,.row 1 ((sortI l).map ia))]:=by
 have hp:=Zf5 (G:=G) l 0 l.length (W1f _) (W0f _) (by omega);rw[Zf6]at hp
 (refine Zeu (W0C rfl) λR hG hrd=>Qga ?_;subst hG)
 have w1:i64.wrap (l.length:Int)=(l.length:Int):=Yf;have k1:(l.length:Int)<=12:=(by omega);simp -implicitDefEqProofs[Zer,Zes];refine Z1Q (λ_:Unit=>⟨[(0,.osl 1000 l.length),(1,.int .i64 0),(2,.int .i64 l.length)],[(1000,.row 1 (l.map ia))]⟩) (λ_=>True) (λ_=>0) () ?_ trivial ?_
 . (refine Wkc ?_;simp only[Zf3,Wkl,and_true];(try simp[lk,Yc,Ya,AV.keys]))
 rintro ⟨⟩ -;refine Qga ?_;simp -implicitDefEqProofs[w1,k1,h3];refine Yd.sem (Z1B.byref hp id (by simp) (by simp) (by simp[St.get,lk,Zf2]) (by simp[Zf3]) (by simp[Ya,AV.keys,lk]) rfl (by simp[AV.ren]) rfl rfl) ?_;simp -implicitDefEqProofs[Yl,Zf2];refine Qgr ?_;simp -implicitDefEqProofs;refine ⟨[],rfl,rfl,?_⟩;simp[Yi,newK,Zf1]
set_option maxRecDepth 100000 in
def Zf8 (n:Nat) (h:n<=12):∃ v:Int,PC prog G 115 [.int .u64 n] (.int .i64 v):=by
 have k1:¬(4294967296:Int)<=n:=(by omega);have k2:¬(65536:Int)<=n:=(by omega);have k3:¬(256:Int)<=n:=(by omega);obtain ⟨S,hS,hz⟩ : ∃ S,ZeF=Zf4 S/\S.size=256:=⟨_,rfl,rfl⟩;have hn:n<S.size:=(by omega);obtain ⟨c,hc⟩ : ∃ c,S[n]? = some c:=⟨S[n],getElem?_pos S n hn⟩
 have w1:IntKind.u8.wrap (n:Int)=(n:Int):=by
  match n,h with
  |0,_=>rfl
  |1,_=>rfl
  |2,_=>rfl
  |3,_=>rfl
  |4,_=>rfl
  |5,_=>rfl
  |6,_=>rfl
  |7,_=>rfl
  |8,_=>rfl
  |9,_=>rfl
  |10,_=>rfl
  |11,_=>rfl
  |12,_=>rfl
 refine ⟨i64.wrap (0+i64.wrap (c.toNat:Int)),?_⟩;refine ZeH rfl λR hG hrd=>?_
 rw[hS];refine Qga ?_;simp -implicitDefEqProofs[Zf4,ZeG,k1,k2,k3,w1,hc]
def Zf9 (n:Nat) (h:n<=12):∃ v:Int,PC prog G 84 [.int .u64 n] (.int .i64 v):=by
 obtain ⟨v,hv⟩:=Zf8 (G:=G) n h;refine ⟨v,?_⟩
 (refine ZeE rfl λR hG hrd=>Qga ?_;subst hG)
 simp -implicitDefEqProofs[ZeC,ZeD];refine Qco (hv) ?_;simp -implicitDefEqProofs
def Zfa (l:List Int) (h3:l.length<=12) :
  PB prog G 68 [(1000,.row 1 (l.map ia))] [.osl 1000 l.length] (.tup []) [(1000,.row 1 ((sortI l).map ia))]:=by
 obtain ⟨v,hv⟩:=Zf9 (G:=G) l.length h3;have hp:=Zf7 (G:=G) l v h3
 (refine Zeq (W0C rfl) λR hG hrd=>Qga ?_;subst hG)
 have w1:IntKind.u64.wrap (l.length:Int)=(l.length:Int):=IntWalk.u64_in _ ⟨by omega,by omega⟩;simp -implicitDefEqProofs[Zen,Zeo,w1];refine Qco (hv) ?_;simp -implicitDefEqProofs;refine Yd.sem (Z1B.byref hp id (by simp) (by simp) (by simp[St.get,lk,Zf2]) (by simp[Zf3]) (by simp[Ya,AV.keys,lk]) rfl (by simp[AV.ren]) rfl rfl) ?_;simp -implicitDefEqProofs[Yl,Zf2];refine ⟨[],rfl,rfl,?_⟩;simp[Yi,newK,Zf1]
def Zfb:PC prog G 105 [.nils,.int .i64 0,.int .i64 0] (.tup []):=by
 (refine Zex rfl λR hG hrd=>Qga ?_;subst hG)
 have w1:i64.wrap 1=1:=rfl;simp -implicitDefEqProofs[Zev,Zew,w1];refine Z1Q (λ_:Unit=>⟨[(6,.int .i64 1),(2,.int .i64 0)],[]⟩) (λ_=>True) (λ_=>0) () (by (first|exact Wka|exact Wkb)) trivial ?_;rintro ⟨⟩ -;refine Qga ?_;simp -implicitDefEqProofs;refine Qgr ?_;simp -implicitDefEqProofs
def Zfc (m:Int):PC prog G 83 [.nils,.int .i64 0,.int .i64 0,.int .i64 m] (.tup []):=by
 (refine Zet rfl λR hG hrd=>Qga ?_;subst hG)
 have w1:i64.wrap 0=0:=rfl;simp -implicitDefEqProofs[Zer,Zes];refine Z1Q (λ_:Unit=>⟨[(0,.nils),(1,.int .i64 0),(2,.int .i64 0)],[]⟩) (λ_=>True) (λ_=>0) () (by (first|exact Wka|exact Wkb)) trivial ?_;rintro ⟨⟩ -;refine Qga ?_;simp -implicitDefEqProofs[w1];refine Qco (Zfb) ?_;simp -implicitDefEqProofs;refine Qgr ?_;simp -implicitDefEqProofs
def Zfd:PC prog G 68 [.nils] (.tup []):=by
 obtain ⟨v,hv⟩:=Zf9 (G:=G) 0 (by omega);have w1:IntKind.u64.wrap 0=0:=rfl
 (refine Zep rfl λR hG hrd=>Qga ?_;subst hG)
 simp -implicitDefEqProofs[Zen,Zeo,w1];refine Qco (hv) ?_;simp -implicitDefEqProofs;refine Qco (Zfc v) ?_;simp -implicitDefEqProofs
def K8n:List AV:=[.func (.func 168) [] [],.func (.func 169) [] [],.func (.func 170) [] [],.func (.func 171) [] [],.func (.func 173) [] [],.func (.func 174) [] [],.func (.func 177) [] [],.func (.func 179) [] []]
def GN (G:Jg):Prop:=G 1=some K8n
def ckK (r:Jr) (l:Jl) (i:Nat):Nat->Bool
 |0=>cN1 (nAt l i)
 |1=>cN2 (nAt l i)
 |2=>cN3 (nAt l i)
 |3=>cN4 r (nAt l i)
 |4=>cN5 (nAt l i)
 |5=>cN6 l i (nAt l i)
 |6=>cN7 l i (nAt l i)
 |_=>cN8 l i (nAt l i)
def Zfe {r:Jr} {l:Jl} {i:Nat}:noteB r l i=true↔∀ j,j<8->ckK r l i j=true:=by
 simp only[noteB,W01]
 constructor
 . rintro ⟨⟨⟨⟨⟨⟨⟨h1,h2⟩,h3⟩,h4⟩,h5⟩,h6⟩,h7⟩,h8⟩ j hj
   match j,hj with
   |0,_=>exact h1
   |1,_=>exact h2
   |2,_=>exact h3
   |3,_=>exact h4
   |4,_=>exact h5
   |5,_=>exact h6
   |6,_=>exact h7
   |7,_=>exact h8
 . intro h;exact ⟨⟨⟨⟨⟨⟨⟨h 0 (by omega),h 1 (by omega)⟩,h 2 (by omega)⟩,h 3 (by omega)⟩,h 4 (by omega)⟩,h 5 (by omega)⟩,h 6 (by omega)⟩,h 7 (by omega)⟩
def opA (l:Jl):AV:=if opU l=[] then .nils else .vsl ((sortI (opU l)).map ia)
def fileA (r:Jr) (l:Jl):AV:=.vptr [.vsl (r.map isa),.vsl (l.map na),.vsl ((nums r).map ia),opA l] 0
def opdA (r:Jr) (l:Jl):AV:=.tup [if chN r l=0 then fileA r l else .nilp,.int .i64 (chN r l)]
def onu (l:Jl) (i:Nat):List Int:=(opN l i).map (·.nu)
def Zff {l:Jl} {i:Nat} (h:i<l.length):onu l (i+1)=if l[i].sg=1 then onu l i++[l[i].nu] else onu l i:=by
 unfold onu;rw[ZcG h];split
 . rw[W0r];rfl
 . rfl
def Zfg (l:Jl) (i:Nat):(onu l i).length<=i:=by unfold onu;rw[W0N];exact ZcH l i
def opdT (l:Jl):List (Nat×AV):=[(31,.int .i64 l.length),(30,.vsl (l.map na)),(6,.ptr 28 0),(7,.bool false),(1,.ptr 1 0)]
def opdO (r:Jr) (l:Jl) (i:Nat):List (Nat×AObj):=if onu l i=[] then [(1,.box [.vsl (r.map isa),.vsl (l.map na)]),(28,.box [.vsl (r.map isa),.vsl (l.map na),.vsl ((nums r).map ia),.nils])]
 else [(1,.box [.vsl (r.map isa),.vsl (l.map na)]),(28,.box [.vsl (r.map isa),.vsl (l.map na),.vsl ((nums r).map ia),.osl 59 (onu l i).length]),(59,.row 1 ((onu l i).map ia))]
def opdS (r:Jr) (l:Jl) (i:Nat):St:=⟨(32,.int .i64 i)::opdT l,opdO r l i⟩
def opdI (r:Jr) (l:Jl) (i:Nat) (x:Nte) (j:Nat):St:=⟨(38,.int .i64 j)::(37,.agg K8n)::(8,.int .i64 i)::(9,.ptr 9 0)::(32,.int .i64 i)::opdT l,(9,.box (na x))::opdO r l i⟩
def kNall (hG:GC G) {r:Jr} {l:Jl} {i:Nat} (hi:i<l.length) (hw:WfN l) (hr:Wf r) (ho:openV r=0) (j:Nat) (hj:j<8) :
  ∃ f,(K8n.drop j).take 1=[.func (.func f) [] []]/\PC prog G f [.agg [.vsl (r.map isa),.vsl (l.map na)],.int .i64 i] (.bool (ckK r l i j)):=by
 match j,hj with
 |0,_=>exact ⟨_,rfl,ZeS r l i hi hw hr⟩
 |1,_=>exact ⟨_,rfl,ZeT r l i hi hw hr⟩
 |2,_=>exact ⟨_,rfl,ZeU r l i hi hw hr⟩
 |3,_=>exact ⟨_,rfl,ZeV hG r l i hi hw hr ho⟩
 |4,_=>exact ⟨_,rfl,ZeW r l i hi hw hr⟩
 |5,_=>exact ⟨_,rfl,ZeX r l i hi hw hr⟩
 |6,_=>exact ⟨_,rfl,Zf0 r l i hi hw hr⟩
 |7,_=>exact ⟨_,rfl,ZeY r l i hi hw hr⟩
def Zfh (hG:GC G) (hN:GN G) (r:Jr) (l:Jl) (hw:WfN l) (hr:Wf r):PC prog G 72 [.agg [.vsl (r.map isa),.vsl (l.map na)]] (opdA r l):=by
 have hl:=hw.1;unfold Sml at hl;have hd:=Zc6 hG r hr;rw[rega]at hd;unfold GN at hN
 (refine ZdW rfl λR hG hrd=>Qga ?_;subst hG)
 by_cases ho:openV r=0
 case neg =>
  have e:chN r l=openV r:=(by rw[chN,if_neg ho]);simp -implicitDefEqProofs[ZdU,ZdV];refine Qco (hd) ?_;simp -implicitDefEqProofs[ho,opdA,e]
 rw[if_pos ho,ho]at hd;by_cases h12:12<l.length
 . have h12':(12:Int)<l.length:=by omega
   have hB:ZcI r l=false:=by
    have:¬l.length<=12:=(by omega);simp[ZcI,this]
   have e:chN r l=30:=(by rw[chN,if_pos ho,hB];rfl);simp -implicitDefEqProofs[ZdU,ZdV];refine Qco (hd) ?_;simp -implicitDefEqProofs[opdA,e,h12,h12']
 have h12':¬(12:Int)<l.length:=(by omega);simp -implicitDefEqProofs[ZdU,ZdV];refine Qco (hd) ?_;simp -implicitDefEqProofs[h12,h12'];refine Z9H (opdS r l) (λi=>∀ j,j<i->noteB r l j=true) l.length ?_ (by simp) ?_ ?_
 . have e0:onu l 0=[]:=rfl;simp only[opdS,opdO,opdT,e0,if_true]
   (refine Wkc ?_;simp only[Wkl,and_true];(try simp[lk,Yc,Ya,AV.keys]))
 . intro i hi he;refine Qga ?_;obtain ⟨x,hxx⟩:=Qex (l[i]);have hlx:l[i]=x:=hxx.symm;have hna:na x=[.int .i64 x.nu,.int .i64 x.dy,.int .u8 x.sg,.int .i64 x.dr,.int .i64 x.lt,.int .i64 x.fr,.int .i64 x.tu,.int .i64 x.ca,.bool x.up,.int .u8 x.wy]:=rfl;have hk:=kNall hG hi hw hr ho;have wi:i64.wrap ((i:Int)+1)=(i:Int)+1:=Yf;have sc:=Zff hi;have ol:=Zfg l i;rw[hlx]at sc;have t8:K8n.take 8=K8n:=rfl;have l8:K8n.length=8:=rfl;by_cases c:onu l i=[]
   case' pos =>
    simp -implicitDefEqProofs[opdS,opdO,opdT,c,hi,hlx,hna,hN,t8,l8]
   case' neg =>
    simp -implicitDefEqProofs[opdS,opdO,opdT,c,hi,hlx,hna,hN,t8,l8]
   all_goals
    refine Z9H (opdI r l i x) (λj=>∀ k,k<j->ckK r l i k=true) 8 ?_ (by simp) ?_ ?_
    . simp only[opdI,opdO,opdT,c,if_true,if_false]
      ((try simp only[hna,K8n]);refine Ym.sub (by simp[lk,Ya,AV.keys,hna,K8n]) ?_;simp only[hna,K8n,Wkl,Zf3,and_true];(try simp[lk,Yc,Ya,AV.keys,hna,K8n]))
    . intro j hj hJ;refine Qga ?_;obtain ⟨f,hf1,hf2⟩:=hk j hj;have wj:i64.wrap ((j:Int)+1)=(j:Int)+1:=Yf;have j1:(j:Int)<8:=(by omega);have j2:j+1<=8:=(by omega);have j3:j<=7:=(by omega);simp -implicitDefEqProofs[opdI,opdO,opdT,c,j1,j2,j3,l8,hf1,hj];refine Qco (hf2) ?_
      cases hb:ckK r l i j
      . have hB:ZcI r l=false:=by
         cases q:ZcI r l
         . rfl
         . simp only[ZcI,W01]at q;have h1:=Za2.1 q.1.2 i hi;have h2:=Zfe.1 h1 j hj;rw[hb]at h2;cases h2
        have e:chN r l=30:=(by rw[chN,if_pos ho,hB];rfl);simp -implicitDefEqProofs;refine Qgr ?_;simp -implicitDefEqProofs;refine Qgr ?_;simp -implicitDefEqProofs[opdA,e]
      . simp -implicitDefEqProofs[wj];refine ⟨?_,λk hk=>?_⟩
        . simp only[opdI,opdO,opdT,c,if_true,if_false]
          ((try simp only[hna,K8n]);refine Ym.sub (by simp[lk,Ya,AV.keys,hna,K8n]) ?_;simp only[hna,K8n,Wkl,Zf3,and_true];(try simp[lk,Yc,Ya,AV.keys,hna,K8n]))
        . rcases W0q k j with h1|h1
          . exact hJ k h1
          . obtain rfl:k=j:=(by omega);exact hb
    . intro hJ;refine Qga ?_;have hnb:noteB r l i=true:=Zfe.2 hJ
      have he2:∀ j,j<i+1->noteB r l j=true:=λj hj=>by
       rcases W0q j i with h1|h1
       . exact he j h1
       . obtain rfl:j=i:=(by omega);exact hnb
      have bb:((onu l i).length+1)*8<=70368744177664:=(by omega);simp -implicitDefEqProofs[opdI,opdO,opdT,c];refine Qgr ?_;by_cases q:x.sg=1
      . rw[if_pos q]at sc;have hne:onu l (i+1)≠[]:=(by rw[sc];simp);simp -implicitDefEqProofs[hna,q,bb,wi];refine ⟨rfl,?_,he2⟩;simp only[opdS,opdO,opdT,hne,if_false];have e1:(onu l (i+1)).map ia=(onu l i).map ia++[[AV.int .i64 x.nu]]:=(by rw[sc,W0r];rfl);have e2:(onu l (i+1)).length=(onu l i).length+1:=by rw[sc];simp
        first
         |(rw[c,W18]at sc;rw[sc];((try simp only[ia]);refine Ym.sub (by simp[lk,Ya,AV.keys,ia]) ?_;simp only[ia,Wkl,and_true];(try simp[lk,Yc,Ya,AV.keys,ia]));done)
         |(rw[<- e1,e2];(refine Wkc ?_;simp only[Zf3,Wkl,and_true];(try simp[lk,Yc,Ya,AV.keys]));done)
      . rw[if_neg q]at sc;simp -implicitDefEqProofs[hna,q,wi];refine ⟨?_,he2⟩;simp only[opdS,opdO,opdT,sc,c,if_true,if_false]
        (refine Wkc ?_;simp only[Zf3,Wkl,and_true];(try simp[lk,Yc,Ya,AV.keys]))
 . intro he;refine Qga ?_;have hall:(List.range l.length).all (noteB r l)=true:=Za2.2 he;have hu:onu l l.length=opU l:=rfl;have hul:=Zfg l l.length;have hln:(onu l l.length).length=(opN l l.length).length:=by simp[onu]
   have hB:ZcI r l=decide ((opN l l.length).length<=5):=by
    have h2:l.length<=12:=(by omega);simp[ZcI,hall,h2]
   rw[<- hln]at hB;by_cases c:onu l l.length=[]
   . have hB2:ZcI r l=true:=(by rw[hB,c];rfl);have e:chN r l=0:=(by rw[chN,if_pos ho,hB2];rfl);have ea:opA l = .nils:=(by rw[opA,<- hu,if_pos c]);simp -implicitDefEqProofs[opdS,opdO,opdT,c];refine Qgr ?_;simp -implicitDefEqProofs;refine Qco (Zfd) ?_;simp -implicitDefEqProofs[opdA,e,fileA,ea]
   . by_cases h5:5<(onu l l.length).length
     . have h5':(5:Int)<(onu l l.length).length:=(by omega);have hB2:ZcI r l=false:=(by rw[hB];exact W0S (by omega));have e:chN r l=30:=(by rw[chN,if_pos ho,hB2];rfl);simp -implicitDefEqProofs[opdS,opdO,opdT,c];refine Qgr ?_;simp -implicitDefEqProofs[h5,h5',opdA,e]
     . have h5':¬(5:Int)<(onu l l.length).length:=(by omega);have hB2:ZcI r l=true:=(by rw[hB];exact W0M (by omega));have e:chN r l=0:=(by rw[chN,if_pos ho,hB2];rfl);have ea:opA l = .vsl ((sortI (opU l)).map ia):=(by rw[opA,<- hu,if_neg c]);have hsp:=Zfa (G:=R.G) (onu l l.length) (by omega);have pu:((sortI (opU l)).map ia).all (λr=>r.all AV.pure)=true:=(by simp[ia,AV.pure]);have sl:(sortI (opU l)).length=(onu l l.length).length:=(by rw[Zd0,<- hu]);simp -implicitDefEqProofs[opdS,opdO,opdT,c];refine Qgr ?_;simp -implicitDefEqProofs[h5,h5'];refine Yd.sem (Z1B.byref hsp (λ_=>59) (by simp) (by simp) (by simp[St.get,lk,Zf2]) (by simp[Zf3]) (by simp[Ya,AV.keys,lk]) rfl (by simp[AV.ren]) rfl rfl) ?_;rw[hu];rw[hu]at sl;simp -implicitDefEqProofs[Yl,Zf2,opdA,e,fileA,ea,pu,sl]
def dropZ:Nat->RCode->RCode
 |0,c=>c
 |n+1,.seq _ c=>dropZ n c
 |_+1,c=>c
def GOz {P:Program} {R:Run} {c:RCode} {ks:List KF} {Φ:Exit->St->Prop} {st:St} (h:AR P R c st (RetP P R ks Φ)):GO P R 0 (.run c) ks Φ st:=h
def Zfi {P:Program} {R:Run} {c b:RCode} {ks:List KF} {Φ:Exit->St->Prop} {st S:St} (h:AR P R c st λe s=>e = .normal/\Ym s S) (hb:AR P R b S (RetP P R ks Φ)):GO P R 0 (.run c) (.sq b::ks) Φ st :=
 Z2I h λe s hs=>by obtain ⟨rfl,hw⟩:=hs;exact Z2R hw hb
def lfS (U s:List Int) (i:Nat):List Int:=U.filter λn=>!decide (n∈s.take i)
def Zfj {U s:List Int} {i:Nat} (hi:i<s.length) (hU:U.Nodup):(lfS U s i).erase s[i]=lfS U s (i+1):=by
 have hn:(lfS U s i).Nodup:=hU.filter _;rw[hn.erase_eq_filter];unfold lfS;rw[List.filter_filter];refine List.filter_congr λn _=>?_
 have hm:n∈s.take (i+1)↔(n∈s.take i∨n=s[i]):=(by rw[W08 hi,W0h,W0B]);by_cases e:n=s[i]
 . rw[W0M (hm.2 (.inr e)),bne_eq_false_iff_eq.2 e];rfl
 . by_cases e2:n∈s.take i
   . rw[W0M (hm.2 (.inl e2)),W0M e2];simp
   . rw[W0S (λh=>(hm.1 h).elim e2 e),W0S e2];simp[e]
def truI (l:Jl) (s:List Int) (i:Nat):Prop:=∀ j,j<i->s.getD j 0∈opU l/\(0<j->s.getD (j-1) 0<s.getD j 0)
def Zfk {l:Jl} {s:List Int} {i:Nat} (h:truI l s i):∀ a b,a<b->b<i->s.getD a 0<s.getD b 0
 |a,0,h1,_=>by omega
 | a,b+1,h1,h2=>by
   have h3:=(h (b+1) h2).2 (by omega);rw[W19]at h3;rcases W0q a b with h4|h4
   . have:=Zfk h a b h4 (by omega);omega
   . obtain rfl:a=b:=(by omega);exact h3
def Zfl {l:Jl} {U s:List Int} {i:Nat} (hU:∀ n,n∈U↔n∈opU l) (hi:i<s.length) (h:truI l s i):(s[i]∈lfS U s i/\(0<i->s.getD (i-1) 0<=s[i]))↔truI l s (i+1):=by
 have eg:∀ j,∀ hj:j<s.length,s.getD j 0=s[j]:=λj hj=>by simp[W0j,hj]
 unfold lfS;rw[W0G,hU]
 constructor
 . rintro ⟨⟨h1,h2⟩,h3⟩ j hj;rcases W0q j i with h4|h4
   . exact h j h4
   . obtain rfl:j=i:=(by omega);rw[eg j hi];refine ⟨h1,λh0=>?_⟩;have h5:=h3 h0;have hj1:j-1<s.length:=by omega
     have h6:s.getD (j-1) 0≠s[j]:=λe=>by
      have:s[j]∈s.take j:=(by rw[<- e,eg _ hj1];rw[W1Q];exact ⟨j-1,by omega,rfl⟩);simp[this]at h2
     omega
 . intro h1;have h2:=h1 i (by omega);rw[eg i hi]at h2;refine ⟨⟨h2.1,?_⟩,λh0=>Int.le_of_lt (h2.2 h0)⟩
   have:s[i] ∉ s.take i:=λhm=>by
    obtain ⟨j,hj,e⟩:=W1Q.1 hm;have:=Zfk h1 j i (by omega) (by omega);rw[eg i hi,eg j (by omega)]at this;omega
   simp[this]
def Zfm {l:Jl} {s:List Int}:truB l s=true↔truI l s s.length:=by
 unfold truB truI;rw[Za2];refine forall_congr' λj=>forall_congr' λhj=>?_
 rw[W01,W0b];refine and_congr_right λ_=>?_
 cases j with
 |zero=>simp
 |succ j=>simp
def Zfn (l:List Int) (n:Int) (h:Sml l):PC prog G 43 [.vsl (l.map ia),.int .i64 n] (.int .i64 (idx l n)):=by
 (refine Zem rfl λR hG hrd=>Qga ?_;subst hG)
 unfold Sml at h;simp -implicitDefEqProofs[Zek,Zel];refine Z9H (λi=>⟨[(8,.int .i64 i),(7,.int .i64 l.length),(0,.vsl (l.map ia)),(1,.int .i64 n)],[]⟩) (λi=>n ∉ l.take i) l.length (by (first|exact Wka|exact Wkb)) (by simp) ?_ ?_
 . intro i hi he;refine Qga ?_;have w1:i64.wrap ((i:Int)+1)=(i:Int)+1:=Yf;by_cases e:n=l[i]
   . have hm:n∈l:=e ▸ W0e hi
     have hix:l.idxOf n=i:=by
      have hs:=W11 i l;rw[W0x hi]at hs;rw[<- hs,List.idxOf_append,if_neg he,List.idxOf_cons];simp[e];omega
     have e2:idx l n=i:=(by rw[idx,if_pos hm,hix]);simp -implicitDefEqProofs[hi,ia,e];refine Qgr ?_;rw[e]at e2;simp -implicitDefEqProofs[e2]
   . simp -implicitDefEqProofs[hi,ia,e,w1];refine ⟨by (first|exact Wka|exact Wkb),?_⟩;rw[W08 hi,W0h,W0B];exact λh=>h.elim he e
 . intro he;rw[W0v]at he;refine Qga ?_;have e2:idx l n = -1:=(by rw[idx,if_neg he]);simp -implicitDefEqProofs;refine Qgr ?_;simp -implicitDefEqProofs[e2]
def Zfo (l:List Int) (n:Int) (h:Sml l):PC prog G 18 [.vsl (l.map ia),.int .i64 n] (.bool (decide (n∈l))):=by
 have hc:=Zfn (G:=G) l n h
 have e:decide (0<=idx l n)=decide (n∈l):=by
  have:=Za9 (l:=l) (n:=n);by_cases h:n∈l
  . rw[W0M h,W0M];have:¬idx l n<0:=λh2=>(this.1 h2) h
    omega
  . rw[W0S h,W0S];have:=this.2 h;omega
 (refine Zej rfl λR hG hrd=>Qga ?_;subst hG)
 simp -implicitDefEqProofs[Zeh,Zei];refine Qco (hc) ?_;simp -implicitDefEqProofs[e]
def Zfp (o:List (Nat×AObj)) (l:List Int):Yc o (.mp (lfA l))=true:=by
 simp only[Yc,W03,lfA,W0i];rintro _ ⟨y,-,rfl⟩;simp[Ya,AV.keys]
def Zfq (r:Jr) (l:Jl) (s:List Int) (hs:Sml s) (hU:(opU l).Nodup) (hl:(opU l).length<=12):PC prog G 128 [fileA r l,.vsl (s.map ia)] (.int .i64 (if truB l s=true then 0 else 31)):=by
 unfold Sml at hs;have hUs:(sortI (opU l)).Nodup:=(ZcW _).symm.nodup hU;have hsl:=Zd0 (opU l);obtain ⟨S,hS⟩:=Qex (sortI (opU l));have hSm:∀ n,n∈S↔n∈opU l:=λn=>by rw[hS];exact Zd1
 rw[<- hS]at hUs hsl
 have hO:(S=[]/\opA l = .nils)∨(S≠[]/\opA l = .vsl (S.map ia)):=by
  by_cases c:opU l=[]
  . exact .inl ⟨W0l.1 (by rw[hsl,c];rfl),by rw[opA,if_pos c]⟩
  . exact .inr ⟨λe=>c (W0l.1 (by rw[<- hsl,e];rfl)),by rw[opA,if_neg c,hS]⟩
 have key : ∀ R:Run,R.G=G->R.Top->∀ (rc:RCode),rc=dropZ 3 Ze0->AR prog R rc ⟨[(5,.mp 10),(1,.vsl (s.map ia))],[(10,.mp (lfA S))]⟩ (Fin Ze1 (.int .i64 (if truB l s=true then 0 else 31))):=λR _ _ rc hrc=>by
  subst hrc;refine Qga ?_;simp -implicitDefEqProofs[dropZ,Ze0];refine Z9H (λi=>⟨[(25,.int .i64 i),(24,.int .i64 s.length),(23,.vsl (s.map ia)),(5,.mp 10),(1,.vsl (s.map ia))],[(10,.mp (lfA (lfS S s i)))]⟩) (λi=>truI l s i) s.length ?_ (λj hj=>by omega) ?_ ?_
  . have e0:lfS S s 0=S:=by unfold lfS;simp
    ((try simp only[e0]);refine Ym.sub (by simp[lk,Ya,AV.keys,e0]) ?_;simp only[e0,Wkl,Zfp,and_true];(try simp[lk,Yc,Ya,AV.keys,e0]))
  . intro i hi hI;refine Qga ?_;have wi:i64.wrap ((i:Int)+1)=(i:Int)+1:=Yf;have gl:=Zbt s[i] (lfS S s i);have st:=Zfl hSm hi hI;have le:=Zfj (s:=s) hi hUs
    have no:¬truI l s (i+1)->truB l s=false:=λh=>by
     cases q:truB l s
     . rfl
     . exact absurd (λj hj=>Zfm.1 q j (by omega)) h
    by_cases hm:s[i]∈lfS S s i
    . rw [if_pos hm]at gl;have dl:=Zbw hm;rw[le]at dl
      cases i with
      | zero =>
        have w1:i64.wrap 1=1:=rfl;have h1:=st.1 ⟨hm,λh=>by omega⟩;simp -implicitDefEqProofs[hi,ia,gl,dl,w1];refine ⟨?_,h1⟩
        (refine Wkc ?_;simp only[Zfp,Wkl,and_true];(try simp[lk,Yc,Ya,AV.keys]))
      | succ k =>
        have hk:k<s.length:=(by omega);have k1:(k:Int)+1<s.length:=(by omega);have k2:((k:Int)+1).toNat=k+1:=(by omega);have k3:(0:Int)<=(k:Int)+1:=(by omega);have k4:(0:Int)<(k:Int)+1:=(by omega);have wk:i64.wrap ((k:Int)+1-1)=(k:Int):=(by rw[Yf (by omega) (by omega)];omega);have wk2:i64.wrap (k:Int)=(k:Int):=Yf;have wk3:i64.wrap ((k:Int)+1+1)=(k:Int)+1+1:=Yf;have eg:s.getD (k+1-1) 0=s[k]:=(by simp[W0j,hk]);rw[eg]at st;by_cases hlt:s[k+1]<s[k]
        . have hB:=no λh=>by have:=(st.2 h).2 (by omega);omega
          simp -implicitDefEqProofs[hi,hk,ia,gl,k1,k2,k3,k4,wk,wk2,hlt];refine Qgr ?_;simp -implicitDefEqProofs[hB,Ze1]
        . have h1:=st.1 ⟨hm,λ_=>by omega⟩;simp -implicitDefEqProofs[hi,hk,ia,gl,k1,k2,k3,k4,wk,wk2,wk3,hlt,dl];refine ⟨?_,h1⟩
          (refine Wkc ?_;simp only[Zfp,Wkl,and_true];(try simp[lk,Yc,Ya,AV.keys]))
    . rw[if_neg hm]at gl;have hB:=no λh=>hm (st.2 h).1
      simp -implicitDefEqProofs[hi,ia,gl];refine Qgr ?_;simp -implicitDefEqProofs[hB,Ze1]
  . intro hI;have hB:=Zfm.2 hI;refine Qga ?_;simp -implicitDefEqProofs;refine Qgr ?_;simp -implicitDefEqProofs[hB,Ze1]
 refine Ze2 rfl λR hG hrd=>?_
 have key:=key R hG hrd _ rfl;rcases hO with ⟨h1,h2⟩ | ⟨h1,h2⟩
 . refine Qga ?_;simp -implicitDefEqProofs[Ze0,fileA,h2];refine Z9H (λi=>⟨[(16,.int .i64 i),(15,.int .i64 0),(5,.mp 10),(1,.vsl (s.map ia))],[(10,.mp (lfA S))]⟩) (λ_=>True) 0 ?_ trivial (λi hi=>by omega) ?_
   . have e0:lfA []=[]:=rfl
     ((try simp only[h1,e0]);refine Ym.sub (by simp[lk,Ya,AV.keys,h1,e0]) ?_;simp only[h1,e0,Wkl,Zfp,and_true];(try simp[lk,Yc,Ya,AV.keys,h1,e0]))
   . intro _;refine Qga ?_;simp -implicitDefEqProofs;refine Z2S mixed 2 ?_;simp -implicitDefEqProofs;refine GOz (Z2R ?_ key)
     (refine Wkc ?_;simp only[Zfp,Wkl,and_true];(try simp[lk,Yc,Ya,AV.keys]))
 . refine Qga ?_;simp -implicitDefEqProofs[Ze0,fileA,h2];refine Z9H (λi=>⟨[(16,.int .i64 i),(15,.int .i64 S.length),(14,.vsl (S.map ia)),(5,.mp 10),(1,.vsl (s.map ia))],[(10,.mp (lfA (S.take i)))]⟩) (λ_=>True) S.length ?_ trivial ?_ ?_
   . have e0:lfA []=[]:=rfl
     ((try simp only[W1g,e0]);refine Ym.sub (by simp[lk,Ya,AV.keys,W1g,e0]) ?_;simp only[W1g,e0,Wkl,Zfp,and_true];(try simp[lk,Yc,Ya,AV.keys,W1g,e0]))
   . intro i hi _;refine Qga ?_;have wi:i64.wrap ((i:Int)+1)=(i:Int)+1:=Yf
     have hni:S[i] ∉ S.take i:=λhm=>by
      obtain ⟨j,hj,e⟩:=W1Q.1 hm;have:=(List.nodup_iff_pairwise_ne.1 hUs);have:=W0Y.1 this j i (by omega) hi (by omega);exact this e
     have pl:=Zbu hni;have e1:S.take i++[S[i]]=S.take (i+1):=(W08 hi).symm;rw[e1]at pl;simp -implicitDefEqProofs[hi,ia,pl,wi]
     (refine Wkc ?_;simp only[Zfp,Wkl,and_true];(try simp[lk,Yc,Ya,AV.keys]))
   . intro _;refine Qga ?_;simp -implicitDefEqProofs;refine Z2S mixed 2 ?_;simp -implicitDefEqProofs;refine GOz (Z2R ?_ key)
     ((try simp only[W0v]);refine Ym.sub (by simp[lk,Ya,AV.keys,W0v]) ?_;simp only[W0v,Wkl,Zfp,and_true];(try simp[lk,Yc,Ya,AV.keys,W0v]))
section
open Qq Tryz
end
section
open Qq Tryz
end
def GO0 {P:Program} {R:Run} {c:RCode} {ks:List KF} {Φ:Exit->St->Prop} {st:St} (h:AR P R c st (RetP P R ks Φ)):GO P R 0 (.run c) ks Φ st:=h
def mpA {α:Type} (f:α->AV) (l:List (Int×α)):List (AV×AV):=l.map λp=>(.int .i64 p.1,f p.2)
def mlk {α:Type} (n:Int):List (Int×α)->Option α
 |[]=>none
 |p::l=>if n=p.1 then some p.2 else mlk n l
def Zfr {α:Type} (f:α->AV) (n:Int):∀ l:List (Int×α),∃ o:Option Nat,(KK.i .i64).find (.int .i64 n) (mpA f l)=some o/\match o with
  |some j=>∃ v,l[j]? = some (n,v)/\mlk n l=some v
  |none=>mlk n l=none/\∀ p∈l,p.1≠n
 |[]=>⟨none,rfl,rfl,by simp⟩
 | p :: r=>by
   obtain ⟨o,h1,h2⟩:=Zfr f n r;by_cases e:n=p.1
   . refine ⟨some 0,by simp[mpA,KK.find,KK.eq,e],p.2,by simp[e],by simp[mlk,e]⟩
   . refine ⟨o.map (· + 1),?_,?_⟩
     . simp only[mpA,W0F,KK.find,KK.eq,and_self,if_true,e,W1x];rw[show r.map (λp=>(AV.int .i64 p.1,f p.2))=mpA f r from rfl,h1];rfl
     . cases o with
       |none=>exact ⟨by simp only[mlk,e,if_false];exact h2.1,λq hq=>by
        rcases W0g.1 hq with rfl|hq
        . exact λh=>e h.symm
        . exact h2.2 q hq⟩
       | some j =>
         obtain ⟨v,h3,h4⟩:=h2;exact ⟨v,by simpa using h3,by simp only[mlk,e,if_false];exact h4⟩
def Zfs {α:Type} (f:α->AV) (n:Int) (l:List (Int×α)):(KK.i .i64).get (.int .i64 n) (mpA f l)=some ((mlk n l).map f):=by
 obtain ⟨o,h1,h2⟩:=Zfr f n l;have hi:(KK.i .i64).is (.int .i64 n)=true:=(by simp[KK.is]);unfold KK.get;rw[if_pos hi,h1]
 cases o with
 |none=>simp[h2.1]
 |some j=>obtain ⟨v,h3,h4⟩:=h2;simp[mpA,h3,h4]
section
open Qq Tryz
end
def needL (n:Int) (l:List (Int×Int)):Bool:=l.any λy=>decide (y.1=n)
inductive Up (T:Int->Iss) (l:List Int) (d:Int):Int->Prop
 |base (n:Int) (hn:n∈l) (h:needL d (T n).its=true):Up T l d n
 |step (n m:Int) (hn:n∈l) (h:needL m (T n).its=true) (hm:Up T l d m):Up T l d n
def Up.trans {T:Int->Iss} {l:List Int} {d m n:Int} (h1:Up T l d m) (h2:Up T l m n):Up T l d n:=by
 induction h2 with
 |base n hn h=>exact .step n m hn h h1
 |step n k hn h _ ih=>exact .step n k hn h ih
def Up.mem {T:Int->Iss} {l:List Int} {d n:Int} (h:Up T l d n):n∈l:=by cases h <;> assumption
def Yg (l:List (List AV)):AV:=if l=[] then .nils else .vsl l
def Zft {l:List (List AV)} (h:l.all (λr=>r.all AV.pure)=true):(Yg l).pure=true:=by
 unfold Yg;split
 . simp[AV.pure]
 . simp[AV.pure]
def Zfu (l:List (List AV)):(Yg l).keys=[]:=by unfold Yg;split <;> simp[AV.keys]
def Zfv (o:List (Nat×AObj)) (l:List Int):Yc o (.mp (lfA l))=true:=by
 simp only[Yc,W03,lfA,W0i];rintro x ⟨y,-,rfl⟩;simp[Ya,AV.keys]
def mpP {α:Type} (n:Int) (v:α):List (Int×α)->List (Int×α)
 |[]=>[(n,v)]
 |p::l=>if n=p.1 then (n,v)::l else p::mpP n v l
def Zfw {α:Type} (n:Int) (v:α):∀ (l:List (Int×α)) (m:Int),mlk m (mpP n v l)=if m=n then some v else mlk m l
 |[],m=>by simp[mpP,mlk]
 | p :: l,m=>by
   have ih:=Zfw n v l m;simp only[mpP];by_cases e:n=p.1
   . rw[if_pos e];simp only[mlk];by_cases e2:m=n
     . rw[if_pos e2,if_pos e2]
     . rw[if_neg e2,if_neg e2,if_neg (by rw[<- e];exact e2)]
   . rw[if_neg e];simp only[mlk];by_cases e2:m=p.1
     . rw[if_pos e2,if_pos e2,if_neg (by rintro rfl;exact e e2)]
     . rw[if_neg e2,if_neg e2];exact ih
def Zfx {α:Type} (f:α->AV) (n:Int) (v:α):∀ l:List (Int×α),∃ o:Option Nat,(KK.i .i64).find (.int .i64 n) (mpA f l)=some o/\match o with
  |some j=>mpP n v l=l.set j (n,v)
  |none=>mpP n v l=l++[(n,v)]
 |[]=>⟨none,rfl,rfl⟩
 | p :: r=>by
   obtain ⟨o,h1,h2⟩:=Zfx f n v r;by_cases e:n=p.1
   . exact ⟨some 0,by simp[mpA,KK.find,KK.eq,e],by simp[mpP,e]⟩
   . refine ⟨o.map (· + 1),?_,?_⟩
     . simp only[mpA,W0F,KK.find,KK.eq,and_self,if_true,e,W1x];rw[show r.map (λp=>(AV.int .i64 p.1,f p.2))=mpA f r from rfl,h1];rfl
     . cases o with
       |none=>simp only[Option.map_none,mpP,if_neg e,h2];rfl
       |some j=>simp only[W0m,mpP,if_neg e,h2];rfl
def Zfy {α:Type} (f:α->AV) (n:Int) (v:α) (l:List (Int×α)):(KK.i .i64).put (.int .i64 n) (f v) (mpA f l)=some (mpA f (mpP n v l)):=by
 obtain ⟨o,h1,h2⟩:=Zfx f n v l;have hi:(KK.i .i64).is (.int .i64 n)=true:=(by simp[KK.is]);unfold KK.put;rw[if_pos hi,h1]
 cases o with
 |none=>simp only[h2];simp[mpA]
 |some j=>rw[h2];simp[mpA,W2q]
def ifK (s w:List Int) (m:Int) (l:Jl):Nat->Nat->List (Int×Bool)->List (Int×Bool)
 |0,_,K=>K
 |n+1,i,K=>if (mlk (i:Int) K).isSome=true then K else mpP (i:Int) (fB s w m l i) ((List.range (l.length-(i+1))).foldl (λK j=>if (gwB (bsF s w m) (λx y=>decide (y.ca=x.nu)) l (nAt l i) i (i+1+j)&&decide ((nAt l (i+1+j)).ca=(nAt l i).nu))=true then ifK s w m l n (i+1+j) K else K) K)
def stK (s w:List Int) (m:Int) (l:Jl) (n i:Nat) (K:List (Int×Bool)) (j:Nat):List (Int×Bool):=if (gwB (bsF s w m) (λx y=>decide (y.ca=x.nu)) l (nAt l i) i (i+1+j)&&decide ((nAt l (i+1+j)).ca=(nAt l i).nu))=true then ifK s w m l n (i+1+j) K else K
def lpK (s w:List Int) (m:Int) (l:Jl) (n i:Nat) (K:List (Int×Bool)) (j:Nat):List (Int×Bool):=(List.range j).foldl (stK s w m l n i) K
def Zfz {s w:List Int} {m:Int} {l:Jl} {n i:Nat} {K:List (Int×Bool)}:ifK s w m l (n+1) i K=if (mlk (i:Int) K).isSome=true then K else mpP (i:Int) (fB s w m l i) (lpK s w m l n i K (l.length-(i+1))):=rfl
def ZfA {s w:List Int} {m:Int} {l:Jl} {n i j:Nat} {K:List (Int×Bool)}:lpK s w m l n i K (j+1)=stK s w m l n i (lpK s w m l n i K j) j:=by rw[lpK,W1y,W1q];rfl
def OkK (s w:List Int) (m:Int) (l:Jl) (K:List (Int×Bool)):Prop:=∀ (i:Nat) (b:Bool),mlk (i:Int) K=some b->b=fB s w m l i
def ZfB {s w:List Int} {m:Int} {l:Jl}:∀ (n i:Nat) {K:List (Int×Bool)},OkK s w m l K->OkK s w m l (ifK s w m l n i K)
 |0,_,_,h=>h
 | n + 1,i,K,h=>by
   rw[Zfz]
   split
   . exact h
   . have key:∀ j,OkK s w m l (lpK s w m l n i K j):=by
      intro j
      induction j with
      |zero=>exact h
      | succ j ih =>
        rw[ZfA,stK]
        split
        . exact ZfB n _ ih
        . exact ih
     intro k b hb;rw[Zfw]at hb
     split at hb
     . rename_i e;have e:k=i:=(by omega);subst e;exact (W1L hb).symm
     . exact key _ k b hb
def ZfC {s w:List Int} {m:Int} {l:Jl} {n i:Nat} {K:List (Int×Bool)} (h:OkK s w m l K):∀ j,OkK s w m l (lpK s w m l n i K j)
 |0=>h
 | j+1=>by
   rw[ZfA,stK]
   split
   . exact ZfB n _ (ZfC h j)
   . exact ZfC h j
def ZfD {α:Type} {p:α->Bool} {h:α->α->Bool} {l:List α} {x:α} {i:Nat}:∀ {k j:Nat},i<k->k<=j->j<=l.length->gwB p h l x i k=false->gwB p h l x i j=false
 |k,0,h1,h2,_,_=>by omega
 | k,j+1,h1,h2,h3,h4=>by
   rcases W0q k (j+1) with h5|h5
   . rw[ZcN (by omega) (by omega),ZfD h1 (by omega:k<=j) (by omega) h4];rfl
   . obtain rfl:k=j+1:=(by omega);exact h4
def ZfE {s w:List Int} {m:Int} {l:Jl} {n i:Nat} {K:List (Int×Bool)} {j:Nat} (hj:gwB (bsF s w m) (λx y=>decide (y.ca=x.nu)) l (nAt l i) i (i+1+j)=false):∀ j',j<=j'->i+1+j'<=l.length->lpK s w m l n i K j'=lpK s w m l n i K j
 | 0, h, _ => by obtain rfl:j=0:=by omega
                 rfl
 | j'+1,h,h2=>by
   rcases W0q j (j'+1) with h5|h5
   . rw[ZfA,stK,ZfD (by omega) (by omega:i+1+j<=i+1+j') (by omega) hj];exact ZfE hj j' (by omega) (by omega)
   . obtain rfl:j=j'+1:=(by omega);rfl
def ZfF (o:List (Nat×AObj)) (l:List (Int×Bool)):Yc o (.mp (mpA AV.bool l))=true:=by
 simp only[Yc,W03,mpA,W0i];rintro _ ⟨y,-,rfl⟩;simp[Ya,AV.keys]
def ZfG (ρ:Nat->Nat) (l:List (Int×Bool)):(mpA AV.bool l).map (λp=>(p.1.ren ρ,p.2.ren ρ))=mpA AV.bool l:=by
 simp[mpA,W0y,AV.ren]
def ZfH (ok:Nat->Bool) (st:St) (l:List (Int×Bool)):frzO ok st (.mp (mpA AV.bool l)) = .mp (mpA AV.bool l):=by
 simp only[frzO,mpA,W10]
 congr 1
 refine W0K λp _=>?_
 simp[frzA,frz,AV.keys]
def fcO (F sV wV:AV) (m:Int) (K:List (Int×Bool)):List (Nat×AObj) :=
 [(1009,.box [.mp 1011]),(1004,.box [F]),(1005,.box [sV]),(1006,.box [wV]),(1007,.box [.int .i64 m]),(1010,.box [.func (.func 103) [] [.ptr 1009 0,.ptr 1004 0,.ptr 1005 0,.ptr 1006 0,.ptr 1007 0,.ptr 1010 0]]),(1011,.mp (mpA AV.bool K))]
def fcC:List AV:=[.ptr 1009 0,.ptr 1004 0,.ptr 1005 0,.ptr 1006 0,.ptr 1007 0,.ptr 1010 0]
def liA (nl:Bool) (s:List Int):AV:=if nl=true/\s=[] then .nils else .vsl (s.map ia)
def ZfI (nl:Bool) (s:List Int):(liA nl s).pure=true:=by unfold liA;split <;> simp[AV.pure,ia]
def ZfJ (nl:Bool) (s:List Int):(liA nl s).keys=[]:=by unfold liA;split <;> simp[AV.keys]
def ZfK (ok:Nat->Bool) (st:St) (nl:Bool) (s:List Int):frz ok st 6 (liA nl s)=some (liA nl s):=by unfold liA;split <;> simp[frz,AV.keys]
def ZfL (ρ:Nat->Nat) (nl:Bool) (s:List Int):(liA nl s).ren ρ=liA nl s:=by unfold liA;split <;> simp[AV.ren]
def ZfM (ok:Nat->Bool) (st:St) (xs:List AV):frzO ok st (.box xs) = .box (xs.map (frzA ok st)):=rfl
def ZfN (n:Int):PC prog G 18 [.nils,.int .i64 n] (.bool false):=by
 have hi:PC prog G 43 [.nils,.int .i64 n] (.int .i64 (-1)):=by
  (refine Zem rfl λR hG hrd=>Qga ?_;subst hG)
  simp -implicitDefEqProofs[Zek,Zel];refine Z9H (λi=>⟨[(8,.int .i64 i),(7,.int .i64 0)],[]⟩) (λi=>True) 0 (by (first|exact Wka|exact Wkb)) trivial (λi hi=>by omega) ?_;intro _;refine Qga ?_;simp -implicitDefEqProofs;refine Qgr ?_;simp -implicitDefEqProofs
 (refine Zej rfl λR hG hrd=>Qga ?_;subst hG)
 simp -implicitDefEqProofs[Zeh,Zei];refine Qco (hi) ?_;simp -implicitDefEqProofs
def ZfO (nl:Bool) (s:List Int) (n:Int) (h:Sml s):PC prog G 18 [liA nl s,.int .i64 n] (.bool (decide (n∈s))):=by
 unfold liA
 split
 . rename_i e;rw[e.2];exact ZfN n
 . exact Zfo s n h
def is_pb (r:Jr) (l:Jl) (ns nw:Bool) (s w:List Int) (m:Int) (hl:l.length<=12) (hs:Sml s) (hw:Sml w):∀ (n i:Nat) (K:List (Int×Bool)),i<l.length->l.length-i<=n->OkK s w m l K ->
  PB prog G 103 (fcO (fileA r l) (liA ns s) (liA nw w) m K) (.int .i64 i::fcC) (.bool (fB s w m l i)) (fcO (fileA r l) (liA ns s) (liA nw w) m (ifK s w m l n i K))
 |0,i,K,hi,hn,_=>by omega
 | n + 1, i, K,hi,hn,hK=>by
   have hrec:=λk K h1 h2 h3=>is_pb r l ns nw s w m hl hs hw n k K h1 h2 h3
   have gK:=Zfs AV.bool (i:Int) K;have hx:=ZcF hi;have c1:=ZfO (G:=G) ns s (nAt l i).nu hs;have c2:=ZfO (G:=G) nw w (nAt l i).nu hw;have c3:=ZeM (G:=G) (nAt l i).fr (nAt l i).tu m;have fe:=ZcL (p:=bsF s w m) (h:=λx y:Nte=>decide (y.ca=x.nu)) hi;have k1:=ZfJ ns s;have k2:=ZfJ nw w;have p1:=ZfI ns s;have p2:=ZfI nw w;have r1:=λρ=>ZfL ρ ns s
   have r2:=λρ=>ZfL ρ nw w
   have f1:=λok st=>ZfK ok st ns s
   have f2:=λok st=>ZfK ok st nw w
   rw[Zfz];generalize liA ns s=sV at *;generalize liA nw w=wV at *;have hF:fileA r l = .vptr [.vsl (r.map isa),.vsl (l.map na),.vsl ((nums r).map ia),opA l] 0:=rfl;have fF:∀ ok st,frz ok st 6 (fileA r l)=some (fileA r l):=λok st=>by rw[hF];simp[frz,AV.keys]
   have kF:(fileA r l).keys=[]:=(by rw[hF];simp[AV.keys]);refine Zea (W0C rfl) λR hG hrd=>?_
   subst hG
   cases q:mlk (i:Int) K with
   | some b =>
     have eb:=hK i b q;rw[q]at gK;refine Qga ?_;simp -implicitDefEqProofs[Ze8,Ze9,fcO,fcC,gK,eb];simp -implicitDefEqProofs[FinB,Yi,newK,ZfH,ZfM,frzA,frz,fF,f1,f2,tupV,Z29,Ze9]
   | none =>
     rw[q]at gK;have hna:na (nAt l i)=[.int .i64 (nAt l i).nu,.int .i64 (nAt l i).dy,.int .u8 (nAt l i).sg,.int .i64 (nAt l i).dr,.int .i64 (nAt l i).lt,.int .i64 (nAt l i).fr,.int .i64 (nAt l i).tu,.int .i64 (nAt l i).ca,.bool (nAt l i).up,.int .u8 (nAt l i).wy]:=rfl;rw[<- hx]at fe;have lok:=λj=>ZfC (n:=n) (i:=i) hK j
     have lsu:=λj=>ZfA (s:=s) (w:=w) (m:=m) (l:=l) (n:=n) (i:=i) (j:=j) (K:=K)
     have lst:=λj=>ZfE (s:=s) (w:=w) (m:=m) (l:=l) (n:=n) (i:=i) (K:=K) (j:=j)
     unfold stK at lsu;have gb:=ZcM (p:=bsF s w m) (h:=λx y:Nte=>decide (y.ca=x.nu)) (l:=l) (x:=nAt l i) (i:=i);have gs:=λk=>ZcN (p:=bsF s w m) (h:=λx y:Nte=>decide (y.ca=x.nu)) (l:=l) (x:=nAt l i) (i:=i) (k:=k)
     have gst:=λk j (h1:i<k) (h2:k<=j) (h3:j<=l.length)=>ZfD (p:=bsF s w m) (h:=λx y:Nte=>decide (y.ca=x.nu)) (l:=l) (x:=nAt l i) h1 h2 h3
     have fbs:fB s w m l i=gwB (bsF s w m) (λx y=>decide (y.ca=x.nu)) l (nAt l i) i l.length:=fe;rw[fbs];have pm:=λb K=>Zfy AV.bool (i:Int) b K
     generalize hxx:nAt l i=x at *;have hlx:l[i]=x:=hx.symm;unfold Ze8;refine ZcR (S:=⟨[(0,.int .i64 i),(1,.ptr 1009 0),(2,.ptr 1004 0),(3,.ptr 1005 0),(4,.ptr 1006 0),(5,.ptr 1007 0),(6,.ptr 1010 0)],fcO (.vptr [.vsl (r.map isa),.vsl (l.map na),.vsl ((nums r).map ia),opA l] 0) sV wV m K⟩) (Qga ?_) ?_
     . simp -implicitDefEqProofs[fcO,fcC,hF]
       ((try simp only[ZfF,k1,k2]);refine Ym.sub (by simp[lk,Ya,AV.keys,ZfF,k1,k2]) ?_;simp only[ZfF,k1,k2,Wkl,and_true];(try simp[lk,Yc,Ya,AV.keys,ZfF,k1,k2]))
     refine ZcR (S:=⟨[(0,.int .i64 i),(1,.ptr 1009 0),(2,.ptr 1004 0),(3,.ptr 1005 0),(4,.ptr 1006 0),(5,.ptr 1007 0),(6,.ptr 1010 0)],fcO (.vptr [.vsl (r.map isa),.vsl (l.map na),.vsl ((nums r).map ia),opA l] 0) sV wV m K⟩) (Qga ?_) ?_
     . simp -implicitDefEqProofs[fcO,gK]
       ((try simp only[ZfF,k1,k2]);refine Ym.sub (by simp[lk,Ya,AV.keys,ZfF,k1,k2]) ?_;simp only[ZfF,k1,k2,Wkl,and_true];(try simp[lk,Yc,Ya,AV.keys,ZfF,k1,k2]))
     refine ZcR (S:=⟨[(0,.int .i64 i),(1,.ptr 1009 0),(2,.ptr 1004 0),(3,.ptr 1005 0),(4,.ptr 1006 0),(5,.ptr 1007 0),(6,.ptr 1010 0),(11,.ptr 11 0)],(11,.box (na x))::fcO (.vptr [.vsl (r.map isa),.vsl (l.map na),.vsl ((nums r).map ia),opA l] 0) sV wV m K⟩) (Qga ?_) ?_
     . simp -implicitDefEqProofs[fcO,hi,hlx,hna]
       ((try simp only[ZfF,k1,k2,hna]);refine Ym.sub (by simp[lk,Ya,AV.keys,ZfF,k1,k2,hna]) ?_;simp only[ZfF,k1,k2,hna,Wkl,and_true];(try simp[lk,Yc,Ya,AV.keys,ZfF,k1,k2,hna]))
     refine ZcR (S:=⟨[(0,.int .i64 i),(1,.ptr 1009 0),(2,.ptr 1004 0),(3,.ptr 1005 0),(4,.ptr 1006 0),(5,.ptr 1007 0),(6,.ptr 1010 0),(11,.ptr 11 0),(12,.bool (bsF s w m x))],(11,.box (na x))::fcO (.vptr [.vsl (r.map isa),.vsl (l.map na),.vsl ((nums r).map ia),opA l] 0) sV wV m K⟩) (Qga ?_) ?_
     . unfold bsF;have go3:∀ b:Bool,(decide (x.sg=2)||decide (x.nu∈s))=b->True:=λ_ _=>trivial
       by_cases e1:x.sg=2
       . simp -implicitDefEqProofs[fcO,hna,e1,p1,p2];refine Yd.of c2 (by simp[p2,AV.pure]) ?_;by_cases e2:x.nu∈w
         . simp -implicitDefEqProofs[e2,p1,p2]
           ((try simp only[ZfF,k1,k2,fcO]);refine Ym.sub (by simp[lk,Ya,AV.keys,ZfF,k1,k2,fcO]) ?_;simp only[ZfF,k1,k2,fcO,Wkl,and_true];(try simp[lk,Yc,Ya,AV.keys,ZfF,k1,k2,fcO]))
         . simp -implicitDefEqProofs[e2,p1,p2];refine Qco (c3) ?_;simp -implicitDefEqProofs
           ((try simp only[ZfF,k1,k2,fcO]);refine Ym.sub (by simp[lk,Ya,AV.keys,ZfF,k1,k2,fcO]) ?_;simp only[ZfF,k1,k2,fcO,Wkl,and_true];(try simp[lk,Yc,Ya,AV.keys,ZfF,k1,k2,fcO]))
       . simp -implicitDefEqProofs[fcO,hna,e1,p1,p2];refine Yd.of c1 (by simp[p1,AV.pure]) ?_;by_cases e3:x.nu∈s
         . simp -implicitDefEqProofs[e3,p1,p2];refine Yd.of c2 (by simp[p2,AV.pure]) ?_;by_cases e2:x.nu∈w
           . simp -implicitDefEqProofs[e2,p1,p2]
             ((try simp only[ZfF,k1,k2,fcO]);refine Ym.sub (by simp[lk,Ya,AV.keys,ZfF,k1,k2,fcO]) ?_;simp only[ZfF,k1,k2,fcO,Wkl,and_true];(try simp[lk,Yc,Ya,AV.keys,ZfF,k1,k2,fcO]))
           . simp -implicitDefEqProofs[e2,p1,p2];refine Qco (c3) ?_;simp -implicitDefEqProofs
             ((try simp only[ZfF,k1,k2,fcO]);refine Ym.sub (by simp[lk,Ya,AV.keys,ZfF,k1,k2,fcO]) ?_;simp only[ZfF,k1,k2,fcO,Wkl,and_true];(try simp[lk,Yc,Ya,AV.keys,ZfF,k1,k2,fcO]))
         . simp -implicitDefEqProofs[e3,p1,p2]
           ((try simp only[ZfF,k1,k2,fcO]);refine Ym.sub (by simp[lk,Ya,AV.keys,ZfF,k1,k2,fcO]) ?_;simp only[ZfF,k1,k2,fcO,Wkl,and_true];(try simp[lk,Yc,Ya,AV.keys,ZfF,k1,k2,fcO]))
     rw[<- gb];have w1:i64.wrap ((i:Int)+1)=((i+1:Nat):Int):=Yf;refine ZcR (S:=⟨[(0,.int .i64 i),(1,.ptr 1009 0),(12,.bool (gwB (bsF s w m) (λx y=>decide (y.ca=x.nu)) l x i l.length))],fcO (.vptr [.vsl (r.map isa),.vsl (l.map na),.vsl ((nums r).map ia),opA l] 0) sV wV m (lpK s w m l n i K (l.length-(i+1)))⟩) (Qga ?_) ?_
     . simp -implicitDefEqProofs[w1];refine Z1Q (λk=>⟨[(0,.int .i64 i),(1,.ptr 1009 0),(2,.ptr 1004 0),(3,.ptr 1005 0),(4,.ptr 1006 0),(5,.ptr 1007 0),(6,.ptr 1010 0),(11,.ptr 11 0),(12,.bool (gwB (bsF s w m) (λx y=>decide (y.ca=x.nu)) l x i k)),(13,.int .i64 (k:Int))],(11,.box (na x))::fcO (.vptr [.vsl (r.map isa),.vsl (l.map na),.vsl ((nums r).map ia),opA l] 0) sV wV m (lpK s w m l n i K (k-(i+1)))⟩) (λk=>i+1<=k/\k<=l.length) (λk=>l.length-k) (i+1) (by ((try simp only[ZfF,k1,k2,fcO,lpK,List.range_zero,List.foldl_nil,hna,W2p]);refine Ym.sub (by simp[lk,Ya,AV.keys,ZfF,k1,k2,fcO,lpK,List.range_zero,List.foldl_nil,hna,W2p]) ?_;simp only[ZfF,k1,k2,fcO,lpK,List.range_zero,List.foldl_nil,hna,W2p,Wkl,and_true];(try simp[lk,Yc,Ya,AV.keys,ZfF,k1,k2,fcO,lpK,List.range_zero,List.foldl_nil,hna,W2p]))) ⟨by omega,by omega⟩ ?_;rintro k ⟨hk1,hk2⟩;have gst':=gst k l.length hk1 hk2 (W0f _);have lst':=lst (k-(i+1)) ;rw[show i+1+(k-(i+1))=k by omega]at lst';by_cases hb:gwB (bsF s w m) (λx y=>decide (y.ca=x.nu)) l x i k=true
       . rcases W0q k l.length with h5|h5
         . have w2:i64.wrap ((k:Int)+1)=(((k+1:Nat)):Int):=(by rw[Yf (by omega) (by omega)];omega);have hnj:na (nAt l k)=[.int .i64 (nAt l k).nu,.int .i64 (nAt l k).dy,.int .u8 (nAt l k).sg,.int .i64 (nAt l k).dr,.int .i64 (nAt l k).lt,.int .i64 (nAt l k).fr,.int .i64 (nAt l k).tu,.int .i64 (nAt l k).ca,.bool (nAt l k).up,.int .u8 (nAt l k).wy]:=rfl;have hy:=ZcF h5;have hg:=gs k (by omega) h5;have hr:=hrec k (lpK s w m l n i K (k-(i+1))) h5 (by omega) (lok _);have hls:=lsu (k-(i+1));rw[show i+1+(k-(i+1))=k by omega,show k-(i+1)+1=k+1-(i+1) by omega]at hls;rw[hb,W1k]at hg hls;rw[<- hy]at hg;change _ = !(fB s w m l k&&_) at hg;generalize hyy:nAt l k=y at *;have hly:l[k]=y:=hy.symm;by_cases h6:y.ca=x.nu
           . simp only[h6,W1i,W2b,if_true]at hg hls;rw[fcO,hF]at hr;refine Yb mixed 9 ?_;simp -implicitDefEqProofs[hb,h5,hna,h6,fcO,hly,hnj];refine GO0 (Z5n mixed 15 (by decide) ?_);simp -implicitDefEqProofs[hb,h5,hna,h6,fcO,hly,hnj];refine ⟨rfl,Yd.sem (Z1B.byref hr id (by simp) (by simp) (by simp[St.get,lk,AV.ren,AObj.ren,ZfG,r1,r2]) (by simp only[W0g,W0Q,or_false,W1M,forall_eq,ZfF,and_true];simp[lk,Yc,Ya,AV.keys,k1,k2]) (by simp[Ya,AV.keys,lk,rega,fcC]) rfl (by simp[AV.ren,rega,fcC]) rfl rfl) ?_⟩;simp -implicitDefEqProofs[Yl,fcO,AV.ren,AObj.ren,ZfG,r1,r2];refine Qgr ?_;simp -implicitDefEqProofs[w2];refine ⟨k+1,?_,⟨by omega,by omega⟩,(by show l.length-(k+1)<l.length-k;omega)⟩;simp only[hg,hls]
             ((try simp only[ZfF,k1,k2,hna]);refine Ym.sub (by simp[lk,Ya,AV.keys,ZfF,k1,k2,hna]) ?_;simp only[ZfF,k1,k2,hna,Wkl,and_true];(try simp[lk,Yc,Ya,AV.keys,ZfF,k1,k2,hna]))
           . simp only[h6,W1x,W29,W1E,W05,if_false]at hg hls;refine Qga ?_;simp -implicitDefEqProofs[hb,h5,hna,h6,fcO,hly,hnj,w2];refine ⟨rfl,k+1,?_,⟨by omega,by omega⟩,(by show l.length-(k+1)<l.length-k;omega)⟩;simp only[hg,hls]
             ((try simp only[ZfF,k1,k2,hna]);refine Ym.sub (by simp[lk,Ya,AV.keys,ZfF,k1,k2,hna]) ?_;simp only[ZfF,k1,k2,hna,Wkl,and_true];(try simp[lk,Yc,Ya,AV.keys,ZfF,k1,k2,hna]))
         . obtain rfl:k=l.length:=(by omega);refine Qga ?_;simp -implicitDefEqProofs[hb,fcO];refine Qgr ?_;simp -implicitDefEqProofs
           ((try simp only[ZfF,k1,k2,hna]);refine Ym.sub (by simp[lk,Ya,AV.keys,ZfF,k1,k2,hna]) ?_;simp only[ZfF,k1,k2,hna,Wkl,and_true];(try simp[lk,Yc,Ya,AV.keys,ZfF,k1,k2,hna]))
       . have hb:gwB (bsF s w m) (λx y=>decide (y.ca=x.nu)) l x i k=false:=(by simpa using hb);have e1:=lst' hb (l.length-(i+1)) (by omega) (by omega);rw[e1,gst' hb];refine Qga ?_;simp -implicitDefEqProofs[hb,fcO];refine Qgr ?_;simp -implicitDefEqProofs
         ((try simp only[ZfF,k1,k2,hna]);refine Ym.sub (by simp[lk,Ya,AV.keys,ZfF,k1,k2,hna]) ?_;simp only[ZfF,k1,k2,hna,Wkl,and_true];(try simp[lk,Yc,Ya,AV.keys,ZfF,k1,k2,hna]))
     refine Qga ?_;have pm':=pm (gwB (bsF s w m) (λx y=>decide (y.ca=x.nu)) l x i l.length) (lpK s w m l n i K (l.length-(i+1)));simp -implicitDefEqProofs[fcO,pm'];simp -implicitDefEqProofs[FinB,Yi,newK,ZfH,ZfM,frzA,frz,hF,f1,f2,tupV,Z29,Ze9]
def ZfP {r:Jr} {l:Jl} (h:ZcI r l=true):(l.map (·.nu)).Nodup:=by
 simp only[ZcI,W01]at h;have h1:=Za2.1 h.1.2;rw[List.nodup_iff_pairwise_ne,W2n,W0Y];intro i j hi hj hij e;have h2:=h1 j hj;simp only[noteB,W01]at h2;have h3:=h2.1.2;simp only[cN7,W1C,W25]at h3;refine h3 l[i] (W1Q.2 ⟨i,by omega,rfl⟩) ?_;rw[ZcF hj];simpa using e
def ZfQ {r:Jr} {l:Jl} (h:ZcI r l=true):(opU l).Nodup/\(opU l).length<=12:=by
 refine ⟨?_,?_⟩
 . exact List.Sublist.nodup (by unfold opU opN;rw[W0v];exact (List.filter_sublist).map _) (ZfP h)
 . simp only[ZcI,W01,W0b]at h;have:=h.2;unfold opU;rw[W0N];omega
def ZfR (r:Jr) (l:Jl):(fileA r l).pure=true:=by unfold fileA opA;split <;> simp[AV.pure,isa,na]
def ZfS (ok:Nat->Bool) (st:St) (r:Jr) (l:Jl):Yh ok st 6 (fileA r l)=some (fileA r l):=by
 have h:=ZfR r l;unfold fileA at *;simp[Yh,h]
def ZfT (r:Jr) (l:Jl):(fileA r l).one=true:=by unfold fileA;simp[AV.one,AV.known]
def ZfU (hG:GC G) (hN:GN G) (r:Jr) (l:Jl) (hw:WfN l) (hr:Wf r):PC prog G 54 [.agg [.vsl (r.map isa),.vsl (l.map na)]] (.int .i64 (chN r l)):=by
 have ho:=Zfh hG hN r l hw hr;unfold opdA at ho
 (refine ZdZ rfl λR hG hrd=>Qga ?_;subst hG)
 simp -implicitDefEqProofs[ZdX,ZdY];refine Qco (ho) ?_;simp -implicitDefEqProofs
def askA (r:Jr) (l:Jl) (s:List Int) (m:Int):AV:=.tup [if asN r l s m=0 then fileA r l else .nilp,.int .i64 (asN r l s m)]
def ZfV (hG:GC G) (hN:GN G) (r:Jr) (l:Jl) (s:List Int) (m:Int) (hw:WfN l) (hr:Wf r) (hs:Sml s):PC prog G 100 [.agg [.vsl (r.map isa),.vsl (l.map na)],.vsl (s.map ia),.int .i64 m] (askA r l s m):=by
 have ho:=Zfh hG hN r l hw hr;have hi:=ZeM (G:=G) 1 999 m;unfold opdA at ho
 (refine Ze5 rfl λR hG hrd=>Qga ?_;subst hG)
 unfold askA asN;by_cases h0:chN r l=0
 . have hB:ZcI r l=true:=by
    unfold chN at h0
    split at h0
    . cases q:ZcI r l
      . rw[q]at h0;cases h0
      . rfl
    . rename_i e;exact absurd h0 e
   have hU:=ZfQ hB;have ht:=Zfq (G:=R.G) r l s hs hU.1 hU.2;have hp:=ZfR r l;have sn:=λok st=>ZfS ok st r l
   have h1:=ZfT r l;rw[if_pos h0,h0]at ho;generalize fileA r l=F at *;simp -implicitDefEqProofs[Ze3,Ze4];refine Qco (ho) ?_;simp -implicitDefEqProofs[h0];refine Yd.of ht (by simp[hp,AV.pure]) ?_
   cases q:truB l s
   . simp -implicitDefEqProofs[q]
   . simp -implicitDefEqProofs[q];refine Qco (hi) ?_
     cases q2:inR m 1 999
     . simp -implicitDefEqProofs[q2]
     . simp -implicitDefEqProofs[q2,hp,sn]
 . rw[if_neg h0]at ho;simp -implicitDefEqProofs[Ze3,Ze4];refine Qco (ho) ?_;simp -implicitDefEqProofs[h0]
def ffC:AV:=.func (.func 103) [] [.ptr 9 0,.ptr 4 0,.ptr 5 0,.ptr 6 0,.ptr 7 0,.ptr 10 0]
def ffO (F sV wV:AV) (m:Int):List (Nat×AObj):=[(4,.box [F]),(5,.box [sV]),(6,.box [wV]),(7,.box [.int .i64 m]),(11,.mp []),(9,.box [.mp 11]),(10,.box [ffC])]
def ffK (k:Nat):Bool:=decide (k<1000) && !(k == 4||k == 5||k == 6||k == 7||k == 9||k == 10||k == 11)
def ZfW (r:Jr) (l:Jl) (ns nw:Bool) (s w:List Int) (m:Int):PB prog G 82 [] [fileA r l,liA ns s,liA nw w,.int .i64 m] ffC (ffO (fileA r l) (liA ns s) (liA nw w) m):=by
 have hF:fileA r l = .vptr [.vsl (r.map isa),.vsl (l.map na),.vsl ((nums r).map ia),opA l] 0:=rfl;have hc:∀ (b:Bool) (s:List Int),liA b s = .nils∨liA b s = .vsl (s.map ia):=λb s=>by unfold liA;split;exact .inl rfl;exact .inr rfl
 refine Z5j ffK (by intro k hk;simp[ffK]at hk;omega) Tryz.func82 rfl (by kernel_rfl) (rc:=Ze6) (by kernel_rfl) (rs:=Ze7) (by kernel_rfl) (W0C rfl) λR _ hG hrd=>Qga ?_
 rw[hF];rcases hc ns s with h1|h1 <;> rcases hc nw w with h2|h2 <;> rw[h1,h2]
 . simp -implicitDefEqProofs[Ze6,Ze7];simp -implicitDefEqProofs[FinO,Yi,ffK,ZfM,frzO,frzA,frz,Yj,AV.keys,tupV,Z29,ffC,ffO]
 . simp -implicitDefEqProofs[Ze6,Ze7];simp -implicitDefEqProofs[FinO,Yi,ffK,ZfM,frzO,frzA,frz,Yj,AV.keys,tupV,Z29,ffC,ffO]
 . simp -implicitDefEqProofs[Ze6,Ze7];simp -implicitDefEqProofs[FinO,Yi,ffK,ZfM,frzO,frzA,frz,Yj,AV.keys,tupV,Z29,ffC,ffO]
 . simp -implicitDefEqProofs[Ze6,Ze7];simp -implicitDefEqProofs[FinO,Yi,ffK,ZfM,frzO,frzA,frz,Yj,AV.keys,tupV,Z29,ffC,ffO]
def frK (s w:List Int) (m:Int) (l:Jl) (i:Nat):List (Int×Bool):=(List.range i).foldl (λK j=>ifK s w m l l.length j K) []
section
open Qq Tryz
def ZfX:RCode :=
 S [r 0 [b 1 0,n 2 .nils],r 1 [L 8 2 1,c 9 119 [8],m 3 9],r 2 [n 4 .nils],S [r 3 [n 5 O],.block 0 (.loop (S [S [r 4 [m 10 5,m 11 3,e 12 11,w 13 (.vop (.sh true) [(.c I),(.t 12)]),o 14 .lss 10 13],.cond (.t 14) .skip (.exit 0)],.block 1 (S [r 6 [w 17 (.bsl true 1 0 [] []),m 6 17],S [r 7 [n 7 O],.block 2 (.loop (S [S [r 8 [m 18 7,m 19 3,e 20 19,o 21 .lss 18 20],.cond (.t 21) .skip (.exit 2)],.block 3 (S [r 10 [m 24 5,m 25 7,w 26 (.vop (.sh false) [(.t 24),(.t 25)]),w 27 (.vop (.bits .and) [(.t 26),(.c I)]),k 28 .eql 27 I],.cond (.t 28) (R 11 [m 29 6,f 30 1 1,a [1] (l 31 30),m 32 3,m 33 7,a [3,4] (i 34 1 32 33),a [5] (l 35 34),a [2,6] (i 36 10 31 35),a [7] (f 37 0 36),a [8] (l 38 37),a [9] (w 39 (.bsl false 1 1 [O] [(0,.t 38)])),a [0,10] (w 40 (.app 1 8 (.t 29) (.t 39))),a [11,11,0,1,2,3,4,5,6,7,8,9,10,11] (m 6 40)]) .skip]),r 9 [m 22 7,k 23 .add 22 I,m 7 23]]))],r 12 [m 41 4,m 42 6,w 43 (.bsl false 1 1 [.nils] [(0,.t 42)]),w 44 (.app 1 24 (.t 41) (.t 43)),m 4 44]]),r 5 [m 15 5,k 16 .add 15 I,m 5 16]]))],r 13 [m 45 4,m 2 45],.ret]
def ZfY:List RRes:=[.t 2]
def ZfZ:PCt prog 87 f87 ZfX ZfY:=pcT func87 rfl
end
section
open Qq Tryz
end
section
open Qq Tryz
end
section
open Qq Tryz
end
structure Rul where
 nu:Int
 dy:Int
 fd:Int
 fl:Int
 td:Int
 tl:Int
 bo:Bool
 br:Int
 deriving DecidableEq,Inhabited
def ra (x:Rul):List AV:=[.int .i64 x.nu,.int .i64 x.dy,.int .i64 x.fd,.int .i64 x.fl,.int .i64 x.td,.int .i64 x.tl,.bool x.bo,.int .i64 x.br]
def sB (day:Int) (q:List Rul) (i:Nat):Bool:=gcB (λx=>decide (x.dy<=day)) (λx y=>decide (y.br=x.nu)) q i
structure Stq where
 fd:Int
 fl:Int
 td:Int
 tl:Int
 nu:Int
 nt:Bool
 deriving DecidableEq,Inhabited
def ja (j:Nat):List AV:=[.int .i64 (j:Int)]
def Zg0 (o:List (Nat×AObj)) (l:List Nat):Yc o (.row 1 (l.map ja))=true:=by
 simp only[Yc,W03,W0i];rintro x ⟨y,-,rfl⟩ v hv;simp only[ja,W0B]at hv;subst hv;simp[Ya,AV.keys]
def opW (r:Jr) (l:Jl) (i:Nat):St :=
 if opI l i=[] then ⟨[(4,.int .i64 i),(3,.nils),(1,.ptr 1 0)],[(1,.box [.vsl (r.map isa),.vsl (l.map na)])]⟩
 else ⟨[(4,.int .i64 i),(3,.osl 24 (opI l i).length),(1,.ptr 1 0)],[(24,.row 1 ((opI l i).map ja)),(1,.box [.vsl (r.map isa),.vsl (l.map na)])]⟩
def jnK (L:List Nat) (i p:Nat):List Nat:=L.take p++i::L.drop p
def opX (r:Jr) (l:Jl) (i:Nat) (L:List Nat) (p:Nat):St:=⟨[(5,.int .i64 p),(4,.int .i64 i),(3,.osl 24 (L.length+1)),(1,.ptr 1 0)],[(24,.row 1 ((jnK L i p).map ja)),(1,.box [.vsl (r.map isa),.vsl (l.map na)])]⟩
def Zg1 {L:List Nat} {i p:Nat} (h:p<L.length):(jnK L i (p+1))[p]? = some L[p]/\(jnK L i (p+1))[p+1]? = some i/\(jnK L i (p+1)).length=L.length+1/\((jnK L i (p+1)).set (p+1) L[p]).set p i=jnK L i p:=by
 unfold jnK;have hl:(L.take p).length=p:=(by simp;omega);rw[W08 h,W0U,W1e,W18];refine ⟨?_,?_,?_,?_⟩
 . rw[W0o (by omega),hl,W2p];rfl
 . rw[W0o (by omega),hl,Nat.add_sub_cancel_left];rfl
 . simp;omega
 . rw[W23 _ _ (by omega),W23 _ _ (by omega),hl,W0x h];simp
def Zg2 (r:Jr) (l:Jl) (hl:l.length<=12):PC prog G 119 [.agg [.vsl (r.map isa),.vsl (l.map na)]] (Yg ((opI l l.length).map ja)):=by
 (refine Z6K rfl λR hG hrd=>Qga ?_;subst hG)
 simp -implicitDefEqProofs[Z6I,Z6J];refine Z9H (opW r l) (λ_=>True) l.length ?_ trivial ?_ ?_
 . have e:opI l 0=[]:=rfl;simp only[opW,e,if_true]
   (refine Wkc ?_;simp only[Wkl,and_true];(try simp[lk,Yc,Ya,AV.keys]))
 . intro i hi _;have hx:=ZcF hi;have hnx:na (nAt l i)=[.int .i64 (nAt l i).nu,.int .i64 (nAt l i).dy,.int .u8 (nAt l i).sg,.int .i64 (nAt l i).dr,.int .i64 (nAt l i).lt,.int .i64 (nAt l i).fr,.int .i64 (nAt l i).tu,.int .i64 (nAt l i).ca,.bool (nAt l i).up,.int .u8 (nAt l i).wy]:=rfl;have hO:opI l (i+1)=if (nAt l i).sg=1 then insK (λj=>(nAt l j).nu) (opI l i) i else opI l i:=rfl
   have hlt:=Zdc l i;have hsr:=Zdg l i;have hln:=Zda l i;have wi:i64.wrap ((i:Int)+1)=(i:Int)+1:=Yf;unfold opW;generalize opI l i=L at *;have hF:∀ j,(nAt l j).nu=(λj=>(nAt l j).nu) j:=λ_=>rfl
   refine Qga ?_;by_cases c:(nAt l i).sg=1
   . rw [if_pos c]at hO;have hne:opI l (i+1)≠[]:=(by rw[hO];intro h;have:=Zd9 (λj=>(nAt l j).nu) L i;rw[h]at this;cases this);have hlen:(opI l (i+1)).length=L.length+1:=(by rw[hO,Zd9]);have bb:(L.length+1)*8<=70368744177664:=(by omega);have wl:i64.wrap (L.length:Int)=(L.length:Int):=(by rw[Yf (by omega) (by omega)]);have wz:i64.wrap 0=0:=rfl;have hmid:=λp (hp:p<L.length)=>Zg1 (i:=i) hp
     have hend:=λp (h1:p<=L.length)=>Zdh (f:=λj=>(nAt l j).nu) (x:=i) (k:=p) hsr h1
     by_cases c0:L=[]
     case' pos=>simp -implicitDefEqProofs[c0,hi,<- hx,hnx,c,wz]
     case' neg=>simp -implicitDefEqProofs[c0,hi,<- hx,hnx,c,bb,wl]
     all_goals
      refine Z1Q (opX r l i L) (λp=>p<=L.length/\∀ y∈L.drop p,(nAt l i).nu<(nAt l y).nu) (λp=>p) L.length ?_ ⟨W0f _,λy hy=>by rw[W1j (W0f _)]at hy;cases hy⟩ ?_
      . unfold opX jnK;rw[W0J (W0f _),W1j (W0f _),W0r]
        first
         |(subst c0;((try simp only[ja]);refine Ym.sub (by simp[lk,Ya,AV.keys,ja]) ?_;simp only[ja,Wkl,and_true];(try simp[lk,Yc,Ya,AV.keys,ja]));done)
         |(((try simp only[ja]);refine Ym.sub (by simp[lk,Ya,AV.keys,ja]) ?_;simp only[ja,Wkl,and_true];(try simp[lk,Yc,Ya,AV.keys,ja]));done)
      rintro p ⟨hp,hd⟩;refine Qga ?_
      cases p with
      | zero =>
        have he:=hend 0 (W1f _) hd (λq hq=>by omega);simp -implicitDefEqProofs[opX];refine ⟨rfl,?_⟩;refine Qgr ?_;simp -implicitDefEqProofs[wi];simp only[hne,if_false,hlen];change jnK L i 0=_ at he;rw[hO,<- he]
        ((try simp only[ja]);refine Ym.sub (by simp[lk,Ya,AV.keys,ja]) ?_;simp only[ja,Wkl,Zg0,and_true];(try simp[lk,Yc,Ya,AV.keys,ja]))
      | succ p =>
        obtain ⟨m1,m2,m3,m4⟩:=hmid p hp;have he:=hend (p+1) hp hd;obtain ⟨j,hj⟩:=Qex (L[p]);have hji:=(hlt j (by rw[hj];exact W0e _)).1;have hjl:j<l.length:=(by omega);have hpj:L[p]? = some j:=(by rw[hj];exact W07 _);rw[<- hj]at m1 m4;unfold opX;replace he:_->jnK L i (p+1)=_:=he;generalize jnK L i (p+1)=Q at *;obtain ⟨q1,g1⟩:=W02.1 m1;obtain ⟨q2,g2⟩:=W02.1 m2;have hxj:=ZcF hjl;have hnj:na (nAt l j)=[.int .i64 (nAt l j).nu,.int .i64 (nAt l j).dy,.int .u8 (nAt l j).sg,.int .i64 (nAt l j).dr,.int .i64 (nAt l j).lt,.int .i64 (nAt l j).fr,.int .i64 (nAt l j).tu,.int .i64 (nAt l j).ca,.bool (nAt l j).up,.int .u8 (nAt l j).wy]:=rfl;have w2:i64.wrap ((p:Int))=(p:Int):=Yf;have k1:(0:Int)<(p:Int)+1:=(by omega);have k2:((p:Int)+1).toNat=p+1:=(by omega);have k3:(0:Int)<=(p:Int)+1:=(by omega);have k4:p<L.length:=(by omega);have k5:p<=L.length:=(by omega);have k6:p<L.length+1:=(by omega);have k7:(p:Int)<(L.length:Int)+1:=(by omega);have k8:(p:Int)+1<(L.length:Int)+1:=(by omega);by_cases hlt2:(nAt l i).nu<(nAt l j).nu
        . simp -implicitDefEqProofs[w2,k1,k2,k3,k4,k5,k6,k7,k8,g1,g2,m3,ja,hi,hjl,<- hx,<- hxj,hnx,hnj,hlt2];refine ⟨rfl,p,?_,⟨by omega,λu hu=>?_⟩,W2u _⟩
          . have e1:∀ z:Nat,[AV.int .i64 (z:Int)]=ja z:=λ_=>rfl
            simp only[e1];rw[<- W2q,<- W2q,m4]
            (refine Wkc ?_;simp only[Zg0,Wkl,and_true];(try simp[lk,Yc,Ya,AV.keys]))
          . have hps:=(W02.1 hpj).1;have gs:=(W02.1 hpj).2;rw[W0x hps,gs]at hu;rcases W0g.1 hu with rfl|hu
            . exact hlt2
            . exact hd u hu
        . have he:=he (λq hq u hu=>by
           have:q=p:=(by omega);subst this;rw[hpj]at hu
           cases hu
           exact Int.not_lt.1 hlt2)
          simp -implicitDefEqProofs[w2,k1,k2,k3,k4,k5,k6,k7,k8,g1,g2,m3,ja,hi,hjl,<- hx,<- hxj,hnx,hnj,hlt2];refine ⟨rfl,?_⟩;refine Qgr ?_;simp -implicitDefEqProofs[wi];simp only[hne,if_false,hlen];rw[hO,<- he]
          (refine Wkc ?_;simp only[Zg0,Wkl,and_true];(try simp[lk,Yc,Ya,AV.keys]))
   . rw[if_neg c]at hO;by_cases c0:L=[]
     . simp -implicitDefEqProofs[c0,hi,<- hx,hnx,c,wi];simp only[hO,c0,if_true]
       (refine Wkc ?_;simp only[Wkl,and_true];(try simp[lk,Yc,Ya,AV.keys]))
     . simp -implicitDefEqProofs[c0,hi,<- hx,hnx,c,wi];simp only[hO,c0,if_false]
       (refine Wkc ?_;simp only[Zg0,Wkl,and_true];(try simp[lk,Yc,Ya,AV.keys]))
 . intro _;refine Qga ?_;by_cases c:opI l l.length=[]
   . simp -implicitDefEqProofs[opW,c];refine Qgr ?_;simp -implicitDefEqProofs[Yg]
   . simp -implicitDefEqProofs[opW,c];refine Qgr ?_;simp -implicitDefEqProofs[Yg,c,ja]
def nuI (l:Jl):List Int:=(opI l l.length).map λj=>(nAt l j).nu
def Zg3 {l:Jl} {n:Int}:n∈nuI l↔n∈opU l:=Zde
def Zg4 (l:Jl):(nuI l).length=(opI l l.length).length:=W0N _
def tkN (l:Jl) (j:Nat):List (List AV):=((nuI l).take j).map ia
def Zg5 (o:List (Nat×AObj)) (l:Jl) (j:Nat):Yc o (.row 1 (tkN l j))=true:=Zf3 o _
def Zg6 {l:Jl} {j:Nat} (h:j<=(nuI l).length):(tkN l j).length=j:=by simp[tkN];omega
def Zg7 {l:Jl}:tkN l (nuI l).length=(nuI l).map ia:=by rw[tkN,W0v]
def Zg8 (nl:Bool) (s:List Int) (n:Int) (h:Sml s):PC prog G 118 [liA nl s,.int .i64 n] (.bool (decide (n∈s))):=by
 unfold liA
 split
 . rename_i e;rw[e.2]
   (refine Z6N rfl λR hG hrd=>Qga ?_;subst hG)
   simp -implicitDefEqProofs[Z6L,Z6M];refine Z9H (λi=>⟨[(5,.int .i64 i),(0,.nils),(1,.int .i64 n)],[]⟩) (λi=>True) 0 (by (first|exact Wka|exact Wkb)) trivial (λi hi=>by omega) ?_;intro _;refine Qga ?_;simp -implicitDefEqProofs;refine Qgr ?_;simp -implicitDefEqProofs
 . exact ZcU s n h
def tuS (r:Jr) (l:Jl) (s:List Int) (j:Nat):St :=
 if j=0 then ⟨[(7,.int .i64 0),(6,.vsl ((opI l l.length).map ja)),(5,.nils),(2,.ptr 2 0),(1,.vsl (s.map ia))],[(2,.box [.vsl (r.map isa),.vsl (l.map na)])]⟩
 else ⟨[(7,.int .i64 j),(6,.vsl ((opI l l.length).map ja)),(5,.osl 28 j),(2,.ptr 2 0),(1,.vsl (s.map ia))],[(28,.row 1 (tkN l j)),(2,.box [.vsl (r.map isa),.vsl (l.map na)])]⟩
def Zg9 (r:Jr) (l:Jl) (s:List Int) (hl:l.length<=12) (hs:Sml s):PC prog G 116 [.agg [.vsl (r.map isa),.vsl (l.map na)],.vsl (s.map ia)] (.bool (truB l s)):=by
 have ho:=Zg2 (G:=G) r l hl;have hh:=λn=>Zg8 (G:=G) true (nuI l) n (by unfold Sml;rw[Zg4];have:=Zda l l.length;omega)
 have hln:=Zda l l.length;have hlt:=Zdc l l.length;have hnl:=Zg4 l;have hmem:=λn=>Zg3 (l:=l) (n:=n)
 have hnat:∀ j,(h:j<(opI l l.length).length)->(nuI l)[j]'(by rw[hnl];exact h)=(nAt l (opI l l.length)[j]).nu:=λj h=>by simp[nuI]
 unfold Sml at hs
 have key : ∀ R:Run,R.G=G->R.Top->∀ (rc:RCode),rc=dropZ 4 Z6O->AR prog R rc ⟨[(5,liA true (nuI l)),(1,.vsl (s.map ia))],[]⟩ (Fin Z6P (.bool (truB l s))):=λR hG _ rc hrc=>by
  subst hrc;subst hG;refine Qga ?_;have pN:=ZfI true (nuI l);have kN:=ZfJ true (nuI l);simp -implicitDefEqProofs[dropZ,Z6O];generalize liA true (nuI l)=nV at *;refine Z9H (λi=>⟨[(8,.int .i64 i),(5,nV),(1,.vsl (s.map ia))],[]⟩) (λi=>∀ j,j<i->s.getD j 0∈opU l/\(0<j->s.getD (j-1) 0<s.getD j 0)) s.length ?_ (λj hj=>by omega) ?_ ?_
  . ((try simp only[kN]);refine Ym.sub (by simp[lk,Ya,AV.keys,kN]) ?_;simp only[kN,Wkl,and_true];(try simp[lk,Yc,Ya,AV.keys,kN]))
  . intro i hi hI;refine Qga ?_;have wi:i64.wrap ((i:Int)+1)=(i:Int)+1:=Yf;have eg:∀ j,∀ hj:j<s.length,s.getD j 0=s[j]:=λj hj=>by simp[W0j,hj]
    have no:¬(s[i]∈opU l/\(0<i->s.getD (i-1) 0<s[i]))->truB l s=false:=λh=>by
     cases q:truB l s
     . rfl
     . have h2:=Zfm.1 q i hi;rw[eg i hi]at h2;exact absurd h2 h
    have yes:(s[i]∈opU l/\(0<i->s.getD (i-1) 0<s[i]))->∀ j,j<i+1->s.getD j 0∈opU l/\(0<j->s.getD (j-1) 0<s.getD j 0):=λh j hj=>by
     rcases W0q j i with h4|h4
     . exact hI j h4
     . obtain rfl:j=i:=(by omega);rw[eg j hi];exact h
    have hh:=hh s[i];have hmm:=hmem s[i];by_cases hm:s[i]∈opU l
    . have d:decide (s[i]∈nuI l)=true:=(by simpa using hmm.2 hm);rw[d]at hh
      cases i with
      | zero =>
        have w1:i64.wrap 1=1:=rfl;have h1:=yes ⟨hm,λh=>by omega⟩;simp -implicitDefEqProofs[hi,ia];refine Ye.of hh (by simp[pN,AV.pure]) ?_;simp -implicitDefEqProofs[w1,kN];refine ⟨rfl,?_,?_⟩
        . ((try simp only[kN]);refine Ym.sub (by simp[lk,Ya,AV.keys,kN]) ?_;simp only[kN,Wkl,and_true];(try simp[lk,Yc,Ya,AV.keys,kN]))
        . simpa using h1
      | succ k =>
        have hk:k<s.length:=(by omega);have k1:(k:Int)+1<s.length:=(by omega);have k2:((k:Int)+1).toNat=k+1:=(by omega);have k3:(0:Int)<=(k:Int)+1:=(by omega);have k4:(0:Int)<(k:Int)+1:=(by omega);have wk2:i64.wrap (k:Int)=(k:Int):=Yf;have wk3:i64.wrap ((k:Int)+1+1)=(k:Int)+1+1:=Yf;have eg:s.getD (k+1-1) 0=s[k]:=(by simp[W0j,hk]);rw[eg]at no yes;simp -implicitDefEqProofs[hi,hk,ia,k1,k2,k3,k4];refine Ye.of hh (by simp[pN,AV.pure]) ?_;by_cases hlt:s[k+1]<=s[k]
        . have hB:=no λh=>by have:=h.2 (by omega);omega
          simp -implicitDefEqProofs[hi,hk,ia,k1,k2,k3,k4,wk2,hlt,kN];refine ⟨rfl,?_⟩;refine Qgr ?_;simp -implicitDefEqProofs[hB,Z6P]
        . have h1:=yes ⟨hm,λ_=>by omega⟩;simp -implicitDefEqProofs[hi,hk,ia,k1,k2,k3,k4,wk2,wk3,hlt,kN];refine ⟨rfl,?_,h1⟩
          ((try simp only[kN]);refine Ym.sub (by simp[lk,Ya,AV.keys,kN]) ?_;simp only[kN,Wkl,and_true];(try simp[lk,Yc,Ya,AV.keys,kN]))
    . have d:decide (s[i]∈nuI l)=false:=by simpa using λh=>hm (hmm.1 h)
      rw[d]at hh;have hB:=no λh=>hm h.1
      simp -implicitDefEqProofs[hi,ia];refine Ye.of hh (by simp[pN,AV.pure]) ?_;simp -implicitDefEqProofs[kN];refine ⟨rfl,?_⟩;refine Qgr ?_;simp -implicitDefEqProofs[hB,Z6P]
  . intro hI;have hB:=Zfm.2 hI;refine Qga ?_;simp -implicitDefEqProofs;refine Qgr ?_;simp -implicitDefEqProofs[hB,Z6P]
 refine Z6Q rfl λR hG hrd=>?_
 subst hG;refine Yb mixed 9 ?_;simp -implicitDefEqProofs[Z6O];refine Qco (ho) ?_;simp -implicitDefEqProofs;have key:=key R rfl hrd _ rfl;unfold Yg;by_cases c:opI l l.length=[]
 . have c':nuI l=[]:=(by rw[nuI,c];rfl);have e2:liA true (nuI l) = .nils:=(by rw[c'];simp[liA]);rw[e2]at key;refine Z2Q mixed 1000 ?_;simp -implicitDefEqProofs[c];refine Z9H (λi=>⟨[(7,.int .i64 i),(6,.nils),(5,.nils),(1,.vsl (s.map ia))],[]⟩) (λ_=>True) 0 ?_ trivial (λi hi=>by omega) ?_
   . (refine Wkc ?_;simp only[Wkl,and_true];(try simp[lk,Yc,Ya,AV.keys]))
   . intro _;refine Qga ?_;simp -implicitDefEqProofs;refine Z2S mixed 2 ?_;simp -implicitDefEqProofs;refine GOz (Z2R ?_ key)
     (refine Wkc ?_;simp only[Wkl,and_true];(try simp[lk,Yc,Ya,AV.keys]))
 . have c':nuI l≠[]:=λh=>c (List.map_eq_nil_iff.1 h)
   have e2:liA true (nuI l) = .vsl ((nuI l).map ia):=(by simp[liA,c']);rw[e2]at key;refine Z2Q mixed 1000 ?_;simp -implicitDefEqProofs[c];refine Z9H (tuS r l s) (λ_=>True) (nuI l).length ?_ trivial ?_ ?_
   . simp only[tuS,if_true]
     (refine Wkc ?_;simp only[Wkl,and_true];(try simp[lk,Yc,Ya,AV.keys]))
   . intro j hj _;have hj':j<(opI l l.length).length:=(by omega);have wj:i64.wrap ((j:Int)+1)=(j:Int)+1:=Yf;have hna:=hnat j hj';have hkl:=(hlt _ (W0e hj')).1;have tk:=W08 hj;have tl:=Zg6 (l:=l) (j:=j) (by omega);rw[hna]at tk;have tk:tkN l (j+1)=tkN l j++[[.int .i64 (nAt l (opI l l.length)[j]).nu]]:=(by unfold tkN;rw[tk,W0r];rfl);generalize hkk:(opI l l.length)[j]=k at *;have hlk:l[k]=nAt l k:=(ZcF hkl).symm;have hnk:na (nAt l k)=[.int .i64 (nAt l k).nu,.int .i64 (nAt l k).dy,.int .u8 (nAt l k).sg,.int .i64 (nAt l k).dr,.int .i64 (nAt l k).lt,.int .i64 (nAt l k).fr,.int .i64 (nAt l k).tu,.int .i64 (nAt l k).ca,.bool (nAt l k).up,.int .u8 (nAt l k).wy]:=rfl;have bb:((j:Int)+1)*8<=70368744177664:=(by omega);have bb2:(j+1)*8<=70368744177664:=(by omega);refine Qga ?_
     cases j with
     | zero =>
       have w1:i64.wrap 1=1:=rfl;simp -implicitDefEqProofs[tuS,hj',hkk,ja,hkl,hlk,hnk,w1];refine ⟨rfl,?_⟩;have e0:tkN l 0=[]:=(by simp[tkN]);rw[e0,W18]at tk;rw[tk]
       ((try simp only[ja]);refine Ym.sub (by simp[lk,Ya,AV.keys,ja]) ?_;simp only[ja,Wkl,and_true];(try simp[lk,Yc,Ya,AV.keys,ja]))
     | succ i =>
       have k1:(i:Int)+1<(opI l l.length).length:=(by omega);have wk3:i64.wrap ((i:Int)+1+1)=(i:Int)+1+1:=Yf;have k2:((i:Int)+1).toNat=i+1:=(by omega);have k3:(0:Int)<=(i:Int)+1:=(by omega);simp -implicitDefEqProofs[tuS,hj',hkk,ja,hkl,hlk,hnk,tl,bb,bb2,k1,k2,k3,wk3];refine ⟨rfl,?_⟩;rw[<- tk]
       ((try simp only[ja]);refine Ym.sub (by simp[lk,Ya,AV.keys,ja]) ?_;simp only[ja,Wkl,Zg5,and_true];(try simp[lk,Yc,Ya,AV.keys,ja]))
   . intro _;refine Qga ?_;simp -implicitDefEqProofs[tuS,hnl,c];refine Z2S mixed 2 ?_;simp -implicitDefEqProofs;refine GOz (Z2R (Ym.trans (Ym.frz (λk=>k == 28) _) ?_) key);rw[<- hnl,Zg7]
     ((try simp only[Yi,frzA,frzO,frz,Yh,Yj,St.get,ia]);refine Ym.sub (by simp[lk,Ya,AV.keys,Yi,frzA,frzO,frz,Yh,Yj,St.get,ia]) ?_;simp only[Yi,frzA,frzO,frz,Yh,Yj,St.get,ia,Wkl,and_true];(try simp[lk,Yc,Ya,AV.keys,Yi,frzA,frzO,frz,Yh,Yj,St.get,ia]))
def rbK (f:Nat->Bool) (n k:Nat):List Bool:=(List.range n).map λj=>decide (k<=j)&&f j
def Zga {f:Nat->Bool} {n k:Nat}:(rbK f n k).length=n:=by simp[rbK]
def Zgb {f:Nat->Bool} {n k j:Nat} (h:k<=j) (h2:j<n):(rbK f n k)[j]? = some (f j):=by
 rw[W07 (by rw[Zga];exact h2)];simp[rbK,h]
def Zgc {f:Nat->Bool} {n k:Nat}:(rbK f n (k+1)).set k (f k)=rbK f n k:=by
 refine W1I (by simp[rbK]) λj h1 h2=>?_
 rw[List.getElem_set]
 split
 . rename_i e;subst e;simp[rbK]
 . rename_i e;have:decide (k+1<=j)=decide (k<=j):=(by rw[decide_eq_decide];omega);simp only[rbK,W1w,List.getElem_range,this]
def ba (b:Bool):List AV:=[.bool b]
def Zgd (o:List (Nat×AObj)) (l:List Bool):Yc o (.row 1 (l.map ba))=true:=by
 simp only[Yc,W03,W0i];rintro x ⟨y,-,rfl⟩ v hv;simp only[ba,W0B]at hv;subst hv;simp[Ya,AV.keys]
def Zge {f:Nat->Bool} {n:Nat}:(rbK f n n).map ba=List.replicate n [.bool false]:=by
 refine W1I (by simp[rbK]) λj h1 h2=>?_
 have:¬n<=j:=(by simp at h2;omega);simp[rbK,ba,this]
def Zgf (r:Jr) (l:Jl) (ns nw:Bool) (s w:List Int) (m:Int) (hl:l.length<=12) (hs:Sml s) (hw:Sml w) :
  PC prog G 89 [.agg [.vsl (r.map isa),.vsl (l.map na)],liA ns s,liA nw w,.int .i64 m] (.vsl ((rbK (fB s w m l) l.length 0).map ba)):=by
 have c1:=λn=>Zg8 (G:=G) ns s n hs
 have c2:=λn=>Zg8 (G:=G) nw w n hw
 have c3:=λn lo hi=>ZcT (G:=G) n lo hi
 have k1:=ZfJ ns s;have k2:=ZfJ nw w;have p1:=ZfI ns s;have p2:=ZfI nw w;generalize liA ns s=sV at *;generalize liA nw w=wV at *;refine Z6T rfl λR hG hrd=>?_
 subst hG;refine Qga ?_;have b1:(l.length:Int)<=16777216:=(by omega);have rep:=Zge (f:=fB s w m l) (n:=l.length);have rln:=λk=>Zga (f:=fB s w m l) (n:=l.length) (k:=k)
 have w0:i64.wrap ((l.length:Int)-1)=(l.length:Int)-1:=Yf;simp -implicitDefEqProofs[Z6R,Z6S,b1,<- rep,w0];refine Z1Q (λk:Nat=>⟨[(10,.int .i64 ((k:Int)-1)),(9,.osl 17 l.length),(4,.ptr 4 0),(1,sV),(2,wV),(3,.int .i64 m)],[(17,.row 1 ((rbK (fB s w m l) l.length k).map ba)),(4,.box [.vsl (r.map isa),.vsl (l.map na)])]⟩) (λk=>k<=l.length) (λk=>k) l.length ?_ (W0f _) ?_
 . ((try simp only[k1,k2]);refine Ym.sub (by simp[lk,Ya,AV.keys,k1,k2]) ?_;simp only[k1,k2,Wkl,Zgd,and_true];(try simp[lk,Yc,Ya,AV.keys,k1,k2]))
 . intro k hk
   cases k with
   | zero =>
     have rl0:=rln 0;refine Qga ?_;simp -implicitDefEqProofs;refine Qgr ?_;simp -implicitDefEqProofs[ba,rl0]
   | succ k =>
     have hi:k<l.length:=hk;have hx:=ZcF hi;have hnx:na (nAt l k)=[.int .i64 (nAt l k).nu,.int .i64 (nAt l k).dy,.int .u8 (nAt l k).sg,.int .i64 (nAt l k).dr,.int .i64 (nAt l k).lt,.int .i64 (nAt l k).fr,.int .i64 (nAt l k).tu,.int .i64 (nAt l k).ca,.bool (nAt l k).up,.int .u8 (nAt l k).wy]:=rfl;have fe:=ZcL (p:=bsF s w m) (h:=λx y:Nte=>decide (y.ca=x.nu)) hi;rw[<- hx]at fe;have gb:=ZcM (p:=bsF s w m) (h:=λx y:Nte=>decide (y.ca=x.nu)) (l:=l) (x:=nAt l k) (i:=k);have gs:=λj=>ZcN (p:=bsF s w m) (h:=λx y:Nte=>decide (y.ca=x.nu)) (l:=l) (x:=nAt l k) (i:=k) (k:=j)
     have fbs:fB s w m l k=gwB (bsF s w m) (λx y=>decide (y.ca=x.nu)) l (nAt l k) k l.length:=fe;have rat:=λj (h:k+1<=j) (h2:j<l.length)=>Zgb (f:=fB s w m l) h h2
     have rst:=Zgc (f:=fB s w m l) (n:=l.length) (k:=k);have rln1:=rln (k+1);rw[fbs]at rst;have c1:=c1 (nAt l k).nu;have c2:=c2 (nAt l k).nu;have c3:=c3 m (nAt l k).fr (nAt l k).tu;have w1:i64.wrap ((k:Int)+1)=((k+1:Nat):Int):=Yf;generalize hxx:nAt l k=x at *;have hlx:l[k]=x:=hx.symm;generalize hQQ:rbK (fB s w m l) l.length (k+1)=Q at *;refine Yb mixed 13 ?_;simp -implicitDefEqProofs[hi,hlx,hnx];refine Zfi (S:=⟨[(10,.int .i64 k),(11,.ptr 11 0),(12,.bool (bsF s w m x)),(9,.osl 17 l.length),(4,.ptr 4 0),(1,sV),(2,wV),(3,.int .i64 m)],[(11,.box (na x)),(17,.row 1 (Q.map ba)),(4,.box [.vsl (r.map isa),.vsl (l.map na)])]⟩) (Qga ?_) ?_
     . unfold bsF;by_cases e1:x.sg=2
       . simp -implicitDefEqProofs[hnx,e1];refine Yd.of c2 (by simp[p2,AV.pure]) ?_;by_cases e2:x.nu∈w
         . simp -implicitDefEqProofs[e2]
           ((try simp only[k1,k2,hnx]);refine Ym.sub (by simp[lk,Ya,AV.keys,k1,k2,hnx]) ?_;simp only[k1,k2,hnx,Wkl,Zgd,and_true];(try simp[lk,Yc,Ya,AV.keys,k1,k2,hnx]))
         . simp -implicitDefEqProofs[e2];refine Qco (c3) ?_;simp -implicitDefEqProofs
           ((try simp only[k1,k2,hnx]);refine Ym.sub (by simp[lk,Ya,AV.keys,k1,k2,hnx]) ?_;simp only[k1,k2,hnx,Wkl,Zgd,and_true];(try simp[lk,Yc,Ya,AV.keys,k1,k2,hnx]))
       . simp -implicitDefEqProofs[hnx,e1];refine Yd.of c1 (by simp[p1,AV.pure]) ?_;by_cases e3:x.nu∈s
         . simp -implicitDefEqProofs[e3];refine Yd.of c2 (by simp[p2,AV.pure]) ?_;by_cases e2:x.nu∈w
           . simp -implicitDefEqProofs[e2]
             ((try simp only[k1,k2,hnx]);refine Ym.sub (by simp[lk,Ya,AV.keys,k1,k2,hnx]) ?_;simp only[k1,k2,hnx,Wkl,Zgd,and_true];(try simp[lk,Yc,Ya,AV.keys,k1,k2,hnx]))
           . simp -implicitDefEqProofs[e2];refine Qco (c3) ?_;simp -implicitDefEqProofs
             ((try simp only[k1,k2,hnx]);refine Ym.sub (by simp[lk,Ya,AV.keys,k1,k2,hnx]) ?_;simp only[k1,k2,hnx,Wkl,Zgd,and_true];(try simp[lk,Yc,Ya,AV.keys,k1,k2,hnx]))
         . simp -implicitDefEqProofs[e3]
           ((try simp only[k1,k2,hnx]);refine Ym.sub (by simp[lk,Ya,AV.keys,k1,k2,hnx]) ?_;simp only[k1,k2,hnx,Wkl,Zgd,and_true];(try simp[lk,Yc,Ya,AV.keys,k1,k2,hnx]))
     rw[<- gb];refine Qga ?_;simp -implicitDefEqProofs[w1];refine Z1Q (λp:Nat=>⟨[(13,.int .i64 (p:Int)),(10,.int .i64 k),(11,.ptr 11 0),(12,.bool (gwB (bsF s w m) (λx y=>decide (y.ca=x.nu)) l x k p)),(9,.osl 17 l.length),(4,.ptr 4 0),(1,sV),(2,wV),(3,.int .i64 m)],[(11,.box (na x)),(17,.row 1 (Q.map ba)),(4,.box [.vsl (r.map isa),.vsl (l.map na)])]⟩) (λp=>k+1<=p/\p<=l.length) (λp=>l.length-p) (k+1) ?_ ⟨W0f _,hi⟩ ?_
     . ((try simp only[k1,k2,hnx]);refine Ym.sub (by simp[lk,Ya,AV.keys,k1,k2,hnx]) ?_;simp only[k1,k2,hnx,Wkl,Zgd,and_true];(try simp[lk,Yc,Ya,AV.keys,k1,k2,hnx]))
     . rintro p ⟨hp1,hp2⟩;refine Qga ?_;rcases W0q p l.length with h5|h5
       . have hrat:=rat p hp1 h5;obtain ⟨q1,g1⟩:=W02.1 hrat;have hg:=gs p (by omega) h5;have hy:=ZcF h5;have hny:na (nAt l p)=[.int .i64 (nAt l p).nu,.int .i64 (nAt l p).dy,.int .u8 (nAt l p).sg,.int .i64 (nAt l p).dr,.int .i64 (nAt l p).lt,.int .i64 (nAt l p).fr,.int .i64 (nAt l p).tu,.int .i64 (nAt l p).ca,.bool (nAt l p).up,.int .u8 (nAt l p).wy]:=rfl;have w2:i64.wrap ((p:Int)+1)=(p:Int)+1:=Yf;rw[<- hy]at hg;replace hg:_=(_ && !(fB s w m l p&&_)):=hg;generalize hyy:nAt l p=y at *;have hly:l[p]=y:=hy.symm;generalize fB s w m l p=fb at *
         cases hb:gwB (bsF s w m) (λx y=>decide (y.ca=x.nu)) l x k p
         . rw[hb,W1K]at hg;simp -implicitDefEqProofs[hb,h5,hnx,w2];refine ⟨rfl,p+1,?_,⟨by omega,h5⟩,(by show l.length-(p+1)<l.length-p;omega)⟩;simp only[hg]
           ((try simp only[k1,k2,hnx]);refine Ym.sub (by simp[lk,Ya,AV.keys,k1,k2,hnx]) ?_;simp only[k1,k2,hnx,Wkl,Zgd,and_true];(try simp[lk,Yc,Ya,AV.keys,k1,k2,hnx]))
         . rw[hb,W1k]at hg
           cases fb
           . rw[W1K,W1E]at hg;simp -implicitDefEqProofs[hb,h5,hnx,w2,rln1,g1,ba];refine ⟨rfl,p+1,?_,⟨by omega,h5⟩,(by show l.length-(p+1)<l.length-p;omega)⟩;simp only[hg]
             ((try simp only[k1,k2,hnx]);refine Ym.sub (by simp[lk,Ya,AV.keys,k1,k2,hnx]) ?_;simp only[k1,k2,hnx,Wkl,Zgd,and_true];(try simp[lk,Yc,Ya,AV.keys,k1,k2,hnx]))
           . rw[W1k]at hg;simp -implicitDefEqProofs[hb,h5,hnx,w2,rln1,g1,ba,hly,hny];refine ⟨rfl,p+1,?_,⟨by omega,h5⟩,(by show l.length-(p+1)<l.length-p;omega)⟩;simp only[hg]
             ((try simp only[k1,k2,hnx]);refine Ym.sub (by simp[lk,Ya,AV.keys,k1,k2,hnx]) ?_;simp only[k1,k2,hnx,Wkl,Zgd,and_true];(try simp[lk,Yc,Ya,AV.keys,k1,k2,hnx]))
       . obtain rfl:p=l.length:=(by omega);simp -implicitDefEqProofs;refine Qgr ?_;have e1:∀ b:Bool,[AV.bool b]=ba b:=λ_=>rfl
         have wk:i64.wrap ((k:Int)-1)=(k:Int)-1:=Yf;simp -implicitDefEqProofs[hi,rln1,ba,wk];refine Qgr ?_;simp -implicitDefEqProofs[wk];refine ⟨k,?_,by omega,W2u _⟩;simp only[e1];rw[<- W2q,rst]
         ((try simp only[k1,k2,hnx]);refine Ym.sub (by simp[lk,Ya,AV.keys,k1,k2,hnx]) ?_;simp only[k1,k2,hnx,Wkl,Zgd,and_true];(try simp[lk,Yc,Ya,AV.keys,k1,k2,hnx]))
def Zgg {r:Jr} {l:Jl} (h:chN r l=0):ZcI r l=true:=by
 unfold chN at h
 split at h
 . cases q:ZcI r l
   . rw[q]at h;cases h
   . rfl
 . rename_i e;exact absurd h e
def Zgh {r:Jr} {l:Jl} {s:List Int} {m:Int} (h:asN r l s m=0):chN r l=0/\truB l s=true/\inR m 1 999=true:=by
 unfold asN at h
 split at h
 . rename_i h1
   split at h
   . rename_i h2
     split at h
     . rename_i h3;exact ⟨h1,h2,h3⟩
     . cases h
   . cases h
 . rename_i e;exact absurd h e
def Zgi {r:Jr} {l:Jl} (h:ZcI r l=true):l.length<=12:=by simp only[ZcI,W01,W0b]at h;exact h.1.1
def Zgj (r:Jr) (l:Jl) (s:List Int) (m:Int) (hw:WfN l) (hr:Wf r) (hs:Sml s):PC prog G 85 [.agg [.vsl (r.map isa),.vsl (l.map na)],.vsl (s.map ia),.int .i64 m] (.int .i64 (asN r l s m)):=by
 have hc:=Zdj (G:=G) r l hw hr;have hi:=ZcT (G:=G) m 1 999
 (refine Z6W rfl λR hG hrd=>Qga ?_;subst hG)
 unfold asN;by_cases h0:chN r l=0
 . have ht:=Zg9 (G:=R.G) r l s (Zgi (Zgg h0)) hs;simp -implicitDefEqProofs[Z6U,Z6V];refine Qco (hc) ?_;simp -implicitDefEqProofs[h0];refine Qco (ht) ?_
   cases q:truB l s
   . simp -implicitDefEqProofs
   . simp -implicitDefEqProofs;refine Qco (hi) ?_
     cases q2:inR m 1 999
     . simp -implicitDefEqProofs
     . simp -implicitDefEqProofs
 . simp -implicitDefEqProofs[Z6U,Z6V];refine Qco (hc) ?_;simp -implicitDefEqProofs[h0]
def Zgk {x y:Nte} (h:x≠y):(!decide (x.nu=y.nu)||(!decide (x.dy=y.dy)||(!decide (x.sg=y.sg)||(!decide (x.dr=y.dr)||(!decide (x.lt=y.lt)||(!decide (x.fr=y.fr)||(!decide (x.tu=y.tu)||(!decide (x.ca=y.ca)||(!(x.up == y.up) || !decide (x.wy=y.wy))))))))))=true:=by
 cases q:(!decide (x.nu=y.nu)||(!decide (x.dy=y.dy)||(!decide (x.sg=y.sg)||(!decide (x.dr=y.dr)||(!decide (x.lt=y.lt)||(!decide (x.fr=y.fr)||(!decide (x.tu=y.tu)||(!decide (x.ca=y.ca)||(!(x.up == y.up) || !decide (x.wy=y.wy))))))))))
 . refine absurd ?_ h;simp at q
   cases x;cases y;simp_all
 . rfl
def Zgl (a b:Jr) (l k:Jl) (ha:SmlR a) (hl:Sml l):PC prog G 36 [.agg [.vsl (a.map isa),.vsl (l.map na)],.agg [.vsl (b.map isa),.vsl (k.map na)]] (.bool (decide (a=b/\l=k))):=by
 have hs:=Z9U (G:=G) a b ha;rw[rega,rega]at hs;unfold Sml at hl
 (refine Z6Z rfl λR hG hrd=>Qga ?_;subst hG)
 simp -implicitDefEqProofs[Z6X,Z6Y];refine Qco (hs) ?_;by_cases h1:a=b
 . by_cases h2:l.length=k.length
   . have h2':(l.length:Int)=k.length:=(by omega);simp -implicitDefEqProofs[h1,h2'];refine Z9H (λi=>⟨[(5,.int .i64 i),(2,.ptr 2 0),(3,.ptr 3 0)],[(2,.box [.vsl (b.map isa),.vsl (l.map na)]),(3,.box [.vsl (b.map isa),.vsl (k.map na)])]⟩) (λi=>∀ j (h:j<l.length),j<i->l[j]=k[j]) l.length (by subst h1;(first|exact Wka|exact Wkb)) (by simp) ?_ ?_
     . intro i hi he;have hi2:i<k.length:=(by omega);have w1:i64.wrap ((i:Int)+1)=(i:Int)+1:=Yf;refine Qga ?_;by_cases h2:l[i]=k[i]
       . simp -implicitDefEqProofs[hi,hi2,na,w1,h2];refine ⟨rfl,by (first|exact Wka|exact Wkb),λj h1 h3=>?_⟩;by_cases e:j=i
         . subst e;exact h2
         . exact he j h1 (by omega)
       . have h3:¬l=k:=λe=>h2 (by subst e;rfl)
         have ne:=Zgk h2;simp -implicitDefEqProofs[hi,hi2,na,w1,ne];refine ⟨rfl,?_⟩;refine Qgr ?_;simp -implicitDefEqProofs[h3]
     . intro he;have h3:l=k:=W1I h2 λj h1 h2=>he j h1 h1
       refine Qga ?_;simp -implicitDefEqProofs;refine Qgr ?_;simp -implicitDefEqProofs[h3,h1]
   . have h2':¬(l.length:Int)=k.length:=(by omega);have h3:¬l=k:=λe=>h2 (by rw[e])
     simp -implicitDefEqProofs[h1,h2',h3]
 . simp -implicitDefEqProofs[h1]
def Zgm (r:Jr) (l:Jl) (hr:SmlR r) (hl:Sml l):PC prog G 13 [.agg [.vsl (r.map isa),.vsl (l.map na)]] (.agg [.vsl (r.map isa),.vsl (l.map na)]):=by
 have ht:=ZcA (G:=G) r hr;rw[rega]at ht;unfold Sml at hl
 (refine Z72 rfl λR hG hrd=>Qga ?_;subst hG)
 by_cases h0:l=[]
 . simp -implicitDefEqProofs[Z70,Z71,h0];refine Qco (ht) ?_;simp -implicitDefEqProofs[h0]
   try rfl
 . have b2:l.length*72<=70368744177664:=(by omega);simp -implicitDefEqProofs[Z70,Z71,h0];refine Qco (ht) ?_;simp -implicitDefEqProofs[h0,na,b2]
   try rfl
end Go.Proofs.YtldibfhbaaadcaaGreatDoor
