/-
  What the program's needs computes.
-/
import Derived.Test.YtcdlimgkliklhaaGreatDoorJPcToQk
set_option linter.all false
set_option maxHeartbeats 8000000
namespace Go.Proofs.YtcdlimgkliklhaaGreatDoor
open Go.Proofs.Tryz (prog)
open IntKind (i64)
open Go.RowKit
variable {G:Jg}
def cmk (h:Hld) (x:Nte) (q:Nat):List Int:=([x.fr,x.tu+1].take q).filter λc=>inR c h.fr h.to
def ZlV {h:Hld} {x:Nte}:cmk h x 2=mk1 h x:=by
 unfold cmk mk1
 cases h1:inR x.fr h.fr h.to <;> cases h2:inR (x.tu+1) h.fr h.to <;> simp[h1,h2]
def npS (O:AV) (id d:Int) (l:Jl) (h:Hld) (i:Nat):St :=
 ⟨[(43,.int .i64 i),(42,.int .i64 l.length),(41,.vsl (l.map na)),(8,.osl 35 (mkL l h i).length),(0,O),(1,.int .i64 id),(2,.int .i64 d),(7,.ptr 7 0)],[(35,.row 1 ((mkL l h i).map ia)),(7,.box (hoa h))]⟩
def npI (O:AV) (id d:Int) (l:Jl) (h:Hld) (x:Nte) (S:List Int) (i q:Nat):St :=
 ⟨[(54,.int .i64 q),(53,.int .i64 2),(52,.vsl ([x.fr,x.tu+1].map ia)),(43,.int .i64 i),(42,.int .i64 l.length),(41,.vsl (l.map na)),(8,.osl 35 (S++cmk h x q).length),(0,O),(1,.int .i64 id),(2,.int .i64 d),(7,.ptr 7 0)],[(35,.row 1 ((S++cmk h x q).map ia)),(7,.box (hoa h))]⟩
def psU (l:Jl) (d:Int) (M:List Int) (k:Nat):List Int:=(M.take k).flatMap λm=>posL l d m
def ZlW {l:Jl} {d:Int} {M:List Int} {k:Nat} (hk:k<M.length):psU l d M (k+1)=psU l d M k++posL l d M[k]:=by
 unfold psU;rw[W08 hk,List.flatMap_append];simp
def ZlX {l:Jl} {d m:Int}:(posL l d m).length<=8:=by
 unfold posL;exact W0O (W0D ..) (W0f _)
def ZlY {l:Jl} {d:Int} {M:List Int}:∀ k,(psU l d M k).length<=8*k
 |0=>by simp[psU]
 | k + 1=>by
   have:=ZlY (l:=l) (d:=d) (M:=M) k;by_cases hk:k<M.length
   . rw[ZlW hk,W0s];have:=ZlX (l:=l) (d:=d) (m:=M[k]);omega
   . have e:psU l d M (k+1)=psU l d M k:=(by unfold psU;rw[W0J (by omega),W0J (by omega)]);rw[e];omega
def nqS (O:AV) (d:Int) (l:Jl) (M:List Int) (k:Nat):St :=
 ⟨[(73,.int .i64 k),(72,.int .i64 M.length),(71,.vsl (M.map ia)),(13,nlV 90 (psU l d M k)),(0,O),(2,.int .i64 d)],nlO 90 (psU l d M k)⟩
def ZlZ (hG:GC G) (hN:GN G) (r:Jr) (l:Jl) (hs:Jh) (ps:Jp) (id d:Int) (hl:WfN l) (hr:Wf r) (hd:Sml (nums r)) (hw:WfP hs ps) (h0:ck7 r l hs ps=0) (hi:0<=hoI hs id) (hdn:d∈nums r) :
  PC prog G 80 [ofA r l hs ps,.int .i64 id,.int .i64 d] (Yg ((ndI l hs id d).map ia)):=by
 have hhl:=hw.hl;have c1:=Zjk (G:=G) r l hs ps id (by unfold Sml;omega);obtain ⟨k,hk,e1,e2⟩:=ZlO hi;have eN:ndI l hs id d=ndsL l hs[k] d:=(by unfold ndI;rw[e2]);rw[eN];rw[e1]at c1;have hdl:=hw.dl _ (W0e hk);obtain ⟨hb1,hb2,hb3,hb4⟩:=ZlQ h0 (W0e hk);obtain ⟨h,hh⟩:=Qex (hs[k]);rw[<- hh]at hdl hb1 hb2 hb3 hb4 ⊢;have hlk:hs[k]=h:=hh.symm;have hop:=ZjQ (ZjP.1 h0).1;have hB:=Zfi (ZjP.1 h0).1;have h12:=Zfk hB;have c2:=ZeG (G:=G) h.ds d (by unfold Sml;omega);have c3:=λc=>Zje (G:=G) h.fr h.to c
 have c4:=λm=>ZkG hG hN r l d m hl hr hd
 have as0:∀ m∈mks l h,asN r l [] m=0:=λm hm=>by
  obtain ⟨q1,q2⟩:=ZfL hb2 hm;unfold asN;rw[if_pos (ZjP.1 h0).1,if_pos (by simp[truB]),if_pos (ZfF.2 ⟨by omega,by omega⟩)]
 have hpn:∀ m,posL l d m≠[]:=λm=>ZfM λv=>ZiP hop hB hdn m v
 have hml:=ZlT (l:=l) (h:=h) l.length;rw[ZlU]at hml;have hho:hoa h=[.int .i64 h.id,.int .i64 h.fr,.int .i64 h.to,.vsl (h.ds.map ia)]:=rfl;have pO:=ZiZ r l hs ps;have kO:=Zj0 r l hs ps;have eO:ofA r l hs ps = .vptr [.vsl (r.map isa),.vsl (l.map na),.vsl (hs.map hoa),.vsl (ps.map ptA),.vsl ((nums r).map ia)] 0:=rfl;have hr2:List.range 2=[0,1]:=rfl;have fO:∀ ok st,frz ok st 6 (ofA r l hs ps)=some (ofA r l hs ps):=λok st=>by unfold ofA;simp[frz,AV.keys]
 obtain ⟨O,hO⟩:=Qex (ofA r l hs ps);rw[<- hO]at pO kO eO fO c1 ⊢;clear hO;refine Zhs rfl λR hG' hrd=>?_
 subst hG';refine Qga ?_;simp -implicitDefEqProofs[Zhq,Zhr,eO];rw[<- eO];refine Ye.of c1 (by simp[pO,AV.pure]) ?_;simp -implicitDefEqProofs[hk,hlk,hho];refine ⟨rfl,?_⟩;refine Qco (c2) ?_;by_cases c:d∈h.ds
 case neg =>
  have e:ndsL l h d=[]:=(by unfold ndsL;rw[if_neg (by simpa using c)]);rw[e];simp -implicitDefEqProofs[c,Yg]
 have hset:=ZiI (l:=l) (h:=h) (d:=d) (by simpa using c);have hnn:ndsL l h d≠[]:=ZiQ hop hB hdn c;simp -implicitDefEqProofs[c,eO];rw[<- eO];refine Z8g (npS O id d l h) (λ_=>True) l.length ?_ trivial ?_ ?_
 . simp only[npS,mkL,W1g,List.flatMap_nil,hho]
   ((try simp only[ia,kO]);refine Ym.sub (by simp[lk,Ya,AV.keys,ia,kO]) ?_;simp only[ia,kO,Wkl,and_true];(try simp[lk,Yc,Ya,AV.keys,ia,kO]))
 . intro i hi _;have wi:i64.wrap ((i:Int)+1)=(i:Int)+1:=Yf;have sc:=ZlR (h:=h) hi;have hle:=ZlT (l:=l) (h:=h) i;have hBx:=ZlP hB (W0e hi);obtain ⟨x,hxe⟩:=Qex (l[i]);rw[<- hxe]at sc hBx;have hlx:l[i]=x:=hxe.symm;have hnx:na x=[.int .i64 x.nu,.int .i64 x.dy,.int .u8 x.sg,.int .i64 x.dr,.int .i64 x.lt,.int .i64 x.fr,.int .i64 x.tu,.int .i64 x.ca,.bool x.up,.int .u8 x.wy]:=rfl;have wt:i64.wrap (x.tu+1)=x.tu+1:=Yf;rw[<- ZlV]at sc;obtain ⟨S,hS⟩:=Qex (mkL l h i);obtain ⟨T,hT⟩:=Qex (mkL l h (i+1));rw[<- hS,<- hT]at sc;rw[<- hS]at hle;refine Qga ?_;simp -implicitDefEqProofs[npS,<- hS,hi,hlx,hnx,wt];refine Z8g (npI O id d l h x S i) (λ_=>True) 2 ?_ trivial ?_ ?_
   . simp only[npI,cmk,W1g,List.filter_nil,W1G]
     ((try simp only[ia,hho,kO,hr2]);refine Ym.sub (by simp[lk,Ya,AV.keys,ia,hho,kO,hr2]) ?_;simp only[ia,hho,kO,hr2,Wkl,Zem,and_true];(try simp[lk,Yc,Ya,AV.keys,ia,hho,kO,hr2]))
   . intro q hq _;have wq:i64.wrap ((q:Int)+1)=(q:Int)+1:=Yf;have hql:q<[x.fr,x.tu+1].length:=hq
     have sq:cmk h x (q+1)=if inR ([x.fr,x.tu+1][q]) h.fr h.to=true then cmk h x q++[[x.fr,x.tu+1][q]] else cmk h x q:=by
      unfold cmk;rw[W08 hql,W1a]
      cases e:inR ([x.fr,x.tu+1][q]) h.fr h.to <;> simp[List.filter_cons,e]
     have hgq:([x.fr,x.tu+1].map ia)[q]? = some [.int .i64 ([x.fr,x.tu+1][q])]:=by
      rw[W09,W07 hql];rfl
     have hlc:(cmk h x q).length<=2:=by
      unfold cmk;exact W0O (W0D ..) (by simp;omega)
     obtain ⟨cc,hcc⟩:=Qex ([x.fr,x.tu+1][q]);rw[<- hcc]at sq hgq;have c3:=c3 cc;obtain ⟨C,hC⟩:=Qex ([x.fr,x.tu+1].map ia);rw[<- hC]at hgq;have hCl:C.length=2:=(by rw[hC];rfl);obtain ⟨g1,g2⟩:=W02.1 hgq;obtain ⟨S1,hS1⟩:=Qex (S++cmk h x q);obtain ⟨T1,hT1⟩:=Qex (S++cmk h x (q+1));have hl1:S1.length<=100:=(by rw[hS1,W0s];omega);have bb:(S1.length+1)*8<=70368744177664:=(by omega);have hw1:npI O id d l h x S i q=⟨[(54,.int .i64 q),(53,.int .i64 2),(52,.vsl C),(43,.int .i64 i),(42,.int .i64 l.length),(41,.vsl (l.map na)),(8,.osl 35 S1.length),(0,O),(1,.int .i64 id),(2,.int .i64 d),(7,.ptr 7 0)],[(35,.row 1 (S1.map ia)),(7,.box (hoa h))]⟩:=(by rw[npI,<- hC,<- hS1]);have hw2:npI O id d l h x S i (q+1)=⟨[(54,.int .i64 (q+1:Nat)),(53,.int .i64 2),(52,.vsl C),(43,.int .i64 i),(42,.int .i64 l.length),(41,.vsl (l.map na)),(8,.osl 35 T1.length),(0,O),(1,.int .i64 id),(2,.int .i64 d),(7,.ptr 7 0)],[(35,.row 1 (T1.map ia)),(7,.box (hoa h))]⟩:=(by rw[npI,<- hC,<- hT1]);have q2':(q:Int)<2:=(by omega);refine Qga ?_;simp -implicitDefEqProofs[hw1,hho,q2',hCl,hq,g2,hgq];refine Qco (c3) ?_
     cases hin:inR cc h.fr h.to
     . rw[hin]at sq;have e:T1=S1:=(by rw[hT1,hS1,sq];simp);simp -implicitDefEqProofs[wq];rw[hw2,e]
       ((try simp only[hho,kO]);refine Ym.sub (by simp[lk,Ya,AV.keys,hho,kO]) ?_;simp only[hho,kO,Wkl,Zem,and_true];(try simp[lk,Yc,Ya,AV.keys,hho,kO]))
     . rw[hin,if_pos rfl]at sq;have e:T1=S1++[cc]:=(by rw[hT1,hS1,sq,W0U]);have em:T1.map ia=S1.map ia++[[.int .i64 cc]]:=(by rw[e,W0r];rfl);have eT:T1.length=S1.length+1:=(by rw[e];simp);simp -implicitDefEqProofs[wq,bb];rw[hw2,<- em,eT]
       ((try simp only[hho,kO]);refine Ym.sub (by simp[lk,Ya,AV.keys,hho,kO]) ?_;simp only[hho,kO,Wkl,Zem,and_true];(try simp[lk,Yc,Ya,AV.keys,hho,kO]))
   . intro _;refine Qga ?_;simp -implicitDefEqProofs[npI];refine Qgr ?_;simp -implicitDefEqProofs[wi];have em:T.map ia=S.map ia++(cmk h x 2).map ia:=(by rw[sc,W0r]);have eT:T.length=S.length+(cmk h x 2).length:=(by rw[sc,W0s]);simp only[npS,<- hT];rw[<- em,<- eT]
     ((try simp only[hho,kO]);refine Ym.sub (by simp[lk,Ya,AV.keys,hho,kO]) ?_;simp only[hho,kO,Wkl,Zem,and_true];(try simp[lk,Yc,Ya,AV.keys,hho,kO]))
 . intro _;rw[<- hset]at hnn ⊢;simp only[npS,ZlU];obtain ⟨M,hM⟩:=Qex (mks l h);rw[<- hM]at as0 hml hnn ⊢;have e3:M.flatMap (λm=>posL l d m)=psU l d M M.length:=(by unfold psU;rw[W0v]);rw[e3]at hnn ⊢;refine Qga ?_;simp -implicitDefEqProofs[];refine Qgr ?_;simp -implicitDefEqProofs[];refine Z8g (nqS O d l M) (λ_=>True) M.length ?_ trivial ?_ ?_
   . have e0:psU l d M 0=[]:=rfl;refine Ym.trans (Ym.frz (λk=>k == 35) _) ?_;simp only[nqS,e0,nlV,nlO,if_true]
     ((try simp only[Yi,frzA,frzO,frz,Yh,Yj,St.get,AV.pure,ia,kO,hho,fO]);refine Ym.sub (by simp[lk,Ya,AV.keys,Yi,frzA,frzO,frz,Yh,Yj,St.get,AV.pure,ia,kO,hho,fO]) ?_;simp only[Yi,frzA,frzO,frz,Yh,Yj,St.get,AV.pure,ia,kO,hho,fO,Wkl,and_true];(try simp[lk,Yc,Ya,AV.keys,Yi,frzA,frzO,frz,Yh,Yj,St.get,AV.pure,ia,kO,hho,fO]))
   . intro q hq _;have wq:i64.wrap ((q:Int)+1)=(q:Int)+1:=Yf;have sc:=ZlW (l:=l) (d:=d) hq;have hle:=ZlY (l:=l) (d:=d) (M:=M) q;obtain ⟨m,hm⟩:=Qex (M[q]);have c4:=c4 m;have hs0:=as0 m (by rw[hm];exact W0e hq);unfold poA at c4;rw[if_pos ⟨hs0,hdn⟩,if_pos hs0,if_pos hdn]at c4;rw[<- hm]at sc;have hlm:M[q]=m:=hm.symm;have hpn:=hpn m;have hpl:=ZlX (l:=l) (d:=d) (m:=m);generalize posL l d m=P at *;obtain ⟨S,hS⟩:=Qex (psU l d M q);obtain ⟨T,hT⟩:=Qex (psU l d M (q+1));rw[<- hS]at sc hle;rw[<- hT]at sc;have hw1:nqS O d l M q=⟨[(73,.int .i64 q),(72,.int .i64 M.length),(71,.vsl (M.map ia)),(13,nlV 90 S),(0,O),(2,.int .i64 d)],nlO 90 S⟩:=(by rw[nqS,<- hS]);have hw2:nqS O d l M (q+1)=⟨[(73,.int .i64 (q+1:Nat)),(72,.int .i64 M.length),(71,.vsl (M.map ia)),(13,nlV 90 T),(0,O),(2,.int .i64 d)],nlO 90 T⟩:=(by rw[nqS,<- hT]);have bb:(S.length+P.length)*8<=70368744177664:=(by omega);have bb2:P.length*8<=70368744177664:=(by omega);have hne:¬T=[]:=(by rw[sc];simp[hpn]);have em:T.map ia=S.map ia++P.map ia:=(by rw[sc,W0r]);have eT:T.length=S.length+P.length:=(by rw[sc,W0s]);have hV2:nlV 90 T = .osl 90 T.length:=(by simp[nlV,hne]);have hQ2:nlO 90 T=[(90,.row 1 (T.map ia))]:=(by simp[nlO,hne]);by_cases cS:S=[]
     case' pos =>
      have hV:nlV 90 S = .nils:=(by simp[nlV,cS]);have hQ:nlO 90 S=[]:=by simp[nlO,cS]
     case' neg =>
      have hV:nlV 90 S = .osl 90 S.length:=(by simp[nlV,cS]);have hQ:nlO 90 S=[(90,.row 1 (S.map ia))]:=by simp[nlO,cS]
     all_goals
      refine Qga ?_;simp -implicitDefEqProofs[hw1,hV,hQ,hq,hlm,ia];simp -implicitDefEqProofs[eO];rw[<- eO];refine Yd.of c4 (by simp[AV.pure,isa,na]) ?_;simp -implicitDefEqProofs[hpn,bb,bb2,wq,ia];rw[hw2,hV2,hQ2]
      first
       |(rw[em,cS];((try simp only[ia,kO,eT,cS]);refine Ym.sub (by simp[lk,Ya,AV.keys,ia,kO,eT,cS]) ?_;simp only[ia,kO,eT,cS,Wkl,and_true];(try simp[lk,Yc,Ya,AV.keys,ia,kO,eT,cS]));done)
       |(rw[<- em];((try simp only[kO,eT]);refine Ym.sub (by simp[lk,Ya,AV.keys,kO,eT]) ?_;simp only[kO,eT,Wkl,Zem,and_true];(try simp[lk,Yc,Ya,AV.keys,kO,eT]));done)
   . intro _;have hle:=ZlY (l:=l) (d:=d) (M:=M) M.length;obtain ⟨U,hU⟩:=Qex (psU l d M M.length);rw[<- hU]at hnn hle ⊢;have hw1:nqS O d l M M.length=⟨[(73,.int .i64 M.length),(72,.int .i64 M.length),(71,.vsl (M.map ia)),(13,nlV 90 U),(0,O),(2,.int .i64 d)],nlO 90 U⟩:=(by rw[nqS,<- hU]);obtain ⟨hsp,hcp,hOl,hOt,hOf,kO',rO,hCl⟩:=ZkF (G:=R.G) U (by omega);have cU:¬U=[]:=λh=>hnn (W1t.2 λx hx=>by have:=ZbC.1 hx;rw[h]at this;cases this)
     have hV:nlV 90 U = .osl 90 U.length:=(by simp[nlV,cU]);have hQ:nlO 90 U=[(90,.row 1 (U.map ia))]:=(by simp[nlO,cU]);refine Qga ?_;simp -implicitDefEqProofs[hw1,hV,hQ];refine Qgr ?_;simp -implicitDefEqProofs[];refine Yd.sem (Z1B.byref hsp (λ_=>90) (by simp) (by simp) (by simp[St.get,lk,Zel]) (by simp[Zem]) (by simp[Ya,AV.keys,lk]) rfl (by simp[AV.ren]) rfl rfl) ?_;simp -implicitDefEqProofs[Yl,Zel];refine Yd.sem (Z1B.byref hcp (λ_=>90) (by simp) (by simp) (by simp[St.get,lk,Zel]) (by simp[Zem]) (by simp[Ya,AV.keys,lk]) rfl (by simp[AV.ren]) rfl rfl) ?_;by_cases hq:(setI U).length=U.length
     . have hOf:=hOf hq;rw[hOf]at *;simp -implicitDefEqProofs[Yl,Zel,hq,AV.ren,ia,Yg,hnn]
     . simp -implicitDefEqProofs[Yl,rO,hq,AV.ren,hOl,hOt,hCl,ia,Yg,hnn]
def Zm0 {r:Jr} {l:Jl} {hs:Jh} {ps:Jp} (h:ck7 r l hs ps=0) {x:Hld} (hx:x∈hs):∀ d∈x.ds,d∈nums r:=by
 obtain ⟨i,hi,rfl⟩:=W0k hx;have h1:=W03.1 (ZiW.1 (ZjP.1 h).2).1.2 i (W1u.2 hi);simp only[hoB,W01,ZiR hi]at h1;intro d hd;obtain ⟨k,hk,rfl⟩:=W0k hd;have h2:=W03.1 h1.2 k (W1u.2 hk);simp only[W01,W0j,W07 hk,W0P]at h2;simpa using h2.1
def neE (r:Jr) (l:Jl) (hs:Jh) (ps:Jp) (id d:Int):List Int:=if ab7 r l hs ps 0 1 id [d]=0 then ndI l hs id d else []
def neA (r:Jr) (l:Jl) (hs:Jh) (ps:Jp) (id d:Int):AV:=.tup [Yg ((neE r l hs ps id d).map ia),.int .i64 (ab7 r l hs ps 0 1 id [d])]
def Zm1 (S:List Int) (ok:Nat->Bool) (st:St):Yh ok st 6 (Yg (S.map ia))=some (Yg (S.map ia)):=by
 unfold Yg
 split
 . simp[Yh,AV.pure]
 . simp[Yh,AV.pure,ia]
def Zm2 (hG:GC G) (hN:GN G) (hP:GP G) (r:Jr) (l:Jl) (hs:Jh) (ps:Jp) (id d:Int) (hl:WfN l) (hr:Wf r) (hd:Sml (nums r)) (hw:WfP hs ps) :
  PC prog G 27 [prA r l hs ps,.int .i64 id,.int .i64 d] (neA r l hs ps id d):=by
 have ha:=ZjV hG hN hP r l hs ps 0 1 id [d] hl hr hd hw (by simp[Sml]);have e1:[d].map ia=[[.int .i64 d]]:=rfl;rw[e1]at ha;have pO:=ZiZ r l hs ps;unfold abP at ha;unfold neA neE;by_cases h0:ab7 r l hs ps 0 1 id [d]=0
 . obtain ⟨q1,q2,q3⟩:=Zlk h0;have hn:=ZlZ hG hN r l hs ps id d hl hr hd hw (Zlj q1).1 q2 (q3 d (by simp));have pV:=Zkq (ndI l hs id d);rw[if_pos h0,h0]at ha;rw[if_pos h0,h0];have sV:=Zm1 (ndI l hs id d);generalize Yg ((ndI l hs id d).map ia)=V at *;unfold prA at *
   (refine Zhv rfl λR hG hrd=>Qga ?_;subst hG)
   simp -implicitDefEqProofs[Zht,Zhu];refine Qco (ha) ?_;simp -implicitDefEqProofs[];refine Yd.of hn (by simp[pO,AV.pure]) ?_;simp -implicitDefEqProofs[sV]
 . rw[if_neg h0]at ha;rw[if_neg h0];unfold prA at *
   (refine Zhv rfl λR hG hrd=>Qga ?_;subst hG)
   simp -implicitDefEqProofs[Zht,Zhu];refine Qco (ha) ?_;simp -implicitDefEqProofs[h0,Yg]
def Zm3 {r:Jr} {l:Jl} {hs:Jh} {ps:Jp} (h:ck7 r l hs ps=0) {x:Prt} (hx:x∈ps):0<=hoI hs x.ho/\x.dw∈nums r:=by
 have h2:=(ZiW.1 (ZjP.1 h).2).2.2.2 x hx;simp only[prB,W01]at h2;refine ⟨?_,?_⟩
 . have:=hoF_I hs x.ho;rw[h2.1.1.1.2]at this;simpa using this
 . obtain ⟨y,hy⟩:=W0t.1 h2.1.2;obtain ⟨g1,g2,g3⟩:=Z91 hy;obtain ⟨j,hj,rfl⟩:=W0k g1;rw[<- g2];exact Z8O (Z8J (ZiN (ZjQ (ZjP.1 h).1))) hj
def nmK (L:Jp) (i:Nat):List Int:=(L.take i).map (·.no)
def Zm4 {L:Jp} {i:Nat} (h:i<L.length):nmK L (i+1)=nmK L i++[L[i].no]:=by
 unfold nmK;rw[W08 h,W0r];rfl
def Zm5 {L:Jp} {i:Nat}:(nmK L i).length<=i:=by
 unfold nmK;rw[W0N,W15];omega
def nmS (L:Jp) (S:List Int) (i:Nat):St:=⟨[(8,.int .i64 i),(7,.int .i64 L.length),(6,.vsl (L.map ptA)),(3,nlV 16 S)],nlO 16 S⟩
def sta7E (r:Jr) (l:Jl) (hs:Jh) (ps:Jp) (day:Int):List Int:=if as7 r l hs ps day 1=0 then (staL l hs ps day).map (·.no) else []
def stA7 (r:Jr) (l:Jl) (hs:Jh) (ps:Jp) (day:Int):AV:=.tup [Yg ((sta7E r l hs ps day).map ia),.int .i64 (as7 r l hs ps day 1)]
def Zm6 (L:Jp) (hl:L.length<=100):PC prog G 90 [.vsl (L.map ptA)] (Yg ((nmK L L.length).map ia)):=by
 refine ZgU rfl λR hG hrd=>?_
 subst hG;refine Qga ?_;simp -implicitDefEqProofs[ZgS,ZgT];refine Z8g (λi=>nmS L (nmK L i) i) (λ_=>True) L.length ?_ trivial ?_ ?_
 . have e0:nmK L 0=[]:=rfl;simp only[nmS,e0,nlV,nlO,if_true]
   (refine Wkc ?_;simp only[Wkl,and_true];(try simp[lk,Yc,Ya,AV.keys]))
 . intro i hi _;have wi:i64.wrap ((i:Int)+1)=(i:Int)+1:=Yf;have sc:=Zm4 hi;have hle:=Zm5 (L:=L) (i:=i);obtain ⟨x,hx⟩:=Qex (L[i]);rw[<- hx]at sc;have hlx:L[i]=x:=hx.symm;have hpt:ptA x=[.int .i64 x.no,.int .i64 x.dy,.int .i64 x.ho,.int .i64 x.dw,.int .i64 x.lt,.int .i64 x.bk,.int .u8 x.lo]:=rfl;obtain ⟨S,hS⟩:=Qex (nmK L i);obtain ⟨T,hT⟩:=Qex (nmK L (i+1));rw[<- hS]at sc hle;rw[<- hT]at sc;have bb:(S.length+1)*8<=70368744177664:=(by omega);have hw1:nmS L (nmK L i) i=⟨[(8,.int .i64 i),(7,.int .i64 L.length),(6,.vsl (L.map ptA)),(3,nlV 16 S)],nlO 16 S⟩:=(by rw[nmS,<- hS]);have hw2:nmS L (nmK L (i+1)) (i+1)=⟨[(8,.int .i64 (i+1:Nat)),(7,.int .i64 L.length),(6,.vsl (L.map ptA)),(3,nlV 16 T)],nlO 16 T⟩:=(by rw[nmS,<- hT]);have hne:¬T=[]:=(by rw[sc];simp);have em:T.map ia=S.map ia++[[.int .i64 x.no]]:=(by rw[sc,W0r];rfl);have eT:T.length=S.length+1:=(by rw[sc];simp);have hV2:nlV 16 T = .osl 16 (S.length+1):=(by simp[nlV,hne,eT]);have hQ2:nlO 16 T=[(16,.row 1 (T.map ia))]:=(by simp[nlO,hne]);by_cases cS:S=[]
   case' pos =>
    have hV:nlV 16 S = .nils:=(by simp[nlV,cS]);have hQ:nlO 16 S=[]:=by simp[nlO,cS]
   case' neg =>
    have hV:nlV 16 S = .osl 16 S.length:=(by simp[nlV,cS]);have hQ:nlO 16 S=[(16,.row 1 (S.map ia))]:=by simp[nlO,cS]
   all_goals
    refine Qga ?_;simp -implicitDefEqProofs[hw1,hV,hQ,hi,hlx,hpt,wi,bb];rw[hw2,hV2,hQ2]
    first
     |(rw[em,cS];((try simp only[hpt,ia]);refine Ym.sub (by simp[lk,Ya,AV.keys,hpt,ia]) ?_;simp only[hpt,ia,Wkl,and_true];(try simp[lk,Yc,Ya,AV.keys,hpt,ia]));done)
     |(rw[<- em];((try simp only[hpt,eT]);refine Ym.sub (by simp[lk,Ya,AV.keys,hpt,eT]) ?_;simp only[hpt,eT,Wkl,Zem,and_true];(try simp[lk,Yc,Ya,AV.keys,hpt,eT]));done)
 . intro _;obtain ⟨S,hS⟩:=Qex (nmK L L.length);rw[<- hS];refine Qga ?_;by_cases cS:S=[]
   . have hV:nlV 16 S = .nils:=(by simp[nlV,cS]);have hQ:nlO 16 S=[]:=(by simp[nlO,cS]);simp -implicitDefEqProofs[nmS,<- hS,hV,hQ];refine Qgr ?_;simp -implicitDefEqProofs[Yg,cS]
   . have hV:nlV 16 S = .osl 16 S.length:=(by simp[nlV,cS]);have hQ:nlO 16 S=[(16,.row 1 (S.map ia))]:=(by simp[nlO,cS]);simp -implicitDefEqProofs[nmS,<- hS,hV,hQ];refine Qgr ?_;simp -implicitDefEqProofs[Yg,cS,ia]
def wgE (r:Jr) (l:Jl) (hs:Jh) (ps:Jp) (day id d m:Int):Int:=if ab7 r l hs ps day m id [d]=0 then wrN (wkL ps day id d) (posL l d m) else 0
def wgA (r:Jr) (l:Jl) (hs:Jh) (ps:Jp) (day id d m:Int):AV:=.tup [.int .u8 (wgE r l hs ps day id d m),.int .i64 (ab7 r l hs ps day m id [d])]
def Zm7 {ps:Jp} {day id d:Int}:(wkL ps day id d).length<=10:=by
 unfold wkL;have:=W0D (λn=>decide (sureM ps day id d<n)&&(perhL ps day id d).contains n) r9;have h9:r9.length=9:=rfl;simp only[W1p];omega
def Zm8 (a b:List Int) (ha:Sml a):PC prog G 84 [.vsl (a.map ia),.vsl (b.map ia)] (.bool (decide (a=b))):=by
 unfold Sml at ha
 (refine Zhc rfl λR hG hrd=>Qga ?_;subst hG)
 by_cases hl:a.length=b.length
 case neg =>
  have hl':¬(a.length:Int)=(b.length:Int):=(by omega);have hne:¬a=b:=λh=>hl (by rw[h])
  simp -implicitDefEqProofs[Zha,Zhb,hl,hl',hne]
 have hl':(a.length:Int)=(b.length:Int):=(by omega);simp -implicitDefEqProofs[Zha,Zhb,hl'];refine Z8g (λi=>⟨[(13,.int .i64 i),(12,.int .i64 a.length),(0,.vsl (a.map ia)),(1,.vsl (b.map ia))],[]⟩) (λi=>a.take i=b.take i) a.length ?_ rfl ?_ ?_
 . ((try simp only[hl']);refine Ym.sub (by simp[lk,Ya,AV.keys,hl']) ?_;simp only[hl',Wkl,and_true];(try simp[lk,Yc,Ya,AV.keys,hl']))
 . intro i hi he;have hj:i<b.length:=(by omega);have wi:i64.wrap ((i:Int)+1)=(i:Int)+1:=Yf;have hi':(i:Int)<b.length:=(by omega);refine Qga ?_;by_cases q:a[i]=b[i]
   . simp -implicitDefEqProofs[hi,hj,hi',hl',ia,q];refine ⟨rfl,?_⟩;simp -implicitDefEqProofs[wi];refine ⟨?_,by rw[W08 hi,W08 hj,he,q]⟩
     ((try simp only[hl']);refine Ym.sub (by simp[lk,Ya,AV.keys,hl']) ?_;simp only[hl',Wkl,and_true];(try simp[lk,Yc,Ya,AV.keys,hl']))
   . have hne:¬a=b:=λh=>q (by subst h;rfl)
     simp -implicitDefEqProofs[hi,hj,hi',hl',ia,q];refine ⟨rfl,?_⟩;simp -implicitDefEqProofs[hne];refine Qgr ?_;simp -implicitDefEqProofs[]
 . intro he
   have e:a=b:=by
    have h2:b.take a.length=b:=(by rw[hl,W0v]);rw[W0v,h2]at he;exact he
   refine Qga ?_;simp -implicitDefEqProofs[];refine Qgr ?_;simp -implicitDefEqProofs[e]
def Zm9 (b:List Int) (x:Int) (hb:Sml b):PC prog G 86 [.int .i64 x,.vptr [.vsl (b.map ia)] 0] (.bool (decide (x∈b))):=by
 have hc:=ZeG (G:=G) b x hb
 (refine Zh9 rfl λR hG hrd=>Qga ?_;subst hG)
 simp -implicitDefEqProofs[Zh7,Zh8];refine Qco (hc) ?_;simp -implicitDefEqProofs[]
def Zma (hG:GC G) (hN:GN G) (hP:GP G) (r:Jr) (l:Jl) (hs:Jh) (ps:Jp) (day id d m:Int) (hl:WfN l) (hr:Wf r) (hd:Sml (nums r)) (hw:WfP hs ps) :
  PC prog G 31 [prA r l hs ps,.int .i64 day,.int .i64 id,.int .i64 d,.int .i64 m] (wgA r l hs ps day id d m):=by
 have ha:=ZjV hG hN hP r l hs ps day m id [d] hl hr hd hw (by simp[Sml]);have e1:[d].map ia=[[.int .i64 d]]:=rfl;rw[e1]at ha;have pO:=ZiZ r l hs ps;unfold abP at ha;unfold wgA wgE;by_cases h0:ab7 r l hs ps day m id [d]=0
 case neg =>
  rw[if_neg h0]at ha;rw[if_neg h0];unfold prA at *
  (refine Zh6 rfl λR hG hrd=>Qga ?_;subst hG)
  simp -implicitDefEqProofs[Zh4,Zh5];refine Qco (ha) ?_;simp -implicitDefEqProofs[h0]
 obtain ⟨q1,q2,q3⟩:=Zlk h0;obtain ⟨k0,k1,k2⟩:=Zlj q1;obtain ⟨g1,g2⟩:=ZlM (r:=r) (l:=l) (hs:=hs) hw.po k0;have hdn:=q3 d (by simp);have hW:=Zkk (G:=G) r l hs ps day id d hw.pl g1 g2;have hop:=ZjQ (ZjP.1 k0).1;have hB:=Zfi (ZjP.1 k0).1
 have as0:asN r l [] m=0:=by
  unfold asN;rw[if_pos (ZjP.1 k0).1,if_pos (by simp[truB]),if_pos k2]
 have hQ:=ZkG hG hN r l d m hl hr hd;unfold poA at hQ;rw[if_pos ⟨as0,hdn⟩,if_pos as0,if_pos hdn]at hQ;have hz:=ZfX (ZfS ps day id d) (ZfH l d m) (by simp[wkL]) (ZfM λv=>ZiP hop hB hdn m v);have wl:=Zm7 (ps:=ps) (day:=day) (id:=id) (d:=d);have pl:=ZlX (l:=l) (d:=d) (m:=m);have aE:=Zm8 (G:=G) (wkL ps day id d) (posL l d m) (by unfold Sml;omega);have aC:=Z98 (G:=G) 86 [.vptr [.vsl ((posL l d m).map ia)] 0] (λx=>decide (x∈posL l d m)) (wkL ps day id d) (by simp[AV.pure,ia]) (by unfold Sml;omega) (λx _=>Zm9 (posL l d m) x (by unfold Sml;omega));obtain ⟨w,hwv⟩:=Qex (wrN (wkL ps day id d) (posL l d m));rw[if_pos h0,h0]at ha;rw[if_pos h0,h0,<- hwv];unfold wrN at hwv;generalize wkL ps day id d=A at *;generalize posL l d m=Q at *
 have hany:(A.any λx=>Q.any λy=>decide (x=y))=A.any λx=>decide (x∈Q):=by
  congr 1;funext x
  rw[W2h,W14];simp
 rw[hany]at hwv;unfold prA at *
 (refine Zh6 rfl λR hG hrd=>Qga ?_;subst hG)
 simp -implicitDefEqProofs[Zh4,Zh5];refine Qco (ha) ?_;simp -implicitDefEqProofs[];refine Yd.of hW (by simp[pO,AV.pure]) ?_;simp -implicitDefEqProofs[];refine Yd.of hQ (by simp[AV.pure,isa,na]) ?_;simp -implicitDefEqProofs[];by_cases c1:A.length=1
 . have c1':(A.length:Int)=1:=(by omega);simp -implicitDefEqProofs[c1,c1'];refine Qco (aE) ?_;by_cases c2:A=Q
   . have z:(A.any λx=>Q.any λy=>!decide (x=y))=false:=hz.2 ⟨c1,c2⟩;rw[if_pos z]at hwv;rw[hwv];simp -implicitDefEqProofs[c2]
   . have z:¬(A.any λx=>Q.any λy=>!decide (x=y))=false:=λh=>c2 (hz.1 h).2
     rw[if_neg z]at hwv;simp -implicitDefEqProofs[c2]
     (first|refine Yd.flat (aC) (by simp[AV.flat]) (by simp) ?_|refine Ye.flat (aC) (by simp[AV.flat]) (by simp) ?_)
     cases e:A.any λx=>decide (x∈Q)
     . rw[if_pos e]at hwv;simp -implicitDefEqProofs[hwv]
     . rw[if_neg (by rw[e];simp)]at hwv;simp -implicitDefEqProofs[hwv]
 . have c1':¬(A.length:Int)=1:=(by omega);have z:¬(A.any λx=>Q.any λy=>!decide (x=y))=false:=λh=>c1 (hz.1 h).1
   rw[if_neg z]at hwv;simp -implicitDefEqProofs[c1,c1']
   (first|refine Yd.flat (aC) (by simp[AV.flat]) (by simp) ?_|refine Ye.flat (aC) (by simp[AV.flat]) (by simp) ?_)
   cases e:A.any λx=>decide (x∈Q)
   . rw[if_pos e]at hwv;simp -implicitDefEqProofs[hwv]
   . rw[if_neg (by rw[e];simp)]at hwv;simp -implicitDefEqProofs[hwv]
def rfK (x:Rf):AV:=.agg [.int .i64 x.1,.int .i64 x.2]
def rfS (l:List Rf):List (AV×AV):=l.map λp=>(rfK p,.bool true)
def rf_eq (x p:Rf):(KK.ag [.i,.i]).eq (rfK x) (rfK p)=some (decide (x=p)):=by
 obtain ⟨a,b⟩:=x;obtain ⟨e,f⟩:=p;simp only[rfK,KK.eq,eqL,eq1,if_true,W06,W2c]
 congr 1
 by_cases h1:a=e <;> by_cases h2:b=f <;> simp[h1,h2]
def Zmb (x:Rf):∀ l:List Rf,(KK.ag [.i,.i]).find (rfK x) (rfS l)=some (l.findIdx? λp=>decide (x=p))
 |[]=>rfl
 | p::r=>by
   have ih:=Zmb x r;have e:rfS (p::r)=(rfK p,.bool true)::rfS r:=rfl;rw[e,KK.find,rf_eq,ih,List.findIdx?_cons];by_cases c:x=p
   . simp[c]
   . simp[c]
def rf_is (x:Rf):(KK.ag [.i,.i]).is (rfK x)=true:=rfl
def Zmc (a b : Int) (l : List Rf):(KK.ag [.i,.i]).get (.agg [.int .i64 a,.int .i64 b]) (rfS l)=some (if (a,b)∈l then some (.bool true) else none):=by
 show (KK.ag [.i,.i]).get (rfK (a,b)) (rfS l)=_;unfold KK.get;rw[if_pos (rf_is (a,b)),Zmb]
 cases q:l.findIdx? λp=>decide ((a,b)=p) with
 | none =>
   rw[W1F]at q;have:(a,b) ∉ l:=λh=>by have:=q _ h;simp at this
   simp[this]
 | some j =>
   rw[W1A]at q;obtain ⟨h1,h2,-⟩:=q
   have h3 : (a, b) ∈ l := by have:(a,b)=l[j]:=by simpa using h2
                              rw[this];exact W0e h1
   simp[rfS,h1,h3]
def addU (l:List Rf) (x:Rf):List Rf:=if x∈l then l else l++[x]
def Zmd {l:List Rf} {x y:Rf}:y∈addU l x↔y∈l∨y=x:=by
 unfold addU
 split
 . rename_i h
   constructor
   . exact .inl
   . rintro (h1|rfl)
     . exact h1
     . exact h
 . simp
def Zme (a b:Int) (l:List Rf):(KK.ag [.i,.i]).put (.agg [.int .i64 a,.int .i64 b]) (.bool true) (rfS l)=some (rfS (addU l (a,b))):=by
 show (KK.ag [.i,.i]).put (rfK (a,b)) (.bool true) (rfS l)=_;unfold KK.put addU;rw[if_pos (rf_is (a,b)),Zmb]
 cases q:l.findIdx? λp=>decide ((a,b)=p) with
 | none =>
   rw[W1F]at q;have:(a,b) ∉ l:=λh=>by have:=q _ h;simp at this
   rw[if_neg this];simp[rfS]
 | some j =>
   rw[W1A]at q;obtain ⟨h1,h2,-⟩:=q;have h4:(a,b)=l[j]:=(by simpa using h2);have h3:(a,b)∈l:=(by rw[h4];exact W0e h1);rw[if_pos h3];have:(rfS l)[j]? = some (rfK (a,b),.bool true):=(by simp[rfS,h1,<- h4]);obtain ⟨g1,g2⟩:=W02.1 this;simp only[W00];rw[<- g2,List.set_getElem_self]
def Zmf (o:List (Nat×AObj)) (l:List Rf):Yc o (.mp (rfS l))=true:=by
 simp only[Yc,W03,rfS,W0i];rintro x ⟨y,-,rfl⟩;simp[rfK,Ya,AV.keys]
def Zmg (ρ:Nat->Nat) (l:List Rf):AObj.ren ρ (.mp (rfS l)) = .mp (rfS l):=by
 simp[AObj.ren,rfS,rfK,AV.ren,W0y]
def Zmh (ok:Nat->Bool) (st:St) (l:List Rf):frzO ok st (.mp (rfS l)) = .mp (rfS l):=by
 simp[frzO,rfS,rfK,frzA,frz,AV.keys,W0y]
def thP (id:Int) (x:Prt):Bool:=decide (x.ho=id)&&decide (x.lo=0)
def thK (id:Int) (L:Jp) (k:Nat):List Rf:=(L.take k).foldl (λa x=>if thP id x=true then addU a (x.dw,x.lt) else a) []
def Zmi {id:Int} {L:Jp} {k:Nat} (h:k<L.length):thK id L (k+1)=if thP id L[k]=true then addU (thK id L k) (L[k].dw,L[k].lt) else thK id L k:=by
 unfold thK;rw[W08 h,W1q];rfl
def Zmj {id:Int} {L:Jp} {y:Rf}:∀ k,k<=L.length->(y∈thK id L k↔∃ x∈L.take k,thP id x=true/\(x.dw,x.lt)=y)
 |0,_=>by simp[thK]
 | k + 1,h=>by
   have ih:=Zmj (id:=id) (L:=L) (y:=y) k (by omega);rw[Zmi (by omega:k<L.length),W08 (by omega:k<L.length)]
   constructor
   . intro hy
     split at hy
     . rename_i c;rcases Zmd.1 hy with hy|rfl
       . obtain ⟨x,h1,h2⟩:=ih.1 hy;exact ⟨x,List.mem_append_left _ h1,h2⟩
       . exact ⟨_,List.mem_append_right _ (W0B.2 rfl),c,rfl⟩
     . obtain ⟨x,h1,h2⟩:=ih.1 hy;exact ⟨x,List.mem_append_left _ h1,h2⟩
   . rintro ⟨x,h1,h2,h3⟩;rcases W0h.1 h1 with h1|h1
     . have:=ih.2 ⟨x,h1,h2,h3⟩
       split
       . exact Zmd.2 (.inl this)
       . exact this
     . rw[W0B]at h1;subst h1;rw[if_pos h2,h3];exact Zmd.2 (.inr rfl)
def Zmk {ps:Jp} {day id d n:Int}:decide ((d,n)∈thK id (outP ps day) (outP ps day).length)=ZfY ps day id d n:=by
 rw[W2h,W0b,Zmj _ (W0f _),W0v];unfold ZfY outP;rw[W14]
 constructor
 . rintro ⟨x,h1,h2,h3⟩;obtain ⟨h4,h5⟩:=W0G.1 h1;simp only[thP,W01,W0b]at h2;simp only[W06]at h3;exact ⟨x,h4,by simp[herB,h5,h2,h3]⟩
 . rintro ⟨x,h1,h2⟩;simp only[herB,W01,W0b]at h2;obtain ⟨⟨⟨⟨h3,h4⟩,h5⟩,h6⟩,h7⟩:=h2;exact ⟨x,W0G.2 ⟨h1,h4⟩,by simp[thP,h3,h7],by rw[h5,h6]⟩
def nd2 (l:Jl) (hs:Jh) (x:Rf):AV:=Yg ((ndI l hs x.1 x.2).map ia)
def mmA (f:Rf->AV) (K:List Rf):List (AV×AV):=K.map λp=>(rfK p,f p)
def Zml (f:Rf->AV) (x:Rf):∀ l:List Rf,(KK.ag [.i,.i]).find (rfK x) (mmA f l)=some (l.findIdx? λp=>decide (x=p))
 |[]=>rfl
 | p::r=>by
   have ih:=Zml f x r;have e:mmA f (p::r)=(rfK p,f p)::mmA f r:=rfl;rw[e,KK.find,rf_eq,ih,List.findIdx?_cons];by_cases c:x=p
   . simp[c]
   . simp[c]
def Zmm (f:Rf->AV) (a b:Int) (l:List Rf):(KK.ag [.i,.i]).get (.agg [.int .i64 a,.int .i64 b]) (mmA f l)=some (if (a,b)∈l then some (f (a,b)) else none):=by
 show (KK.ag [.i,.i]).get (rfK (a,b)) (mmA f l)=_;unfold KK.get;rw[if_pos (rf_is (a,b)),Zml]
 cases q:l.findIdx? λp=>decide ((a,b)=p) with
 | none =>
   rw[W1F]at q;have:(a,b) ∉ l:=λh=>by have:=q _ h;simp at this
   simp[this]
 | some j =>
   rw[W1A]at q;obtain ⟨h1,h2,-⟩:=q;have h4:(a,b)=l[j]:=(by simpa using h2);have h3:(a,b)∈l:=(by rw[h4];exact W0e h1);simp[mmA,h1,h3,<- h4]
def Zmn (f:Rf->AV) (a b:Int) (l:List Rf) (h:(a,b) ∉ l):(KK.ag [.i,.i]).put (.agg [.int .i64 a,.int .i64 b]) (f (a,b)) (mmA f l)=some (mmA f (l++[(a,b)])):=by
 show (KK.ag [.i,.i]).put (rfK (a,b)) (f (a,b)) (mmA f l)=_;unfold KK.put;rw[if_pos (rf_is (a,b)),Zml]
 have q:(l.findIdx? λp=>decide ((a,b)=p))=none:=by
  rw[W1F];intro y hy;simp;rintro rfl;exact h hy
 rw[q];simp[mmA,rfK]
def Zmo (o:List (Nat×AObj)) {f:Rf->AV} (hf:∀ x,(f x).pure=true) (l:List Rf):Yc o (.mp (mmA f l))=true:=by
 simp only[Yc,W03,mmA,W0i];rintro x ⟨y,-,rfl⟩;simp[rfK,Ya,AV.keys,AV.pure_keys _ (hf y)]
def Zmp (ρ:Nat->Nat) {f:Rf->AV} (hf:∀ x,(f x).pure=true) (l:List Rf):AObj.ren ρ (.mp (mmA f l)) = .mp (mmA f l):=by
 simp[AObj.ren,mmA,rfK,AV.ren,W0y,λx=>AV.ren_pure (ρ:=ρ) (f x) (hf x)]
def Zmq (ok:Nat->Bool) (st:St) {f:Rf->AV} (hf:∀ st x,frz ok st 6 (f x)=some (f x)) (l:List Rf):frzO ok st (.mp (mmA f l)) = .mp (mmA f l):=by
 simp[frzO,mmA,rfK,frzA,frz,AV.keys,W0y,hf]
def wB (hs:Jh) (y:Prt):Bool:=match hoF hs y.ho with
 |some h=>decide (y.dw∈h.ds)
 |none=>false
def slB1 (l:Jl) (hs:Jh) (y:Prt):Bool:=wB hs y && !decide (y.lt∈ndI l hs y.ho y.dw)
def kyK (hs:Jh) (L:Jp) (k:Nat):List Rf:=(L.take k).foldl (λa y=>if wB hs y=true then addU a (y.ho,y.dw) else a) []
def Zmr {hs:Jh} {L:Jp} {k:Nat} (h:k<L.length):kyK hs L (k+1)=if wB hs L[k]=true then addU (kyK hs L k) (L[k].ho,L[k].dw) else kyK hs L k:=by
 unfold kyK;rw[W08 h,W1q];rfl
def slK (l:Jl) (hs:Jh) (L:Jp) (k:Nat):List Prt:=(L.take k).filter (slB1 l hs)
def Zms {l:Jl} {hs:Jh} {L:Jp} {k:Nat} (h:k<L.length):slK l hs L (k+1)=if slB1 l hs L[k]=true then slK l hs L k++[L[k]] else slK l hs L k:=by
 unfold slK;rw[W08 h,W1a]
 cases e:slB1 l hs L[k] <;> simp[e]
def Zmt {l:Jl} {hs:Jh} {L:Jp} {k:Nat}:(slK l hs L k).length<=k:=by
 unfold slK;exact W0O (W0D ..) (by simp;omega)
def Zmu {l:Jl} {hs:Jh} {ps:Jp} {day:Int}:slK l hs (outP ps day) (outP ps day).length=staL l hs ps day:=by
 unfold slK staL outP;rw[W0v,List.filter_filter];refine List.filter_congr λy _=>?_
 unfold stB slB1 wB ndI
 cases hoF hs y.ho with
 |none=>simp
 |some h=>cases outB y day <;> simp
def p7V (k:Nat) (S:Jp):AV:=if S=[] then .nils else .osl k S.length
def p7O (k:Nat) (S:Jp):List (Nat×AObj):=if S=[] then [] else [(k,.row 7 (S.map ptA))]
def p7N (k:Nat) (S:Jp):Nat:=if S=[] then k-1000 else k
def slB (f:Rf->AV) (O:AV) (K:List Rf) (S:Jp):List (Nat×AObj):=[(1002,.box [O]),(1005,.box [.mp 1010]),(1010,.mp (mmA f K)),(1006,.box [p7V 1063 S])]++p7O 1063 S
def slU (f:Rf->AV) (O:AV) (K:List Rf) (S T:Jp):List (Nat×AObj):=[(1002,.box [O]),(1005,.box [.mp 1010]),(1010,.mp (mmA f K)),(1006,.box [p7V (p7N 1063 S) T])]++p7O (p7N 1063 S) T
def Zmv (ρ:Nat->Nat) (L:Jp):AObj.ren ρ (.row 7 (L.map ptA)) = .row 7 (L.map ptA):=by
 simp[AObj.ren,ptA,AV.ren,W0y]
def Zmw (ok:Nat->Bool) (st:St) (n:Nat) (rows:List (List AV)):frzO ok st (.row n rows) = .row n (rows.map λr=>r.map (frzA ok st)):=rfl
def Zmx (ok:Nat->Bool) (st:St) (l:Jp):frzO ok st (.row 7 (l.map ptA)) = .row 7 (l.map ptA):=by
 simp[frzO,ptA,frzA,frz,AV.keys,W0y]
def Zmy (hG:GC G) (hN:GN G) (r:Jr) (l:Jl) (hs:Jh) (ps:Jp) (day:Int) (hl:WfN l) (hr:Wf r) (hd:Sml (nums r)) (hw:WfP hs ps) (h0:ck7 r l hs ps=0) :
  PC prog G 91 [ofA r l hs ps,.int .i64 day] (Yg ((staL l hs ps day).map ptA)):=by
 have hhl:=hw.hl;rw[<- Zmu];have hO:=Zki (G:=G) r l hs ps day;have hit:=outIt (G:=G) r l hs ps day hw.pl;have eNl:=Zj6 ps day;have hat:=λk x h=>Zj7 (ps:=ps) (day:=day) (k:=k) (x:=x) h
 have hL:(outP ps day).length<=41:=W0O (W0D ..) hw.pl;have hLp:∀ x∈outP ps day,x∈ps:=λx hx=>(W0G.1 hx).1
 have c1:=λid=>Zjk (G:=G) r l hs ps id (by unfold Sml;omega)
 have c4:=λid d h1 h2=>ZlZ hG hN r l hs ps id d hl hr hd hw h0 h1 h2
 have c3:=λL n h=>ZeG (G:=G) L n h
 have pf:∀ x,(nd2 l hs x).pure=true:=λx=>Zkq _
 have ff:∀ (ok:Nat->Bool) st x,frz ok st 6 (nd2 l hs x)=some (nd2 l hs x):=λok st x=>by
  unfold nd2 Yg
  split <;> simp[frz,AV.keys]
 have c4':∀ id d,0<=hoI hs id->d∈nums r->PC prog G 80 [ofA r l hs ps,.int .i64 id,.int .i64 d] (nd2 l hs (id,d)):=c4;clear c4;have pO:=ZiZ r l hs ps;have kO:=Zj0 r l hs ps;have rO:=λρ=>AV.ren_pure (ρ:=ρ) (ofA r l hs ps) pO
 have fO:∀ ok st,frz ok st 6 (ofA r l hs ps)=some (ofA r l hs ps):=λok st=>by unfold ofA;simp[frz,AV.keys]
 have hop:=ZjQ (ZjP.1 h0).1;have hB:=Zfi (ZjP.1 h0).1
 have fv:∀ y:Prt,y∈ps->wB hs y=true->nd2 l hs (y.ho,y.dw) = .vsl ((ndI l hs y.ho y.dw).map ia)/\(ndI l hs y.ho y.dw).length<=8/\ndI l hs y.ho y.dw≠[]:=λy hy hwb=>by
  have hb:=(Zm3 h0 hy).2;unfold wB at hwb
  cases e:hoF hs y.ho with
  |none=>rw[e]at hwb;cases hwb
  | some h =>
    rw[e]at hwb;have hm:y.dw∈h.ds:=(by simpa using hwb);have en:ndI l hs y.ho y.dw=ndsL l h y.dw:=(by unfold ndI;rw[e]);have hn:=ZiQ (h:=h) hop hB hb hm;refine ⟨?_,?_,?_⟩
    . unfold nd2 Yg;rw[en,if_neg (by simpa using hn)]
    . rw[en];unfold ndsL
      split
      . exact W0O (W0D ..) (W0f _)
      . simp
    . rw[en];exact hn
 have eO:ofA r l hs ps = .vptr [.vsl (r.map isa),.vsl (l.map na),.vsl (hs.map hoa),.vsl (ps.map ptA),.vsl ((nums r).map ia)] 0:=rfl;obtain ⟨f,hf⟩:=Qex (nd2 l hs);rw[<- hf]at pf ff c4' fv;obtain ⟨cs,hOe,hc2⟩ : ∃ cs,ofA r l hs ps = .vptr cs 0/\cs[2]? = some (.vsl (hs.map hoa)):=⟨_,rfl,rfl⟩;rw[hOe]at pO kO rO hO hit;simp only[hOe]at c1 c4' fO ⊢;clear hOe eO;generalize outP ps day=L at *;generalize outE ps day=E at *;refine ZgX rfl λR hG' hrd=>?_
 subst hG';refine Qga ?_;simp -implicitDefEqProofs[ZgV,ZgW];refine Yd.of hO (by simp[pO,AV.pure]) ?_;simp -implicitDefEqProofs[]
 refine Zjt hrd (by decide) hit (by simp[evA,St.tmp,lk]) (by simp[AV.pure,pO]) (λk=>k == 8||k == 9) (by intro k hk;simp at hk;omega) r1K [(2,.ptr 1002 0),(5,.ptr 1005 0),(6,.ptr 1006 0)]
  (λk=>slB f (.vptr cs 0) (kyK hs L k) (slK l hs L k)) (λk=>slU f (.vptr cs 0) (kyK hs L (k+1)) (slK l hs L k) (slK l hs L (k+1))) (λk=>k<=L.length) (W1f _) ?_ ?_ ?_ ?_ ?_ ?_ ?_ ?_ ?_ ?_ ?_
 . intro k q hq;simp only[slB,p7O]at hq
   split at hq <;> simp at hq
   . rcases hq with rfl|rfl|rfl|rfl <;> simp
   . rcases hq with rfl|rfl|rfl|rfl|rfl <;> simp
 . intro k;simp only[slB,p7O]
   split <;> simp[r1K]
 . intro k;simp only[slU,p7O,p7N]
   split <;> split <;> simp[r1K]
 . intro k q hq
   have hne:slK l hs L (k+1)=[]->slK l hs L k=[]:=λh=>by
    by_cases c:k<L.length
    . rw[Zms c]at h
      split at h
      . simp at h
      . exact h
    . unfold slK at *;rw[W0J (by omega)]at h ⊢;exact h
   simp only[slB,slU,p7O,p7N]at *;by_cases c:slK l hs L k=[]
   . simp only[c,if_true]at *
     split <;> simp at hq ⊢ <;> rcases hq with rfl|rfl|rfl|rfl <;> simp[isK,lk]
   . have c2:¬slK l hs L (k+1)=[]:=λh=>c (hne h)
     simp only[c,c2,if_false]at *;simp at hq ⊢;rcases hq with rfl|rfl|rfl|rfl|rfl <;> simp[isK,lk]
 . intro k q hq;simp only[slB,slU,p7O,p7N]at *;by_cases c:slK l hs L k=[]
   . simp only[c,if_true]at *
     split at hq <;> simp at hq
     . rcases hq with rfl|rfl|rfl|rfl <;> exact .inl (by simp[isK,lk])
     . rcases hq with rfl|rfl|rfl|rfl|rfl
       . exact .inl (by simp[isK,lk])
       . exact .inl (by simp[isK,lk])
       . exact .inl (by simp[isK,lk])
       . exact .inl (by simp[isK,lk])
       . exact .inr (by simp[Yl,r1K,St.get,St.set,putO,lk])
   . simp only[c,if_false]at *
     split at hq <;> simp at hq
     . rcases hq with rfl|rfl|rfl|rfl <;> exact .inl (by simp[isK,lk])
     . rcases hq with rfl|rfl|rfl|rfl|rfl <;> exact .inl (by simp[isK,lk])
 . intro k
   have hne:slK l hs L (k+1)=[]->slK l hs L k=[]:=λh=>by
    by_cases c:k<L.length
    . rw[Zms c]at h
      split at h
      . simp at h
      . exact h
    . unfold slK at *;rw[W0J (by omega)]at h ⊢;exact h
   simp only[slB,slU,p7O,p7V,p7N];by_cases c:slK l hs L k=[] <;> by_cases c2:slK l hs L (k+1)=[]
   . simp[c,c2,Yl,r1K,AV.ren,Zfz,Zmp _ pf]
   . simp[c,c2,Yl,r1K,AV.ren,Zfz,Zmv,Zmp _ pf]
   . exact absurd (hne c2) c
   . simp[c,c2,Yl,r1K,AV.ren,Zfz,Zmv,Zmp _ pf]
 . have e0:slK l hs L 0=[]:=rfl;have e1:kyK hs L 0=[]:=rfl;have e2:mmA f []=[]:=rfl;simp[slB,p7O,p7V,e0,e1,e2,Yl,r1K,St.set,putO,AObj.ren,AV.ren,rO]
 . intro k q hq;simp only[slB,W0h]at hq;rcases hq with hq|hq
   . simp only[slB,p7O];simp at hq;rcases hq with rfl|rfl|rfl|rfl
     . simp[Yc,Ya,kO]
     . simp[Yc,Ya,AV.keys,lk]
     . exact Zmo _ pf _
     . unfold p7V
       split <;> simp[Yc,Ya,AV.keys,lk]
   . unfold p7O at hq
     split at hq
     . cases hq
     . rw[W0B]at hq;subst hq;exact ZlI _ _
 . intro q hq;simp at hq;rcases hq with rfl|rfl|rfl
   all_goals
    refine ⟨by simp[lk,AV.ren,r1K],by simp,by simp,λj k hk=>?_⟩;simp[AV.keys]at hk;subst hk;simp only[slB];simp[isK,lk]
 . intro k x hx hk R' hG1 hN1;obtain ⟨i,hkl,rfl⟩:=hat k x hx;have sc:=Zms (l:=l) (hs:=hs) hkl;have kc:=Zmr (hs:=hs) hkl;have hle:=Zmt (l:=l) (hs:=hs) (L:=L) (k:=k);have hyp:=hLp _ (W0e hkl);obtain ⟨b1,b2⟩:=Zm3 h0 hyp;have fv:=fv _ hyp;obtain ⟨y,hy⟩:=Qex (L[k]);rw[<- hy]at sc kc b1 b2 fv ⊢;have hpt:ptA y=[.int .i64 y.no,.int .i64 y.dy,.int .i64 y.ho,.int .i64 y.dw,.int .i64 y.lt,.int .i64 y.bk,.int .u8 y.lo]:=rfl;obtain ⟨k2,hk2,e1,e2⟩:=ZlO b1;have c1:=c1 y.ho;rw[e1]at c1;have c4:=c4' y.ho y.dw b1 b2;have hdl:=hw.dl _ (W0e hk2);obtain ⟨h,hh⟩:=Qex (hs[k2]);rw[<- hh]at hdl e2;have hlk:hs[k2]=h:=hh.symm;have hho:hoa h=[.int .i64 h.id,.int .i64 h.fr,.int .i64 h.to,.vsl (h.ds.map ia)]:=rfl;have c5:=c3 h.ds y.dw (by unfold Sml;omega);have hwb:wB hs y=decide (y.dw∈h.ds):=(by unfold wB;rw[e2]);obtain ⟨u1,hu1⟩ : ∃ u,u=decide (y.dw∈h.ds):=⟨_,rfl⟩;rw[<- hu1]at c5 hwb;unfold slB1 at sc;rw[hwb]at sc kc fv;obtain ⟨N,hNe⟩:=Qex (ndI l hs y.ho y.dw);rw[<- hNe]at sc fv;generalize kyK hs L k=K at *;generalize kyK hs L (k+1)=K' at *;generalize slK l hs L k=S at *;generalize slK l hs L (k+1)=T at *;have bb:(S.length+1)*56<=70368744177664:=(by omega);by_cases cS:S=[]
   case' pos =>
    have hV:p7V 1063 S = .nils:=(by simp[p7V,cS]);have hQ:p7O 1063 S=[]:=(by simp[p7O,cS]);have hM:p7N 1063 S=63:=by simp[p7N,cS]
   case' neg =>
    have hV:p7V 1063 S = .osl 1063 S.length:=(by simp[p7V,cS]);have hQ:p7O 1063 S=[(1063,.row 7 (S.map ptA))]:=(by simp[p7O,cS]);have hM:p7N 1063 S=1063:=by simp[p7N,cS]
   all_goals
    refine Qga ?_;simp only[slB,hV,hQ,W1e,W18];simp -implicitDefEqProofs[hpt];intro R'' hG2 hN2;refine Qga ?_;simp -implicitDefEqProofs[hpt,hc2,hG2];refine Ye.of c1 (by simp[pO,AV.pure]) ?_;simp -implicitDefEqProofs[hk2,hlk,hho];refine Ye.of c5 (by simp[AV.pure,ia]) ?_
    cases u1
    case false =>
     have kc:K'=K:=kc;have sc:T=S:=(by rw[sc];simp);simp -implicitDefEqProofs[];refine ⟨rfl,?_⟩;refine ⟨?_,by omega⟩;simp only[slU,hM,kc,sc];simp[p7V,p7O,cS,Yi,Zf7,Zmx,Zmq _ _ (ff _),frzA,frz,AV.keys,fO]
    obtain ⟨fv1,fv2,fv3⟩:=fv rfl;have c6:=c3 N y.lt (by unfold Sml;omega);obtain ⟨u2,hu2⟩ : ∃ u,u=decide (y.lt∈N):=⟨_,rfl⟩;rw[<- hu2]at c6 sc;simp -implicitDefEqProofs[];refine ⟨rfl,?_⟩;by_cases c:(y.ho,y.dw)∈K
    . have kc:K'=K:=(by rw[kc];simp[addU,c]);simp -implicitDefEqProofs[hpt,Zmm,c,fv1,fv3,hG2];refine Ye.of c6 (by simp[AV.pure,ia]) ?_
      cases u2
      . have sc:T=S++[y]:=(by rw[sc];simp);have hne:¬T=[]:=(by rw[sc];simp);have hTl:T.length=S.length+1:=(by rw[sc];simp);have em:T.map ptA=S.map ptA++[ptA y]:=(by rw[sc,W0r];rfl);simp -implicitDefEqProofs[];refine ⟨rfl,?_⟩
        try simp -implicitDefEqProofs[bb]
        refine ⟨?_,by omega⟩;simp only[slU,hM,kc,p7V,p7O,hne,if_false,hTl,em];simp[cS,Yi,Zf7,Zmw,Zmq _ _ (ff _),frzA,frz,AV.keys,fO,ptA,W0y]
      . have sc:T=S:=(by rw[sc];simp);simp -implicitDefEqProofs[];refine ⟨rfl,?_⟩;refine ⟨?_,by omega⟩;simp only[slU,hM,kc,sc];simp[p7V,p7O,cS,Yi,Zf7,Zmx,Zmq _ _ (ff _),frzA,frz,AV.keys,fO]
    . have kc:K'=K++[(y.ho,y.dw)]:=(by rw[kc];simp[addU,c]);have hin:(y.ho,y.dw)∈K++[(y.ho,y.dw)]:=(by simp);simp -implicitDefEqProofs[hpt,Zmm,c,hG2];refine Ye.of c4 (by simp[pO,AV.pure]) ?_;simp -implicitDefEqProofs[Zmn f _ _ K c];refine ⟨rfl,?_⟩;simp -implicitDefEqProofs[hpt,Zmm,hin,fv1,hG2];refine Ye.of c6 (by simp[AV.pure,ia]) ?_
      cases u2
      . have sc:T=S++[y]:=(by rw[sc];simp);have hne:¬T=[]:=(by rw[sc];simp);have hTl:T.length=S.length+1:=(by rw[sc];simp);have em:T.map ptA=S.map ptA++[ptA y]:=(by rw[sc,W0r];rfl);simp -implicitDefEqProofs[];refine ⟨rfl,?_⟩
        try simp -implicitDefEqProofs[bb]
        refine ⟨?_,by omega⟩;simp only[slU,hM,kc,p7V,p7O,hne,if_false,hTl,em];simp[cS,Yi,Zf7,Zmw,Zmq _ _ (ff _),frzA,frz,AV.keys,fO,ptA,W0y]
      . have sc:T=S:=(by rw[sc];simp);simp -implicitDefEqProofs[];refine ⟨rfl,?_⟩;refine ⟨?_,by omega⟩;simp only[slU,hM,kc,sc];simp[p7V,p7O,cS,Yi,Zf7,Zmx,Zmq _ _ (ff _),frzA,frz,AV.keys,fO]
 . intro _;rw[eNl];generalize kyK hs L L.length=K at *;generalize slK l hs L L.length=S at *;by_cases cS:S=[]
   . simp -implicitDefEqProofs[slB,p7V,p7O,cS,Yl,r1K,AV.ren,Zfz,Zmp _ pf,rO];refine Qgr ?_;simp -implicitDefEqProofs[Yg]
   . simp -implicitDefEqProofs[slB,p7V,p7O,cS,Yl,r1K,AV.ren,Zfz,Zmp _ pf,rO,Zmv];refine Qgr ?_;simp -implicitDefEqProofs[Yg,cS,ptA]
def Zmz {L:Jp}:nmK L L.length=L.map (·.no):=by unfold nmK;rw[W0v]
def ZmA (L:Jp):(Yg (L.map ptA)).pure=true:=by unfold Yg;split <;> simp_all [AV.pure,ptA]
def ZmB (L:Jp) (ok:Nat->Bool) (st:St):Yh ok st 6 (Yg (L.map ptA))=some (Yg (L.map ptA)):=by
 unfold Yg
 split
 . simp[Yh,AV.pure]
 . simp[Yh,AV.pure,ptA]
def ZmC {l:Jl} {hs:Jh} {ps:Jp} {day:Int}:(staL l hs ps day).length<=ps.length:=by
 unfold staL;exact W0D ..
def ZmD (hG:GC G) (hN:GN G) (hP:GP G) (r:Jr) (l:Jl) (hs:Jh) (ps:Jp) (day:Int) (hl:WfN l) (hr:Wf r) (hd:Sml (nums r)) (hw:WfP hs ps) :
  PC prog G 34 [prA r l hs ps,.int .i64 day] (stA7 r l hs ps day):=by
 have ha:=ZjT hG hN hP r l hs ps day 1 hl hr hd hw;have pO:=ZiZ r l hs ps;unfold asP at ha;unfold stA7 sta7E;by_cases h0:as7 r l hs ps day 1=0
 case neg =>
  rw[if_neg h0]at ha ⊢;unfold prA at *
  (refine Zh0 rfl λR hG hrd=>Qga ?_;subst hG)
  simp -implicitDefEqProofs[ZgY,ZgZ];refine Qco (ha) ?_;simp -implicitDefEqProofs[h0,Yg]
 have k0:=(Zlj h0).1;have c1:=Zmy hG hN r l hs ps day hl hr hd hw k0;have hle:=ZmC (l:=l) (hs:=hs) (ps:=ps) (day:=day);have hpl:=hw.pl;have c2:=PC.sub (Zm6 (G:=G) (staL l hs ps day) (by omega)) (xs:=[Yg ((staL l hs ps day).map ptA)]) ⟨.orNil _,trivial⟩;rw[Zmz]at c2;have sV:=Zm1 ((staL l hs ps day).map (·.no));have pS:=ZmA (staL l hs ps day);rw[if_pos h0,h0]at ha;rw[if_pos h0,h0];generalize Yg (((staL l hs ps day).map (·.no)).map ia)=V at *;generalize Yg ((staL l hs ps day).map ptA)=W at *;unfold prA at *
 (refine Zh0 rfl λR hG hrd=>Qga ?_;subst hG)
 simp -implicitDefEqProofs[ZgY,ZgZ];refine Qco (ha) ?_;simp -implicitDefEqProofs[];refine Yd.of c1 (by simp[pO,AV.pure]) ?_;simp -implicitDefEqProofs[];refine Yd.of c2 (by simp[pS]) ?_;simp -implicitDefEqProofs[sV]
def ZmE:∀ (i:Nat) (a b:List Int),a.take i=b.take i->lexB a b=lexB (a.drop i) (b.drop i)
 |0,_,_,_=>rfl
 |i+1,[],[],_=>rfl
 |i+1,[],y::b,h=>by simp at h
 |i+1,x::a,[],h=>by simp at h
 | i+1,x::a,y::b,h=>by
   simp only[W1Z,W2f]at h;obtain ⟨rfl,h⟩:=h;rw[W1D,W1D,<- ZmE i a b h];simp[lexB]
def ZmF:∀ a:List Int,lexB a a=false
 |[]=>rfl
 |x::a=>by simp[lexB,ZmF a]
def ZmG (a b:List Int) (ha:Sml a):PC prog G 55 [.vsl (a.map ia),.vsl (b.map ia)] (.bool (bfr a b)):=by
 unfold Sml at ha
 (refine ZgF rfl λR hG hrd=>Qga ?_;subst hG)
 by_cases hl:a.length=b.length
 case neg =>
  have hl':¬(a.length:Int)=(b.length:Int):=by omega
  have e:bfr a b=decide ((a.length:Int)<b.length):=by
   unfold bfr;rw[if_neg hl,decide_eq_decide];omega
  rw[e];simp -implicitDefEqProofs[ZgD,ZgE,hl,hl']
 have hl':(a.length:Int)=(b.length:Int):=(by omega);have e:bfr a b=lexB a b:=(by unfold bfr;rw[if_pos hl]);rw[e];simp -implicitDefEqProofs[ZgD,ZgE,hl'];refine Z8g (λi=>⟨[(5,.int .i64 i),(0,.vsl (a.map ia)),(1,.vsl (b.map ia))],[]⟩) (λi=>a.take i=b.take i) a.length ?_ rfl ?_ ?_
 . ((try simp only[hl']);refine Ym.sub (by simp[lk,Ya,AV.keys,hl']) ?_;simp only[hl',Wkl,and_true];(try simp[lk,Yc,Ya,AV.keys,hl']))
 . intro i hi he;have hj:i<b.length:=(by omega);have wi:i64.wrap ((i:Int)+1)=(i:Int)+1:=Yf;have hi':(i:Int)<b.length:=(by omega);refine Qga ?_;by_cases q:a[i]=b[i]
   . simp -implicitDefEqProofs[hi,hj,hi',hl',ia,q];refine ⟨rfl,?_⟩;simp -implicitDefEqProofs[wi];refine ⟨?_,by rw[W08 hi,W08 hj,he,q]⟩
     ((try simp only[hl']);refine Ym.sub (by simp[lk,Ya,AV.keys,hl']) ?_;simp only[hl',Wkl,and_true];(try simp[lk,Yc,Ya,AV.keys,hl']))
   . have el:lexB a b=decide (a[i]<b[i]):=by
      rw[ZmE i a b he,W0x hi,W0x hj];simp[lexB,q]
     obtain ⟨u,hu⟩:=Qex (lexB a b);rw[<- hu]at el ⊢;simp -implicitDefEqProofs[hi,hj,hi',hl',ia,q];refine ⟨rfl,?_⟩;refine ⟨rfl,?_⟩;refine Qgr ?_;simp -implicitDefEqProofs[el]
 . intro he
   have e:a=b:=by
    have h2:b.take a.length=b:=(by rw[hl,W0v]);rw[W0v,h2]at he;exact he
   have el:lexB a b=false:=(by rw[e];exact ZmF b);rw[el];refine Qga ?_;simp -implicitDefEqProofs[hl'];refine Qgr ?_;simp -implicitDefEqProofs[]
def ZmH (a b:List Int) (ha:Sml a) (hb:Sml b):PC prog G 98 [.agg [.vsl (a.map ia),.vsl (b.map ia)]] (.int .i64 (a.length+b.length:Nat)):=by
 unfold Sml at ha hb;have wi:i64.wrap ((a.length:Int)+b.length)=(a.length:Int)+b.length:=Yf
 (refine ZgL rfl λR hG hrd=>Qga ?_;subst hG)
 simp -implicitDefEqProofs[ZgJ,ZgK,wi]
def cmI:List Int->List Int->Int
 |[],[]=>0
 |[],_::_=>-1
 |_::_,[]=>1
 |x::a,y::b=>if x<y then -1 else if y<x then 1 else cmI a b
def ZmI:∀ (i:Nat) (a b:List Int),a.take i=b.take i->cmI a b=cmI (a.drop i) (b.drop i)
 |0,_,_,_=>rfl
 |i+1,[],[],_=>rfl
 |i+1,[],y::b,h=>by simp at h
 |i+1,x::a,[],h=>by simp at h
 | i+1,x::a,y::b,h=>by
   simp only[W1Z,W2f]at h;obtain ⟨rfl,h⟩:=h;rw[W1D,W1D,<- ZmI i a b h];simp[cmI]
def ZmJ:∀ (a b:List Int),a.length=b.length->decide (cmI a b<0)=lexB a b
 |[],[],_=>rfl
 |[],_::_,h=>by simp at h
 |_::_,[],h=>by simp at h
 | x :: a,y::b,h=>by
   have ih:=ZmJ a b (by simpa using h);unfold cmI lexB;by_cases c:x<y
   . have:¬x=y:=(by omega);simp[c,this]
   . by_cases c2:y<x
     . have:¬x=y:=(by omega);simp[c,c2,this]
     . have:x=y:=(by omega);simp[this,ih]
def ZmK (a b:List Int) (ha:Sml a) (hb:Sml b):PC prog G 152 [.vsl (a.map ia),.vsl (b.map ia)] (.int .i64 (cmI a b)):=by
 unfold Sml at ha hb;have hc:=λx y=>Z9K (G:=G) x y
 (refine ZgI rfl λR hG hrd=>Qga ?_;subst hG)
 simp -implicitDefEqProofs[ZgG,ZgH];refine Z8g (λi=>⟨[(11,.int .i64 i),(10,.int .i64 a.length),(9,.vsl (a.map ia)),(0,.vsl (a.map ia)),(1,.vsl (b.map ia))],[]⟩) (λi=>a.take i=b.take i/\i<=b.length) a.length ?_ ⟨rfl,W1f _⟩ ?_ ?_
 . (refine Wkc ?_;simp only[Wkl,and_true];(try simp[lk,Yc,Ya,AV.keys]))
 . rintro i hi ⟨he,hle⟩;have wi:i64.wrap ((i:Int)+1)=(i:Int)+1:=Yf;have ed:=ZmI i a b he;obtain ⟨u,hu⟩:=Qex (cmI a b);rw[<- hu]at ed ⊢;rw[W0x hi]at ed;refine Qga ?_;by_cases hj:i<b.length
   case neg =>
    have hj':(b.length:Int)<=i:=(by omega);have e1:b.drop i=[]:=List.drop_eq_nil_of_le (by omega);rw[e1]at ed;have ed:u=1:=ed;simp -implicitDefEqProofs[hi,ia,hj'];refine Qgr ?_;simp -implicitDefEqProofs[ed]
   have hj':¬(b.length:Int)<=i:=(by omega);rw[W0x hj,cmI]at ed;have hc:=hc a[i] b[i];simp -implicitDefEqProofs[hi,hj,ia,hj'];refine Qco (hc) ?_;by_cases c:a[i]<b[i]
   . rw[if_pos c]at ed;simp -implicitDefEqProofs[c];refine Qgr ?_;simp -implicitDefEqProofs[ed]
   by_cases c2:b[i]<a[i]
   . rw[if_neg c,if_pos c2]at ed;simp -implicitDefEqProofs[c,c2];refine Qgr ?_;simp -implicitDefEqProofs[ed]
   . have q:a[i]=b[i]:=(by omega);simp -implicitDefEqProofs[c,c2,wi];refine ⟨?_,by rw[W08 hi,W08 hj,he,q],hj⟩
     (refine Wkc ?_;simp only[Wkl,and_true];(try simp[lk,Yc,Ya,AV.keys]))
 . rintro ⟨he,hle⟩;have ed:=ZmI a.length a b he;rw[List.drop_length]at ed;refine Qga ?_;by_cases c:a.length<b.length
   . have c':(a.length:Int)<b.length:=(by omega);rw[W0x c]at ed;have ed:cmI a b = -1:=ed;rw[ed];simp -implicitDefEqProofs[c,c'];refine Qgr ?_;simp -implicitDefEqProofs[c']
   . have c':¬(a.length:Int)<b.length:=(by omega);have e1:b.drop a.length=[]:=List.drop_eq_nil_of_le (by omega);rw[e1]at ed;have ed:cmI a b=0:=ed;rw[ed];simp -implicitDefEqProofs[c,c'];refine Qgr ?_;simp -implicitDefEqProofs[c']
def or3 (L:List Int):Int:=(L.find? λx=>!decide (x=0)).getD 0
def cpN (p q:List Int×List Int):Int:=or3 [((szP p:Nat):Int)-((szP q:Nat):Int),(p.1.length:Int)-(q.1.length:Int),cmI p.1 q.1]
def ZmL (p q:List Int×List Int):decide (cpN p q<0)=btB p q:=by
 unfold cpN or3 btB bfr;by_cases h1:szP p=szP q
 . have e1:((szP p:Nat):Int)-((szP q:Nat):Int)=0:=(by omega);by_cases h2:p.1.length=q.1.length
   . have e2:(p.1.length:Int)-(q.1.length:Int)=0:=(by omega);rw[<- ZmJ p.1 q.1 h2];by_cases h3:cmI p.1 q.1=0
     . simp[e1,e2,h1,h2,h3]
     . simp[e1,e2,h1,h2,h3]
   . have e2:¬(p.1.length:Int)-(q.1.length:Int)=0:=(by omega);simp[e1,e2,h1,h2];omega
 . have e1:¬((szP p:Nat):Int)-((szP q:Nat):Int)=0:=(by omega);simp[e1,h1];omega
def ZmM (L:List Int) (h:Sml L):PC prog G 151 [.vsl (L.map ia)] (.int .i64 (or3 L)):=by
 unfold Sml at h
 (refine ZdU rfl λR hG hrd=>Qga ?_;subst hG)
 simp -implicitDefEqProofs[ZdS,ZdT];refine Z8g (λi=>⟨[(8,.int .i64 i),(7,.int .i64 L.length),(6,.vsl (L.map ia)),(3,.int .i64 0)],[]⟩) (λi=>or3 L=or3 (L.drop i)) L.length ?_ rfl ?_ ?_
 . (refine Wkc ?_;simp only[Wkl,and_true];(try simp[lk,Yc,Ya,AV.keys]))
 . intro i hi he;have wi:i64.wrap ((i:Int)+1)=(i:Int)+1:=Yf;rw[W0x hi]at he;obtain ⟨u,hu⟩:=Qex (or3 L);rw[<- hu]at he ⊢;refine Qga ?_;by_cases c:L[i]=0
   . have he2:u=or3 (L.drop (i+1)):=(by rw[he];simp[or3,c]);simp -implicitDefEqProofs[hi,ia,c,wi];refine ⟨?_,he2⟩
     (refine Wkc ?_;simp only[Wkl,and_true];(try simp[lk,Yc,Ya,AV.keys]))
   . have he2:u=L[i]:=(by rw[he];unfold or3;rw[List.find?_cons_of_pos (by simpa using c)];rfl);simp -implicitDefEqProofs[hi,ia,c];refine Qgr ?_;simp -implicitDefEqProofs[he2]
 . intro he;rw[List.drop_length]at he;have he:or3 L=0:=he;rw[he];refine Qga ?_;simp -implicitDefEqProofs[];refine Qgr ?_;simp -implicitDefEqProofs[]
def ZmN (p q:List Int×List Int) (h1:p.1.length<=100) (h2:p.2.length<=100) (h3:q.1.length<=100) (h4:q.2.length<=100) :
  PC prog G 150 [.agg [.vsl (p.1.map ia),.vsl (p.2.map ia)],.agg [.vsl (q.1.map ia),.vsl (q.2.map ia)]] (.int .i64 (cpN p q)):=by
 have c1:=ZmH (G:=G) p.1 p.2 (by unfold Sml;omega) (by unfold Sml;omega);have c2:=ZmH (G:=G) q.1 q.2 (by unfold Sml;omega) (by unfold Sml;omega);have c3:=ZmK (G:=G) p.1 q.1 (by unfold Sml;omega) (by unfold Sml;omega);have c4:=ZmM (G:=G) [((szP p:Nat):Int)-((szP q:Nat):Int),(p.1.length:Int)-(q.1.length:Int),cmI p.1 q.1] (by simp[Sml])
 have w1:i64.wrap (((p.1.length+p.2.length:Nat):Int)-((q.1.length+q.2.length:Nat):Int))=((szP p:Nat):Int)-((szP q:Nat):Int):=by
  unfold szP;exact Yf
 have w2:i64.wrap ((p.1.length:Int)-(q.1.length:Int))=(p.1.length:Int)-(q.1.length:Int):=Yf;unfold cpN;have e4:[((szP p:Nat):Int)-((szP q:Nat):Int),(p.1.length:Int)-(q.1.length:Int),cmI p.1 q.1].map ia=[[.int .i64 (((szP p:Nat):Int)-((szP q:Nat):Int))],[.int .i64 ((p.1.length:Int)-(q.1.length:Int))],[.int .i64 (cmI p.1 q.1)]]:=rfl;rw[e4]at c4;generalize or3 [((szP p:Nat):Int)-((szP q:Nat):Int),(p.1.length:Int)-(q.1.length:Int),cmI p.1 q.1]=w at *;generalize ((p.1.length+p.2.length:Nat):Int)=n1 at *;generalize ((q.1.length+q.2.length:Nat):Int)=n2 at *;generalize ((szP p:Nat):Int)-((szP q:Nat):Int)=n3 at *;generalize cmI p.1 q.1=n4 at *;have hr3:List.range 3=[0,1,2]:=rfl
 (refine ZgO rfl λR hG hrd=>Qga ?_;subst hG)
 simp -implicitDefEqProofs[ZgM,ZgN];refine Ye.of c1 (by simp[AV.pure,ia]) ?_;simp -implicitDefEqProofs[];refine Ye.of c2 (by simp[AV.pure,ia]) ?_;simp -implicitDefEqProofs[w1,w2];refine Ye.of c3 (by simp[AV.pure,ia]) ?_;simp -implicitDefEqProofs[hr3];refine Ye.of c4 (by simp[AV.pure]) ?_;simp -implicitDefEqProofs[];rfl
def pvA (p:List Int×List Int):AV:=.agg [Yg (p.1.map ia),Yg (p.2.map ia)]
def fsK (P:List (List Int×List Int)):Nat->List Int×List Int
 |0=>([],[])
 |k+1=>if k=0∨btB (P.getD k ([],[])) (fsK P k)=true then P.getD k ([],[]) else fsK P k
def ZmO {P:List (List Int×List Int)}:∀ k,k<=P.length->fsK P k=([],[])∨fsK P k∈P
 |0,_=>.inl rfl
 | k + 1,h=>by
   rw[fsK];have hk:k<P.length:=by omega
   split
   . right
     rw[W0j,W07 hk];exact W0e hk
   . exact ZmO k (by omega)
def fsO (b:List Int×List Int) (k:Nat):List (Nat×AObj):=[(1003,.box [.func (.func 150) [] []]),(1005,.box [Yg (b.1.map ia),Yg (b.2.map ia)]),(1006,.box [.bool (decide (0<k))])]
def ZmP (S:List Int):Yg (S.map ia) = .nils∨Yg (S.map ia) = .vsl (S.map ia):=by
 unfold Yg
 split
 . exact .inl rfl
 . exact .inr rfl
def ZmQ (gf:FuncId) (caps:List AV) (P:List (List Int×List Int)) (hc:caps.all AV.pure=true) (hit:IterG prog G gf caps (P.map pvA)) (hP:∀ p∈P,p.1.length<=100/\p.2.length<=100) :
  PC prog G 148 [.func (.func gf) [] caps,.func (.func 150) [] []] (pvA (fsK P P.length)):=by
 refine Zgy rfl λR hG' hrd=>?_
 subst hG';refine Qga ?_;simp -implicitDefEqProofs[Zgw,Zgx];refine Zfy hrd hit (by simp[evA,St.tmp,lk]) hc r1K [(3,.ptr 1003 0),(5,.ptr 1005 0),(6,.ptr 1006 0)] (λk=>fsO (fsK P k) k) [1003,1005,1006] (λk=>k<=P.length) (W1f _) (λ_=>rfl) (by simp) (by simp[r1K]) ?_ ?_ ?_ ?_ ?_
 . simp[fsO,fsK,Yg,Yl,r1K,St.set,putO,AObj.ren,AV.ren]
 . intro k q hq;simp[fsO]at hq;rcases hq with rfl|rfl|rfl
   . simp[Yc,Ya,AV.keys]
   . simp[Yc,Ya,ZeP]
   . simp[Yc,Ya,AV.keys]
 . intro q hq;simp at hq;rcases hq with rfl|rfl|rfl
   all_goals exact ⟨by simp[lk,AV.ren,r1K],by simp,by simp[AV.keys]⟩
 . intro k x hx hk R' hG1 hN1;rw[W09]at hx;obtain ⟨p,hp,rfl⟩:=W04.1 hx;obtain ⟨hkl,hpe⟩:=W02.1 hp;have hpm:p∈P:=(by rw[<- hpe];exact W0e hkl);have hgd:P.getD k ([],[])=p:=by rw[W0j,hp];rfl
   have hbl:(fsK P k).1.length<=100/\(fsK P k).2.length<=100:=by
    rcases ZmO (P:=P) k (by omega) with h|h
    . rw[h];simp
    . exact hP _ h
   obtain ⟨l1,l2⟩:=hP p hpm;have sc:fsK P (k+1)=if k=0∨btB p (fsK P k)=true then p else fsK P k:=by rw[fsK,hgd]
   obtain ⟨b,hb⟩:=Qex (fsK P k);rw[<- hb]at sc hbl;have hcm:=PC.sub (ZmN (G:=R.G) p b l1 l2 hbl.1 hbl.2) (xs:=[.agg [Yg (p.1.map ia),Yg (p.2.map ia)],.agg [Yg (b.1.map ia),Yg (b.2.map ia)]]) ⟨.agg ⟨.orNil _,.orNil _,trivial⟩,.agg ⟨.orNil _,.orNil _,trivial⟩,trivial⟩;have hlt:=ZmL p b;obtain ⟨n,hn⟩:=Qex (cpN p b);rw[<- hn]at hcm hlt;obtain ⟨T,hT⟩:=Qex (fsK P (k+1));rw[<- hT]at sc;have hO1:fsO (fsK P k) k=[(1003,.box [.func (.func 150) [] []]),(1005,.box [Yg (b.1.map ia),Yg (b.2.map ia)]),(1006,.box [.bool (decide (0<k))])]:=(by rw[fsO,<- hb]);have hO2:fsO (fsK P (k+1)) (k+1)=[(1003,.box [.func (.func 150) [] []]),(1005,.box [Yg (T.1.map ia),Yg (T.2.map ia)]),(1006,.box [.bool true])]:=(by rw[fsO,<- hT];simp);show AR _ _ _ ⟨(9,pvA p)::_,fsO (fsK P k) k⟩ _;rw[hO1];simp only[hO2];unfold pvA;obtain ⟨V1,hV1⟩ : ∃ V,V=Yg (p.1.map ia):=⟨_,rfl⟩;obtain ⟨V2,hV2⟩ : ∃ V,V=Yg (p.2.map ia):=⟨_,rfl⟩;obtain ⟨W1,hW1⟩ : ∃ V,V=Yg (b.1.map ia):=⟨_,rfl⟩;obtain ⟨W2,hW2⟩ : ∃ V,V=Yg (b.2.map ia):=⟨_,rfl⟩;have hkl':k+1<=P.length:=hkl;have pW1:W1.pure=true:=(by rw[hW1];exact Zkq _);have pW2:W2.pure=true:=(by rw[hW2];exact Zkq _);have fW1:∀ ok st,frz ok st 6 W1=some W1:=λok st=>by rw[hW1];unfold Yg;split <;> simp[frz,AV.keys]
   have fW2:∀ ok st,frz ok st 6 W2=some W2:=λok st=>by rw[hW2];unfold Yg;split <;> simp[frz,AV.keys]
   rw[<- hV1,<- hV2,<- hW1,<- hW2]at hcm;rw[<- hV1,<- hV2,<- hW1,<- hW2];have d1:V1 = .nils∨V1 = .vsl (p.1.map ia):=(by rw[hV1];exact ZmP _);have d2:V2 = .nils∨V2 = .vsl (p.2.map ia):=(by rw[hV2];exact ZmP _);by_cases k0:k=0
   case' pos =>
    have hr:[Yg (T.1.map ia),Yg (T.2.map ia)]=[V1,V2]:=by rw[sc,if_pos (.inl k0),hV1,hV2]
   case' neg =>
    have k0':0<k:=by omega
    have hr:[Yg (T.1.map ia),Yg (T.2.map ia)]=if decide (n<0)=true then [V1,V2] else [W1,W2]:=by
     rw[hlt,sc];by_cases hq:btB p b=true
     . rw[if_pos (.inr hq),if_pos hq,hV1,hV2]
     . rw[if_neg (by simp[k0,hq]),if_neg hq,hW1,hW2]
   all_goals
    rw[hr];clear hV1 hV2 hW1 hW2 hr;rcases d1 with rfl|rfl <;> rcases d2 with rfl|rfl
    all_goals
     refine Qga ?_;simp -implicitDefEqProofs[];intro R'' hG2 hN2;refine Qga ?_
     first
      |(subst k0;simp -implicitDefEqProofs[RndB,Yi,newK,Zf7,frzA,frz,AV.keys,hkl',fW1,fW2];done)
      | (simp -implicitDefEqProofs[k0',hG2]
         refine Yd.of hcm (by simp[AV.pure,ia,pW1,pW2]) ?_;by_cases c:n<0
         . simp -implicitDefEqProofs[c,RndB,Yi,newK,Zf7,frzA,frz,AV.keys,hkl',fW1,fW2]
           done
         . simp -implicitDefEqProofs[c,RndB,Yi,newK,Zf7,frzA,frz,AV.keys,hkl',fW1,fW2]
           done)
 . intro _;rw[W0N];obtain ⟨b,hb⟩:=Qex (fsK P P.length);rw[<- hb];have d1:=ZmP b.1;have d2:=ZmP b.2;unfold fsO pvA;generalize Yg (b.1.map ia)=W1 at *;generalize Yg (b.2.map ia)=W2 at *;rcases d1 with rfl|rfl <;> rcases d2 with rfl|rfl
   all_goals
    simp -implicitDefEqProofs[Yl,r1K,AV.ren,Zfz];refine Qgr ?_;simp -implicitDefEqProofs[ia]
def plE (ids dl:List Int) (L:Jp):List (List Int×List Int):=(List.range (2 ^ ids.length)).map (plN ids dl L)
def ZmR {ids dl:List Int} {L:Jp}:(plE ids dl L).length=2 ^ ids.length:=by simp[plE]
def ZmS {ids dl:List Int} {L:Jp}:∀ k,k<2 ^ ids.length->fsK (plE ids dl L) (k+1)=caN ids dl L k
 | 0,h=>by
   have e:(plE ids dl L).getD 0 ([],[])=plN ids dl L 0:=by
    unfold plE;rw[W0j,W09,W0L h];rfl
   rw[fsK,if_pos (.inl rfl),e];rfl
 | k+1,h=>by
   have e:(plE ids dl L).getD (k+1) ([],[])=plN ids dl L (k+1):=by
    unfold plE;rw[W0j,W09,W0L h];rfl
   rw[fsK,e,ZmS k (by omega),caN];simp
def ZmT {ids dl:List Int} {L:Jp}:fsK (plE ids dl L) (plE ids dl L).length=caE ids dl L:=by
 have h:=Nat.two_pow_pos ids.length;have e:(plE ids dl L).length=(2 ^ ids.length-1)+1:=(by rw[ZmR];omega);rw[e,ZmS _ (by omega)];rfl
def ZmU (r:Jr) (l:Jl) (hs:Jh) (ps:Jp) (S:Jp):PC prog G 149 [ofA r l hs ps,Yg (S.map ptA)] (.func (.func 179) [] [.vptr [ofA r l hs ps] 0,.vptr [Yg (S.map ptA)] 0]):=by
 have pO:=ZiZ r l hs ps;obtain ⟨cs,eS⟩ : ∃ cs,ofA r l hs ps = .vptr cs 0:=⟨_,rfl⟩;rw[eS]at pO ⊢;have pW:=ZmA S
 have d:Yg (S.map ptA) = .nils∨Yg (S.map ptA) = .vsl (S.map ptA):=by
  unfold Yg
  split
  . exact .inl rfl
  . exact .inr rfl
 generalize Yg (S.map ptA)=W at *;rcases d with rfl|rfl
 . (refine ZgB rfl λR hG hrd=>Qga ?_;subst hG)
   simp -implicitDefEqProofs[Zgz,ZgA,pO]
 . (refine ZgB rfl λR hG hrd=>Qga ?_;subst hG)
   simp -implicitDefEqProofs[Zgz,ZgA,pO,ptA]
def ZmV (r:Jr) (l:Jl) (hs:Jh) (ps:Jp) (S:Jp) (P:List (List Int×List Int))
  (hit:IterG prog G 179 [.vptr [ofA r l hs ps] 0,.vptr [Yg (S.map ptA)] 0] (P.map pvA)) (hP:∀ p∈P,p.1.length<=100/\p.2.length<=100) :
  PC prog G 95 [ofA r l hs ps,Yg (S.map ptA)] (pvA (fsK P P.length)):=by
 have pO:=ZiZ r l hs ps;have pW:=ZmA S;have c1:=ZmU (G:=G) r l hs ps S;have c2:=ZmQ (G:=G) _ [.vptr [ofA r l hs ps] 0,.vptr [Yg (S.map ptA)] 0] P (by simp[AV.pure,pO,pW]) hit hP;obtain ⟨b,hb⟩:=Qex (fsK P P.length);rw[<- hb]at c2 ⊢;have d1:=ZmP b.1;have d2:=ZmP b.2;unfold pvA at c2 ⊢;generalize Yg (b.1.map ia)=W1 at *;generalize Yg (b.2.map ia)=W2 at *;generalize ofA r l hs ps=O at *;generalize Yg (S.map ptA)=W at *;rcases d1 with rfl|rfl <;> rcases d2 with rfl|rfl
 all_goals
  (refine ZgR rfl λR hG hrd=>Qga ?_;subst hG)
  simp -implicitDefEqProofs[ZgP,ZgQ];refine Yd.of c1 (by simp[pO,pW]) ?_;simp -implicitDefEqProofs[];refine Yd.of c2 (by simp[AV.pure,pO,pW]) ?_;simp -implicitDefEqProofs[ia]
def ZmW (g:Nat) (caps:List AV) (p:Prt->Bool) (l:Jp) (hc:caps.all AV.pure=true) (hl:Sml l)
  (hg:∀ x∈l,PC prog G g (.agg (ptA x)::caps) (.bool (p x))) :
  PC prog G 180 [.vsl (l.map ptA),.func (.func g) [] caps] (.int .i64 (fstOf p l)):=by
 (refine Zgn rfl λR hG hrd=>Qga ?_;subst hG)
 unfold Sml at hl;have hc2:∀ x∈caps,x.pure=true:=W03.1 hc;simp -implicitDefEqProofs[Zgl,Zgm];refine Z8g (λi=>⟨[(8,.int .i64 i),(7,.int .i64 l.length),(0,.vsl (l.map ptA)),(1,.func (.func g) [] caps)],[]⟩) (λi=>∀ j (h:j<l.length),j<i->p l[j]=false) l.length (by (first|exact Wka|exact Wkb)) (by simp) ?_ ?_
 . intro i hi he;refine Qga ?_;have w1:i64.wrap ((i:Int)+1)=((i+1:Nat):Int):=Yf;have hgi:=hg _ (W0e hi);have hln:(ptA l[i]).length=7:=rfl;have htk:(ptA l[i]).take 7=ptA l[i]:=rfl;simp -implicitDefEqProofs[hi,hln,htk];refine Yd.of hgi (by simpa [AV.pure,ptA] using hc2) ?_
   cases h3:p l[i]
   . simp -implicitDefEqProofs[w1];refine ⟨(by (first|exact Wka|exact Wkb)),λj q1 q2=>?_⟩;by_cases e:j=i
     . subst e;exact h3
     . exact he j q1 (by omega)
   . simp -implicitDefEqProofs;refine Qgr ?_;simp -implicitDefEqProofs[Z94 hi h3 he]
 . intro he;refine Qga ?_;simp -implicitDefEqProofs[];refine Qgr ?_;simp -implicitDefEqProofs[Z95 (p:=p) (l:=l) (λj hj=>he j hj hj)]
def ZmX (g:Nat) (caps:List AV) (p:Prt->Bool) (l:Jp) (hc:caps.all AV.pure=true) (hl:Sml l)
  (hg:∀ x∈l,PC prog G g (.agg (ptA x)::caps) (.bool (p x))) :
  PC prog G 153 [.vsl (l.map ptA),.func (.func g) [] caps] (.bool (l.any p)):=by
 have hi:=ZmW (G:=G) g caps p l hc hl hg;have e:=Z96 p l
 (refine Zgq rfl λR hG hrd=>Qga ?_;subst hG)
 have hc2:∀ x∈caps,x.pure=true:=W03.1 hc;simp -implicitDefEqProofs[Zgo,Zgp];refine Yd.of hi (by simpa [AV.pure] using hc2) ?_;simp -implicitDefEqProofs[e]
def ZmY (x y:Prt):PC prog G 154 [.agg (ptA y),.vptr (ptA x) 0] (.bool (clP x y)):=by
 unfold clP ptA
 (refine Zgk rfl λR hG hrd=>Qga ?_;subst hG)
 by_cases h1:y.ho=x.ho
 . simp -implicitDefEqProofs[Zgi,Zgj,h1]
 . have h1':¬x.ho=y.ho:=λh=>h1 h.symm
   by_cases h2:y.dw=x.dw
   . simp -implicitDefEqProofs[Zgi,Zgj,h1,h1',h2]
   . have h2':¬x.dw=y.dw:=λh=>h2 h.symm
     simp -implicitDefEqProofs[Zgi,Zgj,h1,h1',h2,h2']
def ZmZ (l:Jp) (hne:l≠[]) (hl:Sml l):PB prog G 155 [] [.vsl (l.map ptA)] (.osl 5 l.length) [(5,.row 7 (l.map ptA))]:=by
 refine Z5i (λk=>decide (k<1000) && !(k == 5)) (by intro k hk;simp at hk;omega) Tryz.func155 rfl (by kernel_rfl) (rc:=Zgr) (by kernel_rfl) (rs:=Zgs) (by kernel_rfl) (W0C rfl) λR _ hG hrd=>Qga ?_
 subst hG;unfold Sml at hl;have b1:l.length*56<=70368744177664:=(by omega);have h0:¬l.length=0:=λe=>hne (W0l.1 e)
 have k1:(l.map ptA).all (λr=>r.length == 7)=true:=(by simp[ptA]);have k2:(l.map ptA).all (λr=>r.all AV.one)=true:=(by simp[ptA,AV.one]);simp -implicitDefEqProofs[Zgr,Zgs,h0,hne,b1,k1,k2];simp -implicitDefEqProofs[FinO,Yi,Zmx,frzA,frz,AV.keys]
def pmA (L:Jp):List (AV×AV):=L.map λy=>(.int .i64 y.no,.agg (ptA y))
def Zn0 (n:Int):∀ l:List Prt,(KK.i .i64).find (.int .i64 n) (pmA l)=some (l.findIdx? λp=>decide (n=p.no))
 |[]=>rfl
 | p::r=>by
   have ih:=Zn0 n r;have e:pmA (p::r)=(.int .i64 p.no,.agg (ptA p))::pmA r:=rfl;have e2:(KK.i .i64).eq (.int .i64 n) (.int .i64 p.no)=some (decide (n=p.no)):=(by simp[KK.eq]);rw[e,KK.find,e2,ih,List.findIdx?_cons];by_cases c:n=p.no
   . simp[c]
   . simp[c]
def Zn1 {y:Prt} {l:Jp} (h:∀ p∈l,p.no≠y.no):(KK.i .i64).put (.int .i64 y.no) (.agg (ptA y)) (pmA l)=some (pmA (l++[y])):=by
 unfold KK.put;rw[if_pos (show (KK.i .i64).is (.int .i64 y.no)=true from rfl),Zn0]
 have q:(l.findIdx? λp=>decide (y.no=p.no))=none:=by
  rw[W1F];intro p hp;simp;exact λe=>h p hp e.symm
 rw[q];simp[pmA]
def Zn2 {α β:Type} (f:α->β):∀ (l:List α) (j:Nat),(l.map f).eraseIdx j=(l.eraseIdx j).map f
 |[],_=>rfl
 |_::_,0=>rfl
 |x::t,j+1=>by simp only[W0F,List.eraseIdx_cons_succ];rw[Zn2 f t j]
def er_no:∀ (l:Jp) (j:Nat) (h:j<l.length),(l.map (·.no)).Nodup->l.eraseIdx j=l.filter λp=>!decide (l[j].no=p.no)
 | x::t,0,_,hn=>by
   rw[W0F,W1z]at hn
   have e:t.filter (λp=>!decide (x.no=p.no))=t:=List.filter_eq_self.2 λp hp=>by
    have:x.no≠p.no:=λe=>hn.1 (e ▸ W0i.2 ⟨p,hp,rfl⟩)
    simpa using this
   simp[e]
 | x::t,j+1,h,hn=>by
   rw[W0F,W1z]at hn;have hj:j<t.length:=(by simpa using h);have ih:=er_no t j hj hn.2;have:t[j].no≠x.no:=λe=>hn.1 (e ▸ W0i.2 ⟨t[j],W0e hj,rfl⟩)
   simp[ih,this]
def Zn3 {n:Int} {l:Jp} (h:(l.map (·.no)).Nodup):(KK.i .i64).del (.int .i64 n) (pmA l)=some (pmA (l.filter λp=>!decide (n=p.no))):=by
 unfold KK.del;rw[if_pos (show (KK.i .i64).is (.int .i64 n)=true from rfl),Zn0]
 cases q:l.findIdx? λp=>decide (n=p.no) with
 | none =>
   rw[W1F]at q;have:(l.filter λp=>!decide (n=p.no))=l:=List.filter_eq_self.2 λy hy=>by have:=q y hy;simpa using this
   rw[this]
 | some j =>
   rw[W1A]at q;obtain ⟨h1,h2,-⟩:=q;have h3:n=l[j].no:=(by simpa using h2);have e1:(pmA l).eraseIdx j=pmA (l.eraseIdx j):=Zn2 _ l j;simp only[e1,er_no l j h1 h,h3]
def Zn4 (o:List (Nat×AObj)) (l:Jp):Yc o (.mp (pmA l))=true:=by simp[Yc,pmA,ptA,Ya,AV.keys]
def Zn5 (l:Jp):(pmA l).all (λp=>p.1.pure&&p.2.pure)=true:=by simp[pmA,ptA,AV.pure]
def Zn6 (ok:Nat->Bool) (st:St) (l:Jp):frzO ok st (.mp (pmA l)) = .mp (pmA l):=by
 have e:∀ p:Prt,frzA ok st (.agg (ptA p)) = .agg (ptA p):=λp=>by simp[frzA,frz,ptA,AV.keys]
 have e2:∀ n,frzA ok st (.int .i64 n) = .int .i64 n:=λn=>by simp[frzA,frz,AV.keys]
 simp only[frzO,pmA,W10]
 congr 1
 exact W0K λp _=>by simp only[Function.comp,e,e2]
def pm_fz (ok:Nat->Bool) (st:St) (l:Jp):(pmA l).map (λp=>((frz ok st 6 p.1).getD .undef,(frz ok st 6 p.2).getD .undef))=pmA l:=by
 have:=Zn6 ok st l;simpa only [frzO,frzA,AObj.mp.injEq] using this
def lfI (Z:Jp) (id:Int) (S:Jp) (k:Nat):List Prt:=(S.take k).foldl (λZ y=>if y.ho=id then Z.filter (λp=>!decide (y.no=p.no)) else Z) Z
def Zn7 {Z:Jp} {id:Int} {S:Jp} {k:Nat} (h:k<S.length):lfI Z id S (k+1)=if S[k].ho=id then (lfI Z id S k).filter (λp=>!decide (S[k].no=p.no)) else lfI Z id S k:=by
 unfold lfI;rw[W08 h,W1q];rfl
def Zn8 {Z:Jp} {id:Int} {S:Jp}:∀ k,k<=S.length->(lfI Z id S k).Sublist Z
 |0,_=>by simp[lfI]
 | k+1,h=>by
   have ih:=Zn8 (Z:=Z) (id:=id) (S:=S) k (by omega);rw[Zn7 (by omega)]
   split
   . exact List.filter_sublist.trans ih
   . exact ih
def Zn9 {Z:Jp} {id:Int} {S:Jp} {x:Prt}:∀ k,k<=S.length->(x∈lfI Z id S k↔x∈Z/\∀ y∈S.take k,y.ho=id->y.no≠x.no)
 |0,_=>by simp[lfI]
 | k + 1,h=>by
   have hk:k<S.length:=(by omega);rw[Zn7 hk,W08 hk];have ih:=Zn9 (Z:=Z) (id:=id) (S:=S) (x:=x) k (by omega);by_cases c:S[k].ho=id
   . rw[if_pos c,W0G,ih];simp only[W0h,W0B,W1C,W1b]
     constructor
     . rintro ⟨⟨h1,h2⟩,h3⟩;refine ⟨h1,λy hy hi=>?_⟩;rcases hy with hy|rfl
       . exact h2 y hy hi
       . exact h3
     . rintro ⟨h1,h2⟩;exact ⟨⟨h1,λy hy=>h2 y (.inl hy)⟩,h2 _ (.inr rfl) c⟩
   . rw[if_neg c,ih];simp only[W0h,W0B]
     constructor
     . rintro ⟨h1,h2⟩;refine ⟨h1,λy hy hi=>?_⟩;rcases hy with hy|rfl
       . exact h2 y hy hi
       . exact absurd hi c
     . rintro ⟨h1,h2⟩;exact ⟨h1,λy hy=>h2 y (.inl hy)⟩
def lfK (ids:List Int) (v:Nat) (S:Jp):Nat->List Prt
 |0=>S
 |i+1=>if v / 2 ^ i % 2=1 then lfI (lfK ids v S i) (ids.getD i 0) S S.length else lfK ids v S i
def Zna {ids:List Int} {v:Nat} {S:Jp}:∀ i,(lfK ids v S i).Sublist S
 |0=>.refl _
 | i+1=>by
   rw[lfK]
   split
   . exact (Zn8 _ (W0f _)).trans (Zna i)
   . exact Zna i
def Znb {S:Jp} (hn:(S.map (·.no)).Nodup) {x y:Prt} (hx:x∈S) (hy:y∈S) (e:x.no=y.no):x=y:=by
 obtain ⟨i,hi,rfl⟩:=W0k hx;obtain ⟨j,hj,rfl⟩:=W0k hy;have h2:=W0Y.1 hn;rcases W0R i j with c|c|c
 . exact absurd (by rw[W1w,W1w];exact e) (h2 i j (by simpa using hi) (by simpa using hj) c)
 . subst c;rfl
 . exact absurd (by rw[W1w,W1w];exact e.symm) (h2 j i (by simpa using hj) (by simpa using hi) c)
def Znc {ids:List Int} {v:Nat} {S:Jp} (hn:(S.map (·.no)).Nodup) {x:Prt}:∀ i,(x∈lfK ids v S i↔x∈S/\(sbN ids v i).contains x.ho=false)
 |0=>by simp[lfK,sbN]
 | i + 1=>by
   have ih:=Znc (ids:=ids) (v:=v) hn (x:=x) i;rw[lfK,sbN];by_cases c:v / 2 ^ i % 2=1
   . rw[if_pos c,if_pos c,Zn9 _ (W0f _),ih,W0v]
     have e:(sbN ids v i++[ids.getD i 0]).contains x.ho=((sbN ids v i).contains x.ho||decide (x.ho=ids.getD i 0)):=by
      rw[W2h];simp
     rw[e,W1T,W1b]
     constructor
     . rintro ⟨⟨h1,h2⟩,h3⟩;exact ⟨h1,h2,λe=>h3 x h1 e rfl⟩
     . rintro ⟨h1,h2,h3⟩;refine ⟨⟨h1,h2⟩,λy hy hi e=>?_⟩;rw[Znb hn hy h1 e]at hi;exact h3 hi
   . rw[if_neg c,if_neg c,ih]
def pig:∀ (n:Nat) (D:List Nat),D.Nodup->(∀ i∈D,i<n)->D.length<=n
 | 0,D,_,h=>by
   cases D with
   |nil=>simp
   |cons a t=>exact absurd (h a (by simp)) (by omega)
 | n+1,D,hd,h=>by
   have h1:=pig n (D.erase n) (hd.erase n) λi hi=>by
    have:=(List.Nodup.mem_erase_iff hd).1 hi;have:=h i this.2;omega
   by_cases c:n∈D
   . rw[List.length_erase_of_mem c]at h1;omega
   . rw[List.erase_of_not_mem c]at h1;omega
def shU7 {n:Nat} (h:n<7):i64.wrap (2 ^ (min n IntKind.i64.bits))=((2 ^ n:Nat):Int):=by
 have h1:∀ k:_root_.Fin 7,i64.wrap (2 ^ (min k.val IntKind.i64.bits))=((2 ^ k.val:Nat):Int):=(by decide +kernel);exact h1 ⟨n,h⟩
def pow6 {n:Nat} (h:n<=6):2 ^ n<=64:=by
 have:n=0∨n=1∨n=2∨n=3∨n=4∨n=5∨n=6:=(by omega);rcases this with rfl|rfl|rfl|rfl|rfl|rfl|rfl <;> decide
def Nsub.vptr {xs ys:List AV} {off:Nat} (h:NsubL xs ys):Nsub (.vptr xs off) (.vptr ys off):=λM W u hu=>by
 cases hu with
 | vptr _ _ b o f hb hM hc hr =>
   refine .vptr ys off b o f hb hM (λj hj=>hc j (by rw[h.len];exact hj)) λj y hy=>?_
   obtain ⟨x,h2,h3⟩:=h.at j y hy;exact h3 _ _ _ (hr j x h2)
def IterG.sub {P:Program} {G:Jg} {gf:Nat} {caps caps' els:List AV} (h:IterG P G gf caps els) (hs:NsubL caps' caps):IterG P G gf caps' els :=
 ⟨h.1,λn l lb J K M W h0 h1 h2 h3 h4 hc=>h.2 n l lb J K M W h0 h1 h2 h3 h4 ⟨hc.1.trans hs.len,λi y u hi hu=>by
  obtain ⟨x,g1,g2⟩:=hs.at i y hi;exact g2 _ _ _ (hc.2 i x u g1 hu)⟩⟩
def plT (F W:AV) (K l i:Nat):List (Nat×AV):=[(22,.int .i64 i),(21,.int .i64 K),(2,.vptr [W] 0),(1,.vptr [F] 0),(0,.func (.yield l) [] [])]
def plU (F W:AV) (K l i:Nat):List (Nat×AV):=(6,.mp 25)::(5,.ptr 5 0)::(4,.int .i64 i)::plT F W K l i
def plA (F W:AV) (K l i:Nat) (S:Jp) (k:Nat):St:=⟨(28,.int .i64 k)::(27,.int .i64 S.length)::(26,W)::plU F W K l i,[(25,.mp (pmA (S.take k))),(5,.box [.nils,.nils])]⟩
def plB (F W:AV) (K l i:Nat) (hs:Jh) (Z:Jp) (A:List Int) (j:Nat):St:=⟨(43,.int .i64 j)::(42,.int .i64 hs.length)::(41,.vsl (hs.map hoa))::plU F W K l i,(25,.mp (pmA Z))::(5,.box [nlV 58 A,.nils])::nlO 58 A⟩
def plI (F W:AV) (K l i:Nat) (hs:Jh) (S:Jp) (h:Hld) (Z:Jp) (A:List Int) (j k:Nat):St :=
 ⟨(62,.int .i64 k)::(61,.int .i64 S.length)::(60,W)::(10,.ptr 10 0)::(43,.int .i64 j)::(42,.int .i64 hs.length)::(41,.vsl (hs.map hoa))::plU F W K l i,(10,.box (hoa h))::(25,.mp (pmA Z))::(5,.box [nlV 58 A,.nils])::nlO 58 A⟩
def dwD (Z:Jp) (D:List Nat):List Int:=D.map λi=>(pAt Z i).dw
def plV (F W:AV) (K l i:Nat) (Z:Jp) (V:AV) (U:List Int):St:=⟨(76,.vmap (pmA Z))::(5,.ptr 5 0)::plT F W K l i,(5,.box [V,nlV 88 U])::nlO 88 U⟩
structure VisD (n:Nat) where
 D:List Nat
 nd:D.Nodup
 bd:∀ i∈D,i<n
def VisD.has {n:Nat} (D:VisD n) (j:Nat):Bool:=D.D.contains j
def Znd:PC prog G 116 [.nils] .nils:=by
 refine PC_of Tryz.func116 rfl (by kernel_rfl) (rc:=ZiE) (by kernel_rfl) (rs:=ZiF) (by kernel_rfl) (W0C rfl) λR _ hG hrd=>Qga ?_
 subst hG;simp -implicitDefEqProofs[ZiE,ZiF]
def Zne (r:Jr) (l:Jl) (hs:Jh) (ps S:Jp) (hnS:(S.map (·.no)).Nodup) (hS:S.length<=41) (h6:hs.length<=6) (hdl:(nums r).Pairwise (· < ·)) (hd:∀ x∈S,x.dw∈nums r) :
  IterG prog G 179 [.vptr [ofA r l hs ps] 0,.vptr [.vsl (S.map ptA)] 0] ((plE (hs.map (·.id)) (nums r) S).map pvA):=by
 have eO:ofA r l hs ps = .vptr [.vsl (r.map isa),.vsl (l.map na),.vsl (hs.map hoa),.vsl (ps.map ptA),.vsl ((nums r).map ia)] 0:=rfl;have sh:=shU7 (n:=hs.length) (by omega);have hpw:=pow6 (n:=hs.length) h6;obtain ⟨ids,hids⟩:=Qex (hs.map (·.id));have lids:ids.length=hs.length:=(by rw[hids];simp);have gid:∀ i (h:i<hs.length),ids.getD i 0=hs[i].id:=λi h=>by rw[hids,W0j,W09,W07 h];rfl
 rw[<- hids]
 have hat:∀ v,v<2 ^ hs.length->∀ left:List Prt,(∀ x,x∈left↔x∈S/\(sbT ids v).contains x.ho=false)->(plE ids (nums r) S)[v]? = some (sbT ids v,setI (left.map (·.dw))):=by
  intro v hv left hm;unfold plE;rw[W09,W0L (by rw[lids];exact hv)];simp only[W0m,plN,ZiL];rw[ZiJ hdl hd hm]
 have hln:(plE ids (nums r) S).length=2 ^ hs.length:=(by rw[ZmR,lids]);obtain ⟨F,hF⟩:=Qex (ofA r l hs ps);rw[<- hF]at eO ⊢;have pF:F.pure=true:=(by rw[hF];exact ZiZ r l hs ps);clear hF;refine ZjI Tryz.func179 (by kernel_rfl) (rc:=ZgC) (by kernel_rfl) rfl (W0C rfl) λn l' J K hn H hY=>?_
 generalize plE ids (nums r) S=E at *;obtain ⟨k,hk⟩:=Qex (2 ^ hs.length);rw[<- hk]at hpw sh hat hln
 have pT:∀ i,∀ q∈plT F (.vsl (S.map ptA)) k l' i,q.2.pure=true:=λi q hq=>by
  simp only[plT,W0g,W0Q,or_false]at hq;rcases hq with rfl|rfl|rfl|rfl|rfl <;> simp[AV.pure,pF,ptA]
 unfold ZgC;refine Zjz ⟨plT F (.vsl (S.map ptA)) k l' 0,[]⟩ (λM A=>?_) (ZjB (ZjC (λi=>i) (λi=>⟨plT F (.vsl (S.map ptA)) k l' i,[]⟩) (λi=>i<=k) (λi=>k-i) 0 rfl rfl (W1f _) λi hi=>?_))
 . refine Qga ?_;simp -implicitDefEqProofs[iniT,eO,plT,sh]
   (refine Wkc ?_;simp only[Wkl,and_true];(try simp[lk,Yc,Ya,AV.keys]))
 by_cases hlt:i<k
 case neg =>
  obtain rfl:i=k:=(by omega);refine Zjz ⟨(23,.bool false)::plT F (.vsl (S.map ptA)) i l' i,[]⟩ (λM A=>?_) (Zjx (ZjA (.exit 0) ⟨[],[]⟩ (λM A=>?_) ?_))
  . refine Qga ?_;simp -implicitDefEqProofs[plT];exact (by (first|exact Wka|exact Wkb))
  . refine Qga ?_;simp -implicitDefEqProofs[plT];exact (by (first|exact Wka|exact Wkb))
  . simp only[ItBk,if_true];refine ⟨by simp,by simp[hln],λ_ _ _ h=>h⟩
 have wi:i64.wrap ((i:Int)+1)=((i+1:Nat):Int):=Yf;have hat:=hat i hlt;refine Zjz ⟨(23,.bool true)::plT F (.vsl (S.map ptA)) k l' i,[]⟩ (λM A=>?_) (Zjz ⟨plT F (.vsl (S.map ptA)) k l' i,[]⟩ (λM A=>?_) (Zjy (ZjB ?_)))
 . refine Qga ?_;simp -implicitDefEqProofs[plT,hlt];exact (by (first|exact Wka|exact Wkb))
 . refine Qga ?_;simp -implicitDefEqProofs[plT];exact (by (first|exact Wka|exact Wkb))
 refine Zjz ⟨(4,.int .i64 i)::plT F (.vsl (S.map ptA)) k l' i,[]⟩ (λM A=>?_) (Zjz ⟨(5,.ptr 5 0)::(4,.int .i64 i)::plT F (.vsl (S.map ptA)) k l' i,[(5,.box [.nils,.nils])]⟩ (λM A=>?_) (Zjz ⟨plU F (.vsl (S.map ptA)) k l' i,[(25,.mp (pmA [])),(5,.box [.nils,.nils])]⟩ (λM A=>?_) ?_))
 . refine Qga ?_;simp -implicitDefEqProofs[plT];exact (by (first|exact Wka|exact Wkb))
 . refine Qga ?_;simp -implicitDefEqProofs[plT]
   (refine Wkc ?_;simp only[Wkl,and_true];(try simp[lk,Yc,Ya,AV.keys]))
 . refine Qga ?_;have e0:pmA []=[]:=rfl;simp -implicitDefEqProofs[plU,plT,e0]
   (refine Wkc ?_;simp only[Wkl,and_true];(try simp[lk,Yc,Ya,AV.keys]))
 refine Zjz ⟨plU F (.vsl (S.map ptA)) k l' i,[(25,.mp (pmA S)),(5,.box [.nils,.nils])]⟩ (λM A=>?_) ?_
 . refine Qga ?_;simp -implicitDefEqProofs[plU,plT];refine Z8g (plA F (.vsl (S.map ptA)) k l' i S) (λ_=>True) S.length ?_ trivial ?_ ?_
   . have e0:plA F (.vsl (S.map ptA)) k l' i S 0=⟨(28,.int .i64 (0:Nat))::(27,.int .i64 S.length)::(26,.vsl (S.map ptA))::plU F (.vsl (S.map ptA)) k l' i,[(25,.mp (pmA [])),(5,.box [.nils,.nils])]⟩:=rfl;have e1:pmA []=[]:=rfl;rw[e0,e1];simp only[plU,plT]
     ((try simp only[ptA]);refine Ym.sub (by simp[lk,Ya,AV.keys,ptA]) ?_;simp only[ptA,Wkl,and_true];(try simp[lk,Yc,Ya,AV.keys,ptA]))
   . intro j hj _;have wj:i64.wrap ((j:Int)+1)=(j:Int)+1:=Yf;obtain ⟨y,hy⟩:=Qex (S[j]);have hly:S[j]=y:=hy.symm;have hpt:ptA y=[.int .i64 y.no,.int .i64 y.dy,.int .i64 y.ho,.int .i64 y.dw,.int .i64 y.lt,.int .i64 y.bk,.int .u8 y.lo]:=rfl
     have hput:=Zn1 (y:=y) (l:=S.take j) λp hp e=>by
      obtain ⟨q,hq,rfl⟩:=W0k hp;simp only[W15]at hq;rw[W1V,hy]at e;exact W0Y.1 hnS q j (by simp;omega) (by simpa using hj) (by omega) (by rw[W1w,W1w];exact e)
     have sc:S.take (j+1)=S.take j++[y]:=(by rw[W08 hj,hy]);obtain ⟨Z',hZ'⟩:=Qex (S.take (j+1));obtain ⟨Z,hZ⟩:=Qex (S.take j);rw[<- sc,hpt,<- hZ',<- hZ]at hput;have hw1:plA F (.vsl (S.map ptA)) k l' i S j=⟨(28,.int .i64 j)::(27,.int .i64 S.length)::(26,.vsl (S.map ptA))::plU F (.vsl (S.map ptA)) k l' i,[(25,.mp (pmA Z)),(5,.box [.nils,.nils])]⟩:=(by rw[plA,<- hZ]);have hw2:plA F (.vsl (S.map ptA)) k l' i S (j+1)=⟨(28,.int .i64 (j+1:Nat))::(27,.int .i64 S.length)::(26,.vsl (S.map ptA))::plU F (.vsl (S.map ptA)) k l' i,[(25,.mp (pmA Z')),(5,.box [.nils,.nils])]⟩:=(by rw[plA,<- hZ']);refine Qga ?_;rw[hw1];simp -implicitDefEqProofs[plU,plT,hj,hly,hpt,hput,wj];rw[hw2];simp only[plU,plT]
     ((try simp only[ptA]);refine Ym.sub (by simp[lk,Ya,AV.keys,ptA]) ?_;simp only[ptA,Wkl,Zn4,and_true];(try simp[lk,Yc,Ya,AV.keys,ptA]))
   . intro _;have hw1:plA F (.vsl (S.map ptA)) k l' i S S.length=⟨(28,.int .i64 S.length)::(27,.int .i64 S.length)::(26,.vsl (S.map ptA))::plU F (.vsl (S.map ptA)) k l' i,[(25,.mp (pmA S)),(5,.box [.nils,.nils])]⟩:=(by rw[plA,W0v]);rw[hw1];refine Qga ?_;simp -implicitDefEqProofs[plU,plT];refine Qgr ?_;simp -implicitDefEqProofs[]
     ((try simp only[ptA]);refine Ym.sub (by simp[lk,Ya,AV.keys,ptA]) ?_;simp only[ptA,Wkl,Zn4,and_true];(try simp[lk,Yc,Ya,AV.keys,ptA]))
 have kF:F.keys=[]:=AV.pure_keys _ pF;refine Zjz ⟨plU F (.vsl (S.map ptA)) k l' i,(25,.mp (pmA (lfK ids i S hs.length)))::(5,.box [nlV 58 (sbN ids i hs.length),.nils])::nlO 58 (sbN ids i hs.length)⟩ (λM A=>?_) ?_
 . refine Qga ?_;simp -implicitDefEqProofs[plU,plT,eO];rw[<- eO];refine Z8g (λj=>plB F (.vsl (S.map ptA)) k l' i hs (lfK ids i S j) (sbN ids i j) j) (λ_=>True) hs.length ?_ trivial ?_ ?_
   . have e0:lfK ids i S 0=S:=rfl;have e1:sbN ids i 0=[]:=rfl;simp only[plB,e0,e1,nlV,nlO,if_true,plU,plT]
     ((try simp only[ptA,kF,hoa]);refine Ym.sub (by simp[lk,Ya,AV.keys,ptA,kF,hoa]) ?_;simp only[ptA,kF,hoa,Wkl,Zn4,and_true];(try simp[lk,Yc,Ya,AV.keys,ptA,kF,hoa]))
   . intro j hj _;have wj:i64.wrap ((j:Int)+1)=(j:Int)+1:=Yf;have sc:sbN ids i (j+1)=if i / 2 ^ j % 2=1 then sbN ids i j++[ids.getD j 0] else sbN ids i j:=rfl
     have lc:lfK ids i S (j+1)=if i / 2 ^ j % 2=1 then lfI (lfK ids i S j) (ids.getD j 0) S S.length else lfK ids i S j:=rfl
     have hle:=ZfC ids i j;have bU:=bitU (v:=i) (i:=j) (by omega) (by omega);rw[gid j hj]at sc lc;obtain ⟨h,hh⟩:=Qex (hs[j]);rw[<- hh]at sc lc;have hlh:hs[j]=h:=hh.symm;have hho:hoa h=[.int .i64 h.id,.int .i64 h.fr,.int .i64 h.to,.vsl (h.ds.map ia)]:=rfl;have hzn:((lfK ids i S j).map (·.no)).Nodup:=hnS.sublist ((Zna j).map _);obtain ⟨Z',hZ'⟩:=Qex (lfK ids i S (j+1));obtain ⟨Z,hZ⟩:=Qex (lfK ids i S j);obtain ⟨B',hB'⟩:=Qex (sbN ids i (j+1));obtain ⟨B,hB⟩:=Qex (sbN ids i j);have hw1:plB F (.vsl (S.map ptA)) k l' i hs (lfK ids i S j) (sbN ids i j) j=⟨(43,.int .i64 j)::(42,.int .i64 hs.length)::(41,.vsl (hs.map hoa))::plU F (.vsl (S.map ptA)) k l' i,(25,.mp (pmA Z))::(5,.box [nlV 58 B,.nils])::nlO 58 B⟩:=(by rw[plB,<- hZ,<- hB]);have hw2:plB F (.vsl (S.map ptA)) k l' i hs (lfK ids i S (j+1)) (sbN ids i (j+1)) (j+1)=⟨(43,.int .i64 (j+1:Nat))::(42,.int .i64 hs.length)::(41,.vsl (hs.map hoa))::plU F (.vsl (S.map ptA)) k l' i,(25,.mp (pmA Z'))::(5,.box [nlV 58 B',.nils])::nlO 58 B'⟩:=(by rw[plB,<- hZ',<- hB']);rw[<- hB',<- hB]at sc;rw[<- hZ',<- hZ]at lc;rw[<- hZ]at hzn;rw[<- hB]at hle;have bb:(B.length+1)*8<=70368744177664:=(by omega);show AR _ _ _ (plB F (.vsl (S.map ptA)) k l' i hs (lfK ids i S j) (sbN ids i j) j) _;rw[hw1];by_cases cB:B=[]
     case' pos =>
      have hV:nlV 58 B = .nils:=(by simp[nlV,cB]);have hQ:nlO 58 B=[]:=by simp[nlO,cB]
     case' neg =>
      have hV:nlV 58 B = .osl 58 B.length:=(by simp[nlV,cB]);have hQ:nlO 58 B=[(58,.row 1 (B.map ia))]:=by simp[nlO,cB]
     all_goals
      refine Qga ?_;by_cases q:i / 2 ^ j % 2=1
      case neg =>
       rw[if_neg q]at sc lc bU;simp -implicitDefEqProofs[plU,plT,hV,hQ,hj,hlh,hho,bU,wj];rw[hw2,sc,lc,hV,hQ];simp only[plU,plT]
       ((try simp only[ptA,kF,hoa,ia]);refine Ym.sub (by simp[lk,Ya,AV.keys,ptA,kF,hoa,ia]) ?_;simp only[ptA,kF,hoa,ia,Wkl,Zn4,Zem,and_true];(try simp[lk,Yc,Ya,AV.keys,ptA,kF,hoa,ia]))
      rw[if_pos q]at sc lc bU;have hne:¬B'=[]:=(by rw[sc];simp);have hV2:nlV 58 B' = .osl 58 (B.length+1):=(by rw[nlV,if_neg hne,sc];simp);have hQ2:nlO 58 B'=[(58,.row 1 (B.map ia++[[.int .i64 h.id]]))]:=(by rw[nlO,if_neg hne,sc,W0r];rfl);have w1:∀ (X:Jp) (c:Nat),plI F (.vsl (S.map ptA)) k l' i hs S h X B' j c=⟨(62,.int .i64 c)::(61,.int .i64 S.length)::(60,.vsl (S.map ptA))::(10,.ptr 10 0)::(43,.int .i64 j)::(42,.int .i64 hs.length)::(41,.vsl (hs.map hoa))::plU F (.vsl (S.map ptA)) k l' i,(10,.box (hoa h))::(25,.mp (pmA X))::(5,.box [.osl 58 (B.length+1),.nils])::[(58,.row 1 (B.map ia++[[.int .i64 h.id]]))]⟩:=λX c=>by rw[plI,hV2,hQ2]
      have iak:∀ o:List (Nat×AObj),Yc o (.row 1 (B.map ia++[[.int .i64 h.id]]))=true:=λo=>by
       have:=Zem o (B++[h.id])
       rwa [W0r]at this
      simp -implicitDefEqProofs[plU,plT,hV,hQ,hj,hlh,hho,bU,bb];refine Z8g (λc=>plI F (.vsl (S.map ptA)) k l' i hs S h (lfI Z h.id S c) B' j c) (λ_=>True) S.length ?_ trivial ?_ ?_
      . have e0:lfI Z h.id S 0=Z:=rfl;show Ym _ (plI F (.vsl (S.map ptA)) k l' i hs S h (lfI Z h.id S 0) B' j 0);rw[e0,w1];simp only[plU,plT]
        ((try simp only[ptA,kF,hho,ia,cB,ptA]);refine Ym.sub (by simp[lk,Ya,AV.keys,ptA,kF,hho,ia,cB,ptA]) ?_;simp only[ptA,kF,hho,ia,cB,ptA,Wkl,Zn4,iak,and_true];(try simp[lk,Yc,Ya,AV.keys,ptA,kF,hho,ia,cB,ptA]))
      . intro c hc _;have wc:i64.wrap ((c:Int)+1)=(c:Int)+1:=Yf;have sl:=Zn7 (Z:=Z) (id:=h.id) hc;have hxn:((lfI Z h.id S c).map (·.no)).Nodup:=hzn.sublist ((Zn8 c (by omega)).map _);obtain ⟨y,hy⟩:=Qex (S[c]);rw[<- hy]at sl;have hly:S[c]=y:=hy.symm;have hpt:ptA y=[.int .i64 y.no,.int .i64 y.dy,.int .i64 y.ho,.int .i64 y.dw,.int .i64 y.lt,.int .i64 y.bk,.int .u8 y.lo]:=rfl;have hdel:=Zn3 (n:=y.no) hxn;obtain ⟨X',hX'⟩:=Qex (lfI Z h.id S (c+1));obtain ⟨X,hX⟩:=Qex (lfI Z h.id S c);have hw3:=w1 X c;have hw4:=w1 X' (c+1);rw[hX]at hw3;rw[hX']at hw4;rw[<- hX]at hw3;rw[<- hX']at hw4;rw[<- hX',<- hX]at sl;rw[<- hX]at hdel;show AR _ _ _ (plI F (.vsl (S.map ptA)) k l' i hs S h (lfI Z h.id S c) B' j c) _;rw[<- hX,hw3];refine Qga ?_;by_cases e:y.ho=h.id
        . rw[if_pos e]at sl;rw[<- sl]at hdel;simp -implicitDefEqProofs[plU,plT,hc,hly,hpt,hho,e,hdel,wc];rw[<- hX',hw4];simp only[plU,plT]
          ((try simp only[ptA,kF,hho,ia]);refine Ym.sub (by simp[lk,Ya,AV.keys,ptA,kF,hho,ia]) ?_;simp only[ptA,kF,hho,ia,Wkl,Zn4,iak,and_true];(try simp[lk,Yc,Ya,AV.keys,ptA,kF,hho,ia]))
        . rw[if_neg e]at sl;simp -implicitDefEqProofs[plU,plT,hc,hly,hpt,hho,e,wc];rw[<- hX',hw4,<- sl];simp only[plU,plT]
          ((try simp only[ptA,kF,hho,ia]);refine Ym.sub (by simp[lk,Ya,AV.keys,ptA,kF,hho,ia]) ?_;simp only[ptA,kF,hho,ia,Wkl,Zn4,iak,and_true];(try simp[lk,Yc,Ya,AV.keys,ptA,kF,hho,ia]))
      . intro _;show AR _ _ _ (plI F (.vsl (S.map ptA)) k l' i hs S h (lfI Z h.id S S.length) B' j S.length) _;rw[<- lc,w1];refine Qga ?_;simp -implicitDefEqProofs[plU,plT];refine Qgr ?_;simp -implicitDefEqProofs[wj];rw[hw2,hV2,hQ2];simp only[plU,plT]
        ((try simp only[ptA,kF,hoa,ia]);refine Ym.sub (by simp[lk,Ya,AV.keys,ptA,kF,hoa,ia]) ?_;simp only[ptA,kF,hoa,ia,Wkl,Zn4,iak,and_true];(try simp[lk,Yc,Ya,AV.keys,ptA,kF,hoa,ia]))
   . intro _;show AR _ _ _ (plB F (.vsl (S.map ptA)) k l' i hs (lfK ids i S hs.length) (sbN ids i hs.length) hs.length) _;rw[plB];generalize sbN ids i hs.length=B;by_cases cB:B=[]
     case' pos =>
      have hV:nlV 58 B = .nils:=(by simp[nlV,cB]);have hQ:nlO 58 B=[]:=by simp[nlO,cB]
     case' neg =>
      have hV:nlV 58 B = .osl 58 B.length:=(by simp[nlV,cB]);have hQ:nlO 58 B=[(58,.row 1 (B.map ia))]:=by simp[nlO,cB]
     all_goals
      refine Qga ?_;simp -implicitDefEqProofs[plU,plT,hV,hQ];refine Qgr ?_;simp -implicitDefEqProofs[]
      ((try simp only[ptA,kF,ia]);refine Ym.sub (by simp[lk,Ya,AV.keys,ptA,kF,ia]) ?_;simp only[ptA,kF,ia,Wkl,Zn4,Zem,and_true];(try simp[lk,Yc,Ya,AV.keys,ptA,kF,ia]))
 obtain ⟨Z,hZ⟩:=Qex (lfK ids i S hs.length)
 have hZm:∀ x,x∈Z↔x∈S/\(sbT ids i).contains x.ho=false:=λx=>by
  rw[hZ,sbT,lids];exact Znc hnS hs.length
 have hZl:Z.length<=41:=by
  have:=(Zna (ids:=ids) (v:=i) (S:=S) hs.length).length_le;rw[hZ];omega
 have hBl:sbN ids i hs.length=sbT ids i:=(by rw[sbT,lids]);rw[hBl,<- hZ];obtain ⟨B,hB⟩:=Qex (sbT ids i);rw[<- hB]at hZm hat ⊢;obtain ⟨V,hV⟩:=Qex (Yg (B.map ia));have pV:V.pure=true:=(by rw[hV];exact Zkq _);have kV:V.keys=[]:=AV.pure_keys _ pV;have fV:∀ ok st,frz ok st 6 V=some V:=λok st=>by rw[hV];unfold Yg;split <;> simp[frz,AV.keys]
 refine Zjy (Zjw λM A=>Z5s (α:=VisD Z.length) (kvs:=pmA Z) (λD=>plV F (.vsl (S.map ptA)) k l' i Z V (dwD Z D.D)) VisD.has ⟨[],.nil,by simp⟩ (by simp[VisD.has]) (by decide) (by simp[Z1y]) (λD=>by simp[plV,St.tmp,lk]) (λD n hn=>?_) ?_ ?_ ?_)
 . simp at hn;rcases hn with rfl|rfl|rfl|rfl|rfl <;> simp[plV,plT,St.tmp,lk]
 . have e0:dwD Z []=[]:=rfl;have e1:nlV 88 [] = .nils:=rfl;have e2:nlO 88 []=[]:=rfl;simp only[plV,e0,e1,e2];by_cases cB:B=[]
   . have hV1:nlV 58 B = .nils:=(by simp[nlV,cB]);have hQ1:nlO 58 B=[]:=(by simp[nlO,cB]);have hV2:V = .nils:=(by rw[hV];simp[Yg,cB]);simp -implicitDefEqProofs[plU,plT,hV1,hQ1];refine Ym.trans (Ym.frz (λk=>k == 25||k == 58) _) ?_;simp only[hV2]
     ((try simp only[Yi,frzA,frzO,frz,Yh,Yj,St.get,AV.pure,pm_fz,Zn5]);refine Ym.sub (by simp[lk,Ya,AV.keys,Yi,frzA,frzO,frz,Yh,Yj,St.get,AV.pure,pm_fz,Zn5]) ?_;simp only[Yi,frzA,frzO,frz,Yh,Yj,St.get,AV.pure,pm_fz,Zn5,Wkl,and_true];(try simp[lk,Yc,Ya,AV.keys,Yi,frzA,frzO,frz,Yh,Yj,St.get,AV.pure,pm_fz,Zn5]))
   . have hV1:nlV 58 B = .osl 58 B.length:=(by simp[nlV,cB]);have hQ1:nlO 58 B=[(58,.row 1 (B.map ia))]:=(by simp[nlO,cB]);have hV2:V = .vsl (B.map ia):=(by rw[hV];simp[Yg,cB]);simp -implicitDefEqProofs[plU,plT,hV1,hQ1];refine Ym.trans (Ym.frz (λk=>k == 25||k == 58) _) ?_;simp only[hV2]
     ((try simp only[Yi,frzA,frzO,frz,Yh,Yj,St.get,AV.pure,ia,pm_fz,Zn5]);refine Ym.sub (by simp[lk,Ya,AV.keys,Yi,frzA,frzO,frz,Yh,Yj,St.get,AV.pure,ia,pm_fz,Zn5]) ?_;simp only[Yi,frzA,frzO,frz,Yh,Yj,St.get,AV.pure,ia,pm_fz,Zn5,Wkl,and_true];(try simp[lk,Yc,Ya,AV.keys,Yi,frzA,frzO,frz,Yh,Yj,St.get,AV.pure,ia,pm_fz,Zn5]))
 . intro D j kx v hkv hD;obtain ⟨hj0,hkv2⟩:=W02.1 hkv;have hj:j<Z.length:=(by simpa [pmA] using hj0);have hv:v = .agg (ptA Z[j]):=(by simp[pmA]at hkv2;exact hkv2.2.symm);have hjn:j ∉ D.D:=(by simpa [VisD.has] using hD);have hDl:=pig Z.length D.D D.nd D.bd;have eD:dwD Z (D.D++[j])=dwD Z D.D++[Z[j].dw]:=by simp[dwD,ZiS hj]
   have nD:(D.D++[j]).Nodup/\∀ q∈D.D++[j],q<Z.length:=by
    refine ⟨List.nodup_append.2 ⟨D.nd,by simp,λa ha b hb=>?_⟩,λq hq=>?_⟩
    . simp at hb;subst hb;exact λe=>hjn (e ▸ ha)
    . rcases W0h.1 hq with hq|hq
      . exact D.bd q hq
      . simp at hq;omega
   have cD:∀ q,(D.D++[j]).contains q=(D.D.contains q||q == j):=λq=>by
    rw[W2h];simp
   obtain ⟨y,hy⟩:=Qex (Z[j]);rw[<- hy]at hv eD;have hpt:ptA y=[.int .i64 y.no,.int .i64 y.dy,.int .i64 y.ho,.int .i64 y.dw,.int .i64 y.lt,.int .i64 y.bk,.int .u8 y.lo]:=rfl;subst hv;have lD:(dwD Z D.D).length=D.D.length:=(by simp[dwD]);have hfin:∀ s3,Ym s3 (plV F (.vsl (S.map ptA)) k l' i Z V (dwD Z (D.D++[j])))->∃ D':VisD Z.length,(∀ q,D'.has q=(D.has q||q == j))/\Ym s3 (plV F (.vsl (S.map ptA)) k l' i Z V (dwD Z D'.D)):=λs3 h=>⟨⟨D.D++[j],nD.1,nD.2⟩,cD,h⟩
   generalize dwD Z (D.D++[j])=U' at *;generalize dwD Z D.D=U at *;have bb:(U.length+1)*8<=70368744177664:=(by omega);have hne:¬U'=[]:=(by rw[eD];simp);have hV2:nlV 88 U' = .osl 88 (U.length+1):=(by rw[nlV,if_neg hne,eD];simp);have hQ2:nlO 88 U'=[(88,.row 1 (U.map ia++[[.int .i64 y.dw]]))]:=by rw[nlO,if_neg hne,eD,W0r];rfl
   have iak:∀ o:List (Nat×AObj),Yc o (.row 1 (U.map ia++[[.int .i64 y.dw]]))=true:=λo=>by
    have:=Zem o (U++[y.dw])
    rwa [W0r]at this
   by_cases cU:U=[]
   case' pos =>
    have hV1:nlV 88 U = .nils:=(by simp[nlV,cU]);have hQ1:nlO 88 U=[]:=by simp[nlO,cU]
   case' neg =>
    have hV1:nlV 88 U = .osl 88 U.length:=(by simp[nlV,cU]);have hQ1:nlO 88 U=[(88,.row 1 (U.map ia))]:=by simp[nlO,cU]
   all_goals
    simp -implicitDefEqProofs[plV,plT,hV1,hQ1,hpt,bb];refine hfin _ ?_;simp only[plV,plT,hV2,hQ2]
    ((try simp only[ptA,kF,kV,ia,cU]);refine Ym.sub (by simp[lk,Ya,AV.keys,ptA,kF,kV,ia,cU]) ?_;simp only[ptA,kF,kV,ia,cU,Wkl,iak,and_true];(try simp[lk,Yc,Ya,AV.keys,ptA,kF,kV,ia,cU]))
 intro D hD
 have hD2:∀ q,q<Z.length->q∈D.D:=λq hq=>by
  have:=hD q (by simpa [pmA] using hq);simpa [VisD.has] using this
 have hat:=hat (D.D.map (pAt Z)) λx=>by
  rw[<- hZm,W0i]
  constructor
  . rintro ⟨q,hq,rfl⟩;have:=D.bd q hq;rw[ZiS this];exact W0e this
  . intro hx;obtain ⟨q,hq,rfl⟩:=W0k hx;exact ⟨q,hD2 q hq,ZiS hq⟩
 have hUl:(dwD Z D.D).length<=41:=by
  have:=pig Z.length D.D D.nd D.bd;simp[dwD];omega
 have eU:(D.D.map (pAt Z)).map (·.dw)=dwD Z D.D:=(by simp[dwD]);rw[eU]at hat;refine ⟨plV F (.vsl (S.map ptA)) k l' i Z V (dwD Z D.D),⟨rfl,?_⟩,λ_ _ _ h=>h⟩;generalize dwD Z D.D=U at *;clear hD hD2 eU;obtain ⟨Y,hYe⟩:=Qex (Yg ((setI U).map ia));have pY:Y.pure=true:=(by rw[hYe];exact Zkq _);have hpv:pvA (B,setI U) = .agg [V,Y]:=(by rw[pvA,hV,hYe]);obtain ⟨hsp,hcp,hOl,hOt,hOf,kO',rO,hCl⟩:=ZkF (G:=G) U (by omega);have sl:(sortI U).length=U.length:=Zbo U;refine Zjz ⟨(5,.ptr 5 0)::plT F (.vsl (S.map ptA)) k l' i,(5,.box [V,nlV 88 (sortI U)])::nlO 88 (sortI U)⟩ (λM A=>?_) (Zjz ⟨(5,.ptr 5 0)::plT F (.vsl (S.map ptA)) k l' i,[(5,.box [V,Y])]⟩ (λM A=>?_) ?_)
 . refine Qga ?_;by_cases cU:U=[]
   . have e1:nlV 88 U = .nils:=(by simp[nlV,cU]);have e2:nlO 88 U=[]:=(by simp[nlO,cU]);have cS:sortI U=[]:=W0l.1 (by rw[sl,cU];rfl);have e3:nlV 88 (sortI U) = .nils:=(by simp[nlV,cS]);have e4:nlO 88 (sortI U)=[]:=(by simp[nlO,cS]);rw[e3,e4];simp -implicitDefEqProofs[plV,plT,e1,e2];refine Yd.of Zew (by simp[AV.pure]) ?_;simp -implicitDefEqProofs[]
     ((try simp only[ptA,kF,kV]);refine Ym.sub (by simp[lk,Ya,AV.keys,ptA,kF,kV]) ?_;simp only[ptA,kF,kV,Wkl,and_true];(try simp[lk,Yc,Ya,AV.keys,ptA,kF,kV]))
   . have e1:nlV 88 U = .osl 88 U.length:=(by simp[nlV,cU]);have e2:nlO 88 U=[(88,.row 1 (U.map ia))]:=(by simp[nlO,cU]);have cS:¬sortI U=[]:=λh=>cU (W0l.1 (by rw[<- sl,h];rfl))
     have e3:nlV 88 (sortI U) = .osl 88 U.length:=(by simp[nlV,cS,sl]);have e4:nlO 88 (sortI U)=[(88,.row 1 ((sortI U).map ia))]:=(by simp[nlO,cS]);rw[e3,e4];simp -implicitDefEqProofs[plV,plT,e1,e2];refine Yd.sem (Z1B.byref hsp (λ_=>88) (by simp) (by simp) (by simp[St.get,lk,Zel]) (by simp[Zem]) (by simp[Ya,AV.keys,lk]) rfl (by simp[AV.ren]) rfl rfl) ?_;simp -implicitDefEqProofs[Yl,Zel]
     ((try simp only[ptA,kF,kV,ia]);refine Ym.sub (by simp[lk,Ya,AV.keys,ptA,kF,kV,ia]) ?_;simp only[ptA,kF,kV,ia,Wkl,Zem,and_true];(try simp[lk,Yc,Ya,AV.keys,ptA,kF,kV,ia]))
 . refine Qga ?_;by_cases cU:U=[]
   . have cS:sortI U=[]:=W0l.1 (by rw[sl,cU];rfl);have e3:nlV 88 (sortI U) = .nils:=(by simp[nlV,cS]);have e4:nlO 88 (sortI U)=[]:=by simp[nlO,cS]
     have e5:Y = .nils:=by
      have:setI U=[]:=W0l.1 (by have h2:=congrArg List.length cU;rw[W1U]at h2;omega);rw[hYe,this];rfl
     rw[e3,e4,e5];simp -implicitDefEqProofs[plT];refine Yd.of Znd (by simp[AV.pure]) ?_;simp -implicitDefEqProofs[]
     ((try simp only[ptA,kF,kV]);refine Ym.sub (by simp[lk,Ya,AV.keys,ptA,kF,kV]) ?_;simp only[ptA,kF,kV,Wkl,and_true];(try simp[lk,Yc,Ya,AV.keys,ptA,kF,kV]))
   . have cS:¬sortI U=[]:=λh=>cU (W0l.1 (by rw[<- sl,h];rfl))
     have e3:nlV 88 (sortI U) = .osl 88 U.length:=(by simp[nlV,cS,sl]);have e4:nlO 88 (sortI U)=[(88,.row 1 ((sortI U).map ia))]:=by simp[nlO,cS]
     have e5:Y = .vsl ((setI U).map ia):=by
      have:¬setI U=[]:=λh=>cU (W1t.2 λx hx=>by have:=ZbC.2 hx;rw[h]at this;cases this)
      rw[hYe,Yg,if_neg (by simpa using this)]
     rw[e3,e4,e5];simp -implicitDefEqProofs[plT];refine Yd.sem (Z1B.byref hcp (λ_=>88) (by simp) (by simp) (by simp[St.get,lk,Zel]) (by simp[Zem]) (by simp[Ya,AV.keys,lk]) rfl (by simp[AV.ren]) rfl rfl) ?_;by_cases hq:(setI U).length=U.length
     . have hOf:=hOf hq;rw[hOf]at *;simp -implicitDefEqProofs[Yl,Zel,hq,AV.ren];refine Ym.trans (Ym.frz (λk=>k == 88) _) ?_
       ((try simp only[Yi,frzA,frzO,frz,Yh,Yj,St.get,AV.pure,ia,ptA,kF,kV,fV,hq]);refine Ym.sub (by simp[lk,Ya,AV.keys,Yi,frzA,frzO,frz,Yh,Yj,St.get,AV.pure,ia,ptA,kF,kV,fV,hq]) ?_;simp only[Yi,frzA,frzO,frz,Yh,Yj,St.get,AV.pure,ia,ptA,kF,kV,fV,hq,Wkl,and_true];(try simp[lk,Yc,Ya,AV.keys,Yi,frzA,frzO,frz,Yh,Yj,St.get,AV.pure,ia,ptA,kF,kV,fV,hq]))
     . simp -implicitDefEqProofs[Yl,rO,hq,AV.ren];refine Ym.trans (Ym.frz (λk=>k == 88) _) ?_
       ((try simp only[Yi,frzA,frzO,frz,Yh,Yj,St.get,AV.pure,ia,ptA,kF,kV,fV,hOl,hOt]);refine Ym.sub (by simp[lk,Ya,AV.keys,Yi,frzA,frzO,frz,Yh,Yj,St.get,AV.pure,ia,ptA,kF,kV,fV,hOl,hOt]) ?_;simp only[Yi,frzA,frzO,frz,Yh,Yj,St.get,AV.pure,ia,ptA,kF,kV,fV,hOl,hOt,Wkl,and_true];(try simp[lk,Yc,Ya,AV.keys,Yi,frzA,frzO,frz,Yh,Yj,St.get,AV.pure,ia,ptA,kF,kV,fV,hOl,hOt]))
 refine ZjE H hY 2 (d:=99) (f:=.t 97) (ys:=[.t 98]) (gd:=none) rfl (xs:=[.agg [V,Y]])
  ((98,.agg [V,Y])::(97,.func (.yield l') [] [])::plT F (.vsl (S.map ptA)) k l' i) ⟨(100,.bool false)::plT F (.vsl (S.map ptA)) k l' i,[]⟩ [] [(100,.bool true)] (W0C rfl) ?_ ?_ ?_ ?_ rfl rfl ?_ ?_ ?_ ?_ ?_ ?_
 . rw[W09,W09,hat,W0m,W0m,hpv]
 . intro x hx;simp only[W0g,W0Q,or_false]at hx;subst hx;simp[AV.pure,pV,pY]
 . intro q hq;simp only[W0g]at hq;rcases hq with rfl|rfl|hq
   . simp[AV.pure,pV,pY]
   . simp[AV.pure]
   . exact pT i q hq
 . simp -implicitDefEqProofs[plT]
   ((try simp only[ptA,kF,kV,AV.pure_keys _ pY]);refine Ym.sub (by simp[lk,Ya,AV.keys,ptA,kF,kV,AV.pure_keys _ pY]) ?_;simp only[ptA,kF,kV,AV.pure_keys _ pY,Wkl,and_true];(try simp[lk,Yc,Ya,AV.keys,ptA,kF,kV,AV.pure_keys _ pY]))
 . rfl
 . simp -implicitDefEqProofs[plT];exact (by (first|exact Wka|exact Wkb))
 . refine ZjA .normal ⟨plT F (.vsl (S.map ptA)) k l' i,[]⟩ (λM A=>?_) ⟨rfl,ZjA .normal ⟨plT F (.vsl (S.map ptA)) k l' (i+1),[]⟩ (λM A=>?_) ⟨i+1,rfl,rfl,by omega,by omega⟩⟩
   . refine Qga ?_;simp -implicitDefEqProofs[plT];exact (by (first|exact Wka|exact Wkb))
   . refine Qga ?_;simp -implicitDefEqProofs[plT,wi];exact (by (first|exact Wka|exact Wkb))
 . intro q hq
   cases hq
 . simp -implicitDefEqProofs[];exact (by (first|exact Wka|exact Wkb))
 . intro A;refine Qga ?_;simp -implicitDefEqProofs[];exact (by (first|exact Wka|exact Wkb))
def Znf (r:Jr) (l:Jl) (hs:Jh) (ps S:Jp) (hnS:(S.map (·.no)).Nodup) (hS:S.length<=41) (h6:hs.length<=6) (hdl:(nums r).Pairwise (· < ·)) (hd:∀ x∈S,x.dw∈nums r) :
  IterG prog G 179 [.vptr [ofA r l hs ps] 0,.vptr [Yg (S.map ptA)] 0] ((plE (hs.map (·.id)) (nums r) S).map pvA) :=
 (Zne r l hs ps S hnS hS h6 hdl hd).sub ⟨.rfl',.vptr ⟨.orNil _,trivial⟩,trivial⟩
section
open Qq Go.Proofs.Tryz
def Zng:RCode :=
 S [r 0 [b 2 0,n 4 .nils,n 5 .nils,n 6 O],r 1 [L 10 4 2,m 11 1,w 12 (.call 89 [.t 10,.t 11,.c I]),m 9 12,x 13 0 9,x 14 1 9,m 7 13,m 6 14],S [r 2 [m 15 6,k 16 .neq 15 O],K 16 3 [m 17 6,n 4 .nils,n 5 .nils,m 6 17]],r 4 [m 18 7,m 19 7,m 20 1,c 21 91 [19,20],c 22 95 [18,21],w 8 (.alloc [.nils,.nils]),s 2 8 22],R 5 [f 23 0 8,a [0] (l 24 23),f 25 1 8,a [2] (l 26 25),a [1,0,1] (m 4 24),a [3,4,0,1,2,3,4] (m 5 26),a [5,0,1,2,3,4,5] (n 6 O)],.ret]
def Znh:List RRes:=[.t 4,.t 5,.t 6]
def Zni:PCt prog 36 f36 Zng Znh:=pcT func36 rfl
def Znj:RCode :=
 S [r 0 [b 2 0,n 4 .nils,n 5 O],r 1 [L 10 4 2,m 11 1,w 12 (.call 89 [.t 10,.t 11,.c I]),m 9 12,x 13 0 9,x 14 1 9,m 6 13,m 7 14],S [r 2 [m 15 7,k 16 .neq 15 O],K 16 3 [m 17 7,n 4 .nils,m 5 17]],r 4 [m 18 6,m 19 1,c 20 91 [18,19],m 8 20],r 5 [m 21 8,m 22 6,m 23 8,c 24 95 [22,23],c 25 98 [24],w 26 (.call 97 [.t 21,.t 25,.c .nils]),c 27 90 [26],m 4 27,n 5 O],.ret]
def Znk:List RRes:=[.t 4,.t 5]
def Znl:PCt prog 38 f38 Znj Znk:=pcT func38 rfl
end
def Znn {x:Prt} {t:Jp} {m:Nat} {tk:Jp} (h:tk.any (clP x)=true):apD (x::t) (m+1) tk=apD t (m+1) tk:=by
 rw[apD,if_pos h]
def Zno {x:Prt} {t:Jp} {m:Nat} {tk o:Jp} (h:tk.any (clP x)=false) (h2:apD t m (tk++[x])=some o):apD (x::t) (m+1) tk=some o:=by
 rw[apD,if_neg (by simp[h]),h2]
def Znp {x:Prt} {t:Jp} {m:Nat} {tk:Jp} (h:tk.any (clP x)=false) (h2:apD t m (tk++[x])=none):apD (x::t) (m+1) tk=apD t (m+1) tk:=by
 rw[apD,if_neg (by simp[h]),h2]
def apR (l:Jp) (m:Nat) (tk:Jp):List Prt:=(apD l m tk).getD []
def Znq {l:Jp} {m:Nat} {tk o:Jp} (h:apD l m tk=some o) (ht:tk≠[]):o≠[]:=by
 obtain ⟨M,h1,-⟩:=ZbI h;rw[h1];simp[ht]
def apS (W:AV) (l:Jp) (m i:Nat):St:=⟨[(15,.int .i64 i),(14,.int .i64 l.length),(13,.vsl (l.map ptA)),(0,.vsl (l.map ptA)),(1,.int .i64 (m+1:Nat)),(2,W)],[]⟩
def Znr:PC prog G 155 [.nils] .nils:=by
 refine PC_of Tryz.func155 rfl (by kernel_rfl) (rc:=Zgr) (by kernel_rfl) (rs:=Zgs) (by kernel_rfl) (W0C rfl) λR _ hG hrd=>Qga ?_
 subst hG;simp -implicitDefEqProofs[Zgr,Zgs]
def Zns:∀ (m:Nat) (l tk:Jp),m<=1000->l.length+tk.length<=100->PC prog G 97 [.vsl (l.map ptA),.int .i64 m,Yg (tk.map ptA)] (Yg ((apR l m tk).map ptA))
 | 0,l,tk,_,hl=>by
   have e:apR l 0 tk=tk:=(by unfold apR;cases l <;> rfl);rw[e];have pW:=ZmA tk;have sW:=ZmB tk;generalize Yg (tk.map ptA)=W at *
   (refine Zgv rfl λR hG hrd=>Qga ?_;subst hG)
   simp -implicitDefEqProofs[Zgt,Zgu,sW]
 | m + 1,l,tk,hm,hl=>by
   have ih:=λi x=>Zns m (l.drop (i+1)) (tk++[x]) (by omega)
   have pW:=ZmA tk;have kW:=AV.pure_keys _ pW;have wm:i64.wrap (((m+1:Nat):Int)-1)=(m:Int):=(by rw[Yf (by omega) (by omega)];omega);have cC:=λx=>PC.sub (ZmX (G:=G) 154 [.vptr (ptA x) 0] (clP x) tk (by simp[AV.pure]) (by unfold Sml;omega) λy _=>ZmY x y) (xs:=[Yg (tk.map ptA),.func (.func 154) [] [.vptr (ptA x) 0]]) ⟨.orNil _,.rfl',trivial⟩
   obtain ⟨W,hW⟩:=Qex (Yg (tk.map ptA));rw[<- hW]at cC pW kW ⊢;refine Zgv rfl λR hG' hrd=>?_
   subst hG';refine Qga ?_;have hm0:¬((m:Int)+1=0):=(by omega);simp -implicitDefEqProofs[Zgt,Zgu,hm0];refine Z8g (apS W l m) (λi=>apD l (m+1) tk=apD (l.drop i) (m+1) tk) l.length ?_ (by simp) ?_ ?_
   . simp only[apS]
     ((try simp only[kW]);refine Ym.sub (by simp[lk,Ya,AV.keys,kW]) ?_;simp only[kW,Wkl,and_true];(try simp[lk,Yc,Ya,AV.keys,kW]))
   . intro i hi hI;have wi:i64.wrap ((i:Int)+1)=((i+1:Nat):Int):=Yf;rw[W0x hi]at hI;obtain ⟨x,hx⟩:=Qex (l[i]);rw[<- hx]at hI;have hlx:l[i]=x:=hx.symm;have cC:=cC x;have ih:=ih i x (by simp;omega);have hpt:ptA x=[.int .i64 x.no,.int .i64 x.dy,.int .i64 x.ho,.int .i64 x.dw,.int .i64 x.lt,.int .i64 x.bk,.int .u8 x.lo]:=rfl;rw[hpt]at cC;have sW:∀ ok st,Yh ok st 6 W=some W:=λok st=>by rw[hW];exact ZmB tk ok st
     refine Yb mixed 20 ?_;simp -implicitDefEqProofs[apS,hi,hlx,hpt];refine Yd.flat cC (by simp[AV.flat]) (by simp[Yj,snap,Yh,sW,St.get,lk,okAll,AV.pure]) ?_
     cases hc:tk.any (clP x)
     case true =>
      simp -implicitDefEqProofs[wi];refine Qgr ?_;simp -implicitDefEqProofs[wi];refine ⟨?_,hI.trans (Znn hc)⟩;simp only[apS]
      ((try simp only[kW]);refine Ym.sub (by simp[lk,Ya,AV.keys,kW]) ?_;simp only[kW,Wkl,and_true];(try simp[lk,Yc,Ya,AV.keys,kW]))
     have wm2:i64.wrap (m:Int)=(m:Int):=Yf;have hi0:(0:Int)<=(i:Int)+1:=(by omega);have hp7:∀ x:Prt,(ptA x).length=7:=λ_=>rfl
     have htk:(l.map ptA).take l.length=l.map ptA:=W0J (by simp);have hlm:i+1<=l.length:=hi;have lx:(l.drop (i+1)).map ptA=(l.map ptA).drop (i+1):=List.map_drop
     have eT:Yg ((tk++[x]).map ptA) = .vsl (tk.map ptA++[ptA x]):=by
      unfold Yg;rw[if_neg (by simp),W0r];rfl
     rw[lx,eT]at ih;have pQ:(Yg ((apR (l.drop (i+1)) m (tk++[x])).map ptA)).pure=true:=ZmA _;have kQ:=AV.pure_keys _ pQ
     have hQ:Yg ((apR (l.drop (i+1)) m (tk++[x])).map ptA)=match apD (l.drop (i+1)) m (tk++[x]) with|some o=>.vsl (o.map ptA)|none=>.nils:=by
      unfold apR
      cases e:apD (l.drop (i+1)) m (tk++[x]) with
      |none=>rfl
      | some o =>
        have:=Znq e (by simp);simp only[W0P,Yg];rw[if_neg (by simpa using this)]
     obtain ⟨Q,hQe⟩:=Qex (Yg ((apR (l.drop (i+1)) m (tk++[x])).map ptA));rw[<- hQe]at ih pQ kQ hQ;simp -implicitDefEqProofs[];have bb:(tk.length+1)*56<=70368744177664:=(by omega);have pT:∀ L:List Prt,(L.map ptA).all (λr=>r.all AV.pure)=true:=λL=>by simp[ptA,AV.pure]
     by_cases c0:tk=[]
     . have eW:W = .nils:=(by rw[hW,c0];rfl);rw[eW];refine GO0 (Znm mixed 11 (by decide +kernel) ?_);simp only[W1Z,W1g,W1D,W1P]
       iterate 7 (rw[RE_op (by simp[wants]) (by simp[Z1y])];simp -implicitDefEqProofs[execE,wi,wm,wm2,hlm,hi0,hp7,htk])
       rw[ZkC (by simp[wants])];simp -implicitDefEqProofs[];refine CallE.of Znr (by simp[AV.pure]) ?_
       iterate 3 (rw[RE_op (by simp[wants]) (by simp[Z1y])];simp -implicitDefEqProofs[execE,hpt])
       refine ⟨rfl,⟨[(33,.vsl (tk.map ptA++[ptA x])),(28,.int .i64 m),(26,.vsl ((l.map ptA).drop (i+1))),(15,.int .i64 i),(14,.int .i64 l.length),(13,.vsl (l.map ptA)),(0,.vsl (l.map ptA)),(1,.int .i64 (m+1:Nat)),(2,.nils)],[]⟩,Ym.trans (Ym.frz (λk=>k == 33) _) ?_,?_⟩
       . simp only[c0]
         ((try simp only[Yi,frzA,frzO,frz,Yh,Yj,St.get,AV.pure,ptA]);refine Ym.sub (by simp[lk,Ya,AV.keys,Yi,frzA,frzO,frz,Yh,Yj,St.get,AV.pure,ptA]) ?_;simp only[Yi,frzA,frzO,frz,Yh,Yj,St.get,AV.pure,ptA,Wkl,and_true];(try simp[lk,Yc,Ya,AV.keys,Yi,frzA,frzO,frz,Yh,Yj,St.get,AV.pure,ptA]))
       rw[ZkC (by simp[wants])];simp -implicitDefEqProofs[];refine CallE.of ih (by simp[AV.pure,ptA]) ?_;rw[RE_op (by simp[wants]) (by simp[Z1y])];simp -implicitDefEqProofs[execE];refine ⟨rfl,?_⟩
       cases e:apD (l.drop (i+1)) m (tk++[x]) with
       | some o =>
         rw[e]at hQ;have hQ:Q = .vsl (o.map ptA):=hQ;have ho:¬o=[]:=Znq e (by simp);have eR:apR l (m+1) tk=o:=(by unfold apR;rw[hI,Zno hc e];rfl);have pO:=pT o;refine Qgr ?_;simp -implicitDefEqProofs[hQ,ho,eR,Yg];refine Qgr ?_;simp -implicitDefEqProofs[pT o,ptA]
       | none =>
         rw[e]at hQ;have hQ:Q = .nils:=hQ;refine Qgr ?_;simp -implicitDefEqProofs[hQ,wi];refine ⟨?_,hI.trans (Znp hc e)⟩;simp only[apS]
         ((try simp only[kW]);refine Ym.sub (by simp[lk,Ya,AV.keys,kW]) ?_;simp only[kW,Wkl,and_true];(try simp[lk,Yc,Ya,AV.keys,kW]))
     . have eW:W = .vsl (tk.map ptA):=(by rw[hW,Yg,if_neg (by simpa using c0)]);rw[eW];refine GO0 (Znm mixed 11 (by decide +kernel) ?_);simp only[W1Z,W1g,W1D,W1P]
       iterate 7 (rw[RE_op (by simp[wants]) (by simp[Z1y])];simp -implicitDefEqProofs[execE,wi,wm,wm2,hlm,hi0,hp7,htk])
       rw[ZkC (by simp[wants])];simp -implicitDefEqProofs[];refine CallE.new (NewS.of (ZmZ tk c0 (by unfold Sml;omega)) (λ_=>30) (by simp) (by simp[St.get,lk]) (by simp[AV.pure,ptA]) rfl) ?_;simp -implicitDefEqProofs[Yl,Zmv,AV.ren]
       iterate 3 (rw[RE_op (by simp[wants]) (by simp[Z1y])];simp -implicitDefEqProofs[execE,hpt,bb])
       refine ⟨rfl,⟨[(33,.vsl (tk.map ptA++[ptA x])),(28,.int .i64 m),(26,.vsl ((l.map ptA).drop (i+1))),(15,.int .i64 i),(14,.int .i64 l.length),(13,.vsl (l.map ptA)),(0,.vsl (l.map ptA)),(1,.int .i64 (m+1:Nat)),(2,.vsl (tk.map ptA))],[]⟩,Ym.trans (Ym.frz (λk=>k == 30) _) ?_,?_⟩
       . ((try simp only[Yi,frzA,frzO,frz,Yh,Yj,St.get,AV.pure,ptA]);refine Ym.sub (by simp[lk,Ya,AV.keys,Yi,frzA,frzO,frz,Yh,Yj,St.get,AV.pure,ptA]) ?_;simp only[Yi,frzA,frzO,frz,Yh,Yj,St.get,AV.pure,ptA,Wkl,and_true];(try simp[lk,Yc,Ya,AV.keys,Yi,frzA,frzO,frz,Yh,Yj,St.get,AV.pure,ptA]))
       rw[ZkC (by simp[wants])];simp -implicitDefEqProofs[];refine CallE.of ih (by simp[AV.pure,ptA]) ?_;rw[RE_op (by simp[wants]) (by simp[Z1y])];simp -implicitDefEqProofs[execE];refine ⟨rfl,?_⟩
       cases e:apD (l.drop (i+1)) m (tk++[x]) with
       | some o =>
         rw[e]at hQ;have hQ:Q = .vsl (o.map ptA):=hQ;have ho:¬o=[]:=Znq e (by simp);have eR:apR l (m+1) tk=o:=(by unfold apR;rw[hI,Zno hc e];rfl);refine Qgr ?_;simp -implicitDefEqProofs[hQ,ho,eR,Yg];refine Qgr ?_;simp -implicitDefEqProofs[pT o,ptA]
       | none =>
         rw[e]at hQ;have hQ:Q = .nils:=hQ;refine Qgr ?_;simp -implicitDefEqProofs[hQ,wi];refine ⟨?_,hI.trans (Znp hc e)⟩;simp only[apS]
         ((try simp only[kW]);refine Ym.sub (by simp[lk,Ya,AV.keys,kW]) ?_;simp only[kW,Wkl,and_true];(try simp[lk,Yc,Ya,AV.keys,kW]))
   . intro hI
     have e:apR l (m+1) tk=[]:=by
      unfold apR;rw[hI,List.drop_length];rfl
     refine Qga ?_;simp -implicitDefEqProofs[apS];refine Qgr ?_;simp -implicitDefEqProofs[e,Yg]
def ca7E (r:Jr) (l:Jl) (hs:Jh) (ps:Jp) (day:Int):List Int×List Int:=if as7 r l hs ps day 1=0 then caE (hs.map (·.id)) (nums r) (staL l hs ps day) else ([],[])
def ca7A (r:Jr) (l:Jl) (hs:Jh) (ps:Jp) (day:Int):AV:=.tup [Yg ((ca7E r l hs ps day).1.map ia),Yg ((ca7E r l hs ps day).2.map ia),.int .i64 (as7 r l hs ps day 1)]
def pr7E (r:Jr) (l:Jl) (hs:Jh) (ps:Jp) (day:Int):List Int:=if as7 r l hs ps day 1=0 then (apR (staL l hs ps day) (szP (caE (hs.map (·.id)) (nums r) (staL l hs ps day))) []).map (·.no) else []
def pr7A (r:Jr) (l:Jl) (hs:Jh) (ps:Jp) (day:Int):AV:=.tup [Yg ((pr7E r l hs ps day).map ia),.int .i64 (as7 r l hs ps day 1)]
def Znt {r:Jr} {hs:Jh} {L:Jp} (h6:hs.length<=6) (h60:r.length<=60):(caE (hs.map (·.id)) (nums r) L).1.length<=6/\(caE (hs.map (·.id)) (nums r) L).2.length<=60:=by
 obtain ⟨s,-,e⟩:=Zc0 (hs.map (·.id)) (nums r) L;rw[e,plN];refine ⟨?_,?_⟩
 . show (bitL _ s).length<=6;rw[ZiL];have:=ZfC (hs.map (·.id)) s (hs.map (·.id)).length;rw[W0N]at this;show (sbN _ s (hs.map (·.id)).length).length<=6;rw[W0N];omega
 . exact W0O (W0D ..) (W0O (Z8H r) h60)
def Nsub.tup {xs ys:List AV} (h:NsubL xs ys):Nsub (.tup xs) (.tup ys):=λM W u hu=>by
 cases hu with
 | tup _ us h1 hx =>
   refine .tup ys us (by rw[h1,h.len]) λi y u hy hu=>?_
   obtain ⟨x,h2,h3⟩:=h.at i y hy;exact h3 _ _ _ (hx i x u h2 hu)
structure Cl7 (r:Jr) (hs:Jh) (ps:Jp):Prop where
 h6:hs.length<=6
 n60:r.length<=60
 ne:r≠[]
 no:(ps.map (·.no)).Nodup
 dl:(nums r).Pairwise (· < ·)
def Znu {r:Jr} {l:Jl} {hs:Jh} {ps:Jp} (h:ck7 r l hs ps=0):Cl7 r hs ps:=by
 obtain ⟨h1,h2⟩:=ZjP.1 h;obtain ⟨⟨q1,-⟩,-,q3,-⟩:=ZiW.1 h2;have hL:=ZiN (ZjQ h1);refine ⟨q1,(Zav hL).2,Zla (ZjQ h1),?_,Z8L (Z8J hL)⟩;rw[List.Nodup,W2o];exact q3.imp λh=>by omega
def Znv (r:Jr) (l:Jl) (hs:Jh) (ps:Jp) (day:Int) (hw:WfP hs ps) (h0:ck7 r l hs ps=0) :
  PC prog G 95 [ofA r l hs ps,Yg ((staL l hs ps day).map ptA)] (pvA (caE (hs.map (·.id)) (nums r) (staL l hs ps day))):=by
 obtain ⟨h6,n60,-,hno,hdl⟩:=Znu h0;have hsub:(staL l hs ps day).Sublist ps:=(by unfold staL;exact List.filter_sublist);have hpl:=hw.pl;have hle:=hsub.length_le;have hit:=Znf (G:=G) r l hs ps (staL l hs ps day) (hno.sublist (hsub.map _)) (by omega) h6 hdl λx hx=>(Zm3 h0 (hsub.subset hx)).2
 have:=ZmV (G:=G) r l hs ps (staL l hs ps day) _ hit λp hp=>by
  unfold plE at hp;obtain ⟨v,hv,rfl⟩:=W0i.1 hp;rw[plN];refine ⟨?_,?_⟩
  . show (bitL _ v).length<=100;rw[ZiL];have:=ZfC (hs.map (·.id)) v (hs.map (·.id)).length;rw[W0N]at this;show (sbN _ v (hs.map (·.id)).length).length<=100;rw[W0N];omega
  . exact W0O (W0D ..) (W0O (Z8H r) (by omega))
 rwa [ZmT]at this
def Znw (hG:GC G) (hN:GN G) (hP:GP G) (r:Jr) (l:Jl) (hs:Jh) (ps:Jp) (day:Int) (hl:WfN l) (hr:Wf r) (hd:Sml (nums r)) (hw:WfP hs ps) :
  PC prog G 36 [prA r l hs ps,.int .i64 day] (ca7A r l hs ps day):=by
 have ha:=ZjT hG hN hP r l hs ps day 1 hl hr hd hw;have pO:=ZiZ r l hs ps;unfold asP at ha;unfold ca7A ca7E;by_cases h0:as7 r l hs ps day 1=0
 case neg =>
  rw[if_neg h0]at ha ⊢;unfold prA at *
  (refine Zni rfl λR hG hrd=>Qga ?_;subst hG)
  simp -implicitDefEqProofs[Zng,Znh];refine Qco (ha) ?_;simp -implicitDefEqProofs[h0,Yg]
 have k0:=(Zlj h0).1;have c1:=Zmy hG hN r l hs ps day hl hr hd hw k0;have c2:=Znv (G:=G) r l hs ps day hw k0;have pS:=ZmA (staL l hs ps day);rw[if_pos h0,h0]at ha;rw[if_pos h0,h0];generalize caE (hs.map (·.id)) (nums r) (staL l hs ps day)=c at *;unfold pvA at c2;have d1:=ZmP c.1;have d2:=ZmP c.2;generalize Yg (c.1.map ia)=V1 at *;generalize Yg (c.2.map ia)=V2 at *;generalize Yg ((staL l hs ps day).map ptA)=W at *;unfold prA at *;rcases d1 with rfl|rfl <;> rcases d2 with rfl|rfl
 all_goals
  (refine Zni rfl λR hG hrd=>Qga ?_;subst hG)
  simp -implicitDefEqProofs[Zng,Znh];refine Qco (ha) ?_;simp -implicitDefEqProofs[];refine Yd.of c1 (by simp[pO,AV.pure]) ?_;simp -implicitDefEqProofs[];refine Yd.of c2 (by simp[pO,pS]) ?_;simp -implicitDefEqProofs[ia]
  try rfl
def Znx (hG:GC G) (hN:GN G) (hP:GP G) (r:Jr) (l:Jl) (hs:Jh) (ps:Jp) (day:Int) (hl:WfN l) (hr:Wf r) (hd:Sml (nums r)) (hw:WfP hs ps) :
  PC prog G 38 [prA r l hs ps,.int .i64 day] (pr7A r l hs ps day):=by
 have ha:=ZjT hG hN hP r l hs ps day 1 hl hr hd hw;have pO:=ZiZ r l hs ps;unfold asP at ha;unfold pr7A pr7E;by_cases h0:as7 r l hs ps day 1=0
 case neg =>
  rw[if_neg h0]at ha ⊢;unfold prA at *
  (refine Znl rfl λR hG hrd=>Qga ?_;subst hG)
  simp -implicitDefEqProofs[Znj,Znk];refine Qco (ha) ?_;simp -implicitDefEqProofs[h0,Yg]
 have k0:=(Zlj h0).1;obtain ⟨h6,n60,-,-,-⟩:=Znu k0;have hpl:=hw.pl;have hle:=ZmC (l:=l) (hs:=hs) (ps:=ps) (day:=day);have hcl:=Znt (r:=r) (hs:=hs) (L:=staL l hs ps day) h6 n60;have c1:=Zmy hG hN r l hs ps day hl hr hd hw k0;have c2:=Znv (G:=G) r l hs ps day hw k0;have pS:=ZmA (staL l hs ps day);rw[if_pos h0,h0]at ha;rw[if_pos h0,h0]
 have hRl:∀ m,(apR (staL l hs ps day) m []).length<=100:=λm=>by
  unfold apR
  cases e:apD (staL l hs ps day) m [] with
  |none=>simp
  | some o =>
    obtain ⟨M,h1,h2,-⟩:=ZbI e;have:=h2.length_le;simp only[W0P,h1,W18];omega
 generalize caE (hs.map (·.id)) (nums r) (staL l hs ps day)=c at *;have c3:=PC.sub (ZmH (G:=G) c.1 c.2 (by unfold Sml;omega) (by unfold Sml;omega)) (xs:=[.agg [Yg (c.1.map ia),Yg (c.2.map ia)]]) ⟨.agg ⟨.orNil _,.orNil _,trivial⟩,trivial⟩;have c4:=PC.sub (Zns (G:=G) (szP c) (staL l hs ps day) [] (by unfold szP;omega) (by simp;omega)) (xs:=[Yg ((staL l hs ps day).map ptA),.int .i64 (szP c:Nat),.nils]) ⟨.orNil _,.rfl',.rfl',trivial⟩;have c5:=PC.sub (Zm6 (G:=G) (apR (staL l hs ps day) (szP c) []) (hRl _)) (xs:=[Yg ((apR (staL l hs ps day) (szP c) []).map ptA)]) ⟨.orNil _,trivial⟩;rw[Zmz]at c5;have sV:=Zm1 ((apR (staL l hs ps day) (szP c) []).map (·.no));have pA:=ZmA (apR (staL l hs ps day) (szP c) []);unfold pvA at c2;have p1:=Zkq c.1;have p2:=Zkq c.2;generalize Yg (((apR (staL l hs ps day) (szP c) []).map (·.no)).map ia)=V at *;generalize Yg ((apR (staL l hs ps day) (szP c) []).map ptA)=Q at *;generalize Yg ((staL l hs ps day).map ptA)=W at *;have eS:c.1.length+c.2.length=szP c:=rfl;rw[eS]at c3;generalize Yg (c.1.map ia)=V1 at *;generalize Yg (c.2.map ia)=V2 at *;unfold prA at *
 (refine Znl rfl λR hG hrd=>Qga ?_;subst hG)
 simp -implicitDefEqProofs[Znj,Znk];refine Qco (ha) ?_;simp -implicitDefEqProofs[];refine Yd.of c1 (by simp[pO,AV.pure]) ?_;simp -implicitDefEqProofs[];refine Yd.of c2 (by simp[pO,pS]) ?_;simp -implicitDefEqProofs[];refine Yd.of c3 (by simp[AV.pure,p1,p2]) ?_;simp -implicitDefEqProofs[];refine Yd.of c4 (by simp[AV.pure,pS]) ?_;simp -implicitDefEqProofs[];refine Yd.of c5 (by simp[pA]) ?_;simp -implicitDefEqProofs[sV]
def misI (l:Jl) (hs:Jh) (ps:Jp) (day id:Int):List Rf:=match hoF hs id with
 |some h=>misL l h ps day
 |none=>[]
def msE (r:Jr) (l:Jl) (hs:Jh) (ps:Jp) (day id:Int):List Rf:=if ab7 r l hs ps day 1 id []=0 then misI l hs ps day id else []
def msA (r:Jr) (l:Jl) (hs:Jh) (ps:Jp) (day id:Int):AV:=.tup [Yg ((msE r l hs ps day id).map ita),.int .i64 (ab7 r l hs ps day 1 id [])]
def rlV (k:Nat) (S:List Rf):AV:=if S=[] then .nils else .osl k S.length
def rlO (k:Nat) (S:List Rf):List (Nat×AObj):=if S=[] then [] else [(k,.row 2 (S.map ita))]
def msB (id:Int) (W:List Rf):List (Nat×AObj):=[(1005,.box [.int .i64 id]),(1010,.box [.mp 1029]),(1029,.mp (rfS W))]
def mi1 (W:List Rf) (d:Int) (P:List Int) (q:Nat):List Rf:=((P.take q).filter λn=>!decide ((d,n)∈W)).map λn=>(d,n)
def miK (W:List Rf) (f:Int->List Int) (D:List Int) (i:Nat):List Rf:=(D.take i).flatMap λd=>mi1 W d (f d) (f d).length
def Zny {W:List Rf} {f:Int->List Int} {D:List Int} {i:Nat} (h:i<D.length):miK W f D (i+1)=miK W f D i++mi1 W D[i] (f D[i]) (f D[i]).length:=by
 unfold miK;rw[W08 h,List.flatMap_append];simp
def Znz {W:List Rf} {d:Int} {P:List Int} {q:Nat}:(mi1 W d P q).length<=P.length:=by
 unfold mi1;rw[W0N];exact W0O (W0D ..) (by simp;omega)
def ZnA {W:List Rf} {d:Int} {P:List Int} {q:Nat} (h:q<P.length):mi1 W d P (q+1)=if (d,P[q])∈W then mi1 W d P q else mi1 W d P q++[(d,P[q])]:=by
 unfold mi1;rw[W08 h,W1a,W0r];by_cases c:(d,P[q])∈W
 . simp[c]
 . simp[c]
def ZnB {W:List Rf} {f:Int->List Int} {D:List Int} (hf:∀ d,(f d).length<=8):∀ i,(miK W f D i).length<=8*i
 |0=>by simp[miK]
 | i + 1=>by
   have:=ZnB (W:=W) (D:=D) hf i;by_cases h:i<D.length
   . rw[Zny h,W0s];have:=Znz (W:=W) (d:=D[i]) (P:=f D[i]) (q:=(f D[i]).length);have:=hf D[i];omega
   . have e:miK W f D (i+1)=miK W f D i:=(by unfold miK;rw[W0J (by omega),W0J (by omega)]);rw[e];omega
def ms1 (O:AV) (id:Int) (W:List Rf) (D:List Int) (U:List Rf) (i:Nat):St :=
 ⟨[(59,.int .i64 i),(58,.int .i64 D.length),(57,.vsl (D.map ia)),(13,rlV 82 U),(8,O),(5,.ptr 5 0),(10,.ptr 10 0)],[(5,.box [.int .i64 id]),(10,.box [.mp 29]),(29,.mp (rfS W))]++rlO 82 U⟩
def ms2 (O:AV) (id:Int) (W:List Rf) (D:List Int) (d:Int) (P:List Int) (U:List Rf) (i q:Nat):St :=
 ⟨[(68,.int .i64 q),(67,.int .i64 P.length),(66,.vsl (P.map ia)),(15,.int .i64 d),(59,.int .i64 i),(58,.int .i64 D.length),(57,.vsl (D.map ia)),(13,rlV 82 U),(8,O),(5,.ptr 5 0),(10,.ptr 10 0)],[(5,.box [.int .i64 id]),(10,.box [.mp 29]),(29,.mp (rfS W))]++rlO 82 U⟩
def ZnC (hG:GC G) (hN:GN G) (hP:GP G) (r:Jr) (l:Jl) (hs:Jh) (ps:Jp) (day id:Int) (hl:WfN l) (hr:Wf r) (hd:Sml (nums r)) (hw:WfP hs ps) :
  PC prog G 29 [prA r l hs ps,.int .i64 day,.int .i64 id] (msA r l hs ps day id):=by
 have ha0:=ZjV hG hN hP r l hs ps day 1 id [] hl hr hd hw (by simp[Sml]);have ha:=PC.sub ha0 (xs:=[prA r l hs ps,.int .i64 day,.int .i64 1,.int .i64 id,.nils]) ⟨.rfl',.rfl',.rfl',.rfl',.nils,trivial⟩;have pO:=ZiZ r l hs ps;unfold abP at ha;unfold msA msE;by_cases h0:ab7 r l hs ps day 1 id []=0
 case neg =>
  rw[if_neg h0]at ha ⊢;unfold prA at *
  (refine Zh3 rfl λR hG hrd=>Qga ?_;subst hG)
  simp -implicitDefEqProofs[Zh1,Zh2];refine Qco (ha) ?_;simp -implicitDefEqProofs[h0,Yg]
 obtain ⟨q1,q2,-⟩:=Zlk h0;have k0:=(Zlj q1).1;rw[if_pos h0,h0]at ha;rw[if_pos h0,h0];have hhl:=hw.hl;have c1:=Zjk (G:=G) r l hs ps id (by unfold Sml;omega);obtain ⟨k,hk,e1,e2⟩:=ZlO q2;rw[e1]at c1;have hdl:=hw.dl _ (W0e hk);have hds:=Zm0 k0 (W0e hk);obtain ⟨h,hh⟩:=Qex (hs[k]);rw[<- hh]at hdl hds e2;have hlk:hs[k]=h:=hh.symm;have hid:h.id=id:=(ZiX e2).2;have hop:=ZjQ (ZjP.1 k0).1;have hB:=Zfi (ZjP.1 k0).1;have eN:∀ d,ndI l hs id d=ndsL l h d:=λd=>by unfold ndI;rw[e2]
 have c2:=λd (hm:d∈h.ds)=>ZlZ hG hN r l hs ps id d hl hr hd hw k0 q2 (hds d hm)
 simp only[eN]at c2;have hnn:∀ d,d∈h.ds->ndsL l h d≠[]:=λd hm=>ZiQ hop hB (hds d hm) hm
 have hn8:∀ d,(ndsL l h d).length<=8:=λd=>by
  unfold ndsL
  split
  . exact W0O (W0D ..) (W0f _)
  . simp
 have hmi:misI l hs ps day id=miK (thK id (outP ps day) (outP ps day).length) (ndsL l h) h.ds h.ds.length:=by
  unfold misI miK misL mi1;rw[e2];simp only[W0v,hid,Zmk]
 rw[hmi];clear hmi;have hO:=Zki (G:=G) r l hs ps day;have hit:=outIt (G:=G) r l hs ps day hw.pl;have eNl:=Zj6 ps day;have hat:=λk x h=>Zj7 (ps:=ps) (day:=day) (k:=k) (x:=x) h
 have hL:(outP ps day).length<=41:=W0O (W0D ..) hw.pl;have hho:hoa h=[.int .i64 h.id,.int .i64 h.fr,.int .i64 h.to,.vsl (h.ds.map ia)]:=rfl;have kO:=Zj0 r l hs ps;have fO:∀ ok st,frz ok st 6 (ofA r l hs ps)=some (ofA r l hs ps):=λok st=>by unfold ofA;simp[frz,AV.keys]
 have eO:ofA r l hs ps = .vptr [.vsl (r.map isa),.vsl (l.map na),.vsl (hs.map hoa),.vsl (ps.map ptA),.vsl ((nums r).map ia)] 0:=rfl;unfold prA at *;generalize outP ps day=L at *;generalize outE ps day=E at *;obtain ⟨O,hOe⟩:=Qex (ofA r l hs ps);rw[<- hOe]at pO kO fO eO c1 ha hO hit;simp only[<- hOe]at c2;clear hOe;refine Zh3 rfl λR hG' hrd=>?_
 subst hG';refine Qga ?_;simp -implicitDefEqProofs[Zh1,Zh2];refine Qco (ha) ?_;simp -implicitDefEqProofs[];refine Yd.of hO (by simp[pO,AV.pure]) ?_;simp -implicitDefEqProofs[]
 refine Zjt hrd (by decide) hit (by simp[evA,St.tmp,lk]) (by simp[AV.pure,pO]) (λk=>k == 12) (by intro k hk;simp at hk;omega) r1K [(5,.ptr 1005 0),(10,.ptr 1010 0)]
  (λk=>msB id (thK id L k)) (λk=>msB id (thK id L (k+1))) (λk=>k<=L.length) (W1f _) ?_ ?_ ?_ ?_ ?_ ?_ ?_ ?_ ?_ ?_ ?_
 . intro k q hq;simp[msB]at hq;rcases hq with rfl|rfl|rfl <;> simp
 . intro k;simp[msB,r1K]
 . intro k;simp[msB,r1K]
 . intro k q hq;simp[msB]at hq ⊢;rcases hq with rfl|rfl|rfl <;> simp[isK,lk]
 . intro k q hq;simp[msB]at hq ⊢;rcases hq with rfl|rfl|rfl <;> exact .inl (by simp[isK,lk])
 . intro k;rfl
 . have e0:thK id L 0=[]:=rfl;have e1:rfS []=[]:=rfl;simp[msB,e0,e1,Yl,r1K,St.set,putO,AObj.ren,AV.ren]
 . intro k q hq;simp[msB]at hq;rcases hq with rfl|rfl|rfl
   . simp[Yc,Ya,AV.keys]
   . simp[msB,Yc,Ya,AV.keys,lk]
   . exact Zmf _ _
 . intro q hq;simp at hq;rcases hq with rfl|rfl
   all_goals
    refine ⟨by simp[lk,AV.ren,r1K],by simp,by simp,λj k hk=>?_⟩;simp[AV.keys]at hk;subst hk;simp[msB,isK,lk]
 . intro k x hx hk R' hG'' hN'';obtain ⟨i,hkl,rfl⟩:=hat k x hx;have sc:=Zmi (id:=id) hkl;obtain ⟨y,hy⟩:=Qex (L[k]);rw[<- hy]at sc ⊢;have hpt:ptA y=[.int .i64 y.no,.int .i64 y.dy,.int .i64 y.ho,.int .i64 y.dw,.int .i64 y.lt,.int .i64 y.bk,.int .u8 y.lo]:=rfl;generalize thK id L k=W at *;generalize thK id L (k+1)=T at *;refine Qga ?_;simp -implicitDefEqProofs[msB,hpt];intro R'' hG3 hN3;refine Qga ?_;by_cases q1:y.ho=id
   case neg =>
    have sc:T=W:=(by rw[sc];simp[thP,q1]);simp -implicitDefEqProofs[hpt,q1];refine ⟨?_,by omega⟩;simp[sc,Yi,Zf7,Zmh,frzA,frz,AV.keys]
   by_cases q3:y.lo=0
   . have sc:T=addU W (y.dw,y.lt):=(by rw[sc];simp[thP,q1,q3]);simp -implicitDefEqProofs[hpt,q1,q3,Zme];refine ⟨?_,by omega⟩;simp[sc,Yi,Zf7,Zmh,frzA,frz,AV.keys]
   . have sc:T=W:=(by rw[sc];simp[thP,q3]);simp -implicitDefEqProofs[hpt,q1,q3];refine ⟨?_,by omega⟩;simp[sc,Yi,Zf7,Zmh,frzA,frz,AV.keys]
 . intro _;rw[eNl];generalize thK id L L.length=W at *;simp -implicitDefEqProofs[msB,Yl,r1K,AV.ren,Zfz,Zmg];refine Qgr ?_;simp -implicitDefEqProofs[eO];rw[<- eO];refine Ye.of c1 (by simp[pO,AV.pure]) ?_;simp -implicitDefEqProofs[hk,hlk,hho];refine ⟨rfl,?_⟩;generalize hDe:h.ds=D at *;obtain ⟨f,hf⟩:=Qex (ndsL l h);rw[<- hf]at c2 hnn hn8 ⊢;clear hf;refine Z8g (λi=>ms1 O id W D (miK W f D i) i) (λ_=>True) D.length ?_ trivial ?_ ?_
   . have e0:miK W f D 0=[]:=rfl;simp only[ms1,e0,rlV,rlO,if_true,W1G]
     ((try simp only[kO]);refine Ym.sub (by simp[lk,Ya,AV.keys,kO]) ?_;simp only[kO,Wkl,Zmf,and_true];(try simp[lk,Yc,Ya,AV.keys,kO]))
   . intro i hi _;have wi:i64.wrap ((i:Int)+1)=(i:Int)+1:=Yf;have sc:=Zny (W:=W) (f:=f) hi;have hle:=ZnB (W:=W) (D:=D) hn8 i;obtain ⟨d,hde⟩:=Qex (D[i]);have hm:d∈D:=(by rw[hde];exact W0e hi);rw[<- hde]at sc;have hld:D[i]=d:=hde.symm;have c2:=c2 d hm;have hnn:=hnn d hm;have hn8:=hn8 d;obtain ⟨P,hPe⟩:=Qex (f d);rw[<- hPe]at c2 hnn hn8 sc;have oP:Yg (P.map ia) = .vsl (P.map ia):=(by unfold Yg;rw[if_neg (by simpa using hnn)]);rw[oP]at c2;obtain ⟨U,hU⟩:=Qex (miK W f D i);obtain ⟨U2,hU2⟩:=Qex (miK W f D (i+1));rw[<- hU]at sc hle;rw[<- hU2]at sc;have hw2:ms1 O id W D (miK W f D (i+1)) (i+1)=⟨[(59,.int .i64 (i+1:Nat)),(58,.int .i64 D.length),(57,.vsl (D.map ia)),(13,rlV 82 U2),(8,O),(5,.ptr 5 0),(10,.ptr 10 0)],[(5,.box [.int .i64 id]),(10,.box [.mp 29]),(29,.mp (rfS W))]++rlO 82 U2⟩:=(by rw[ms1,<- hU2]);obtain ⟨S2,hS2⟩:=Qex (ms1 O id W D (miK W f D (i+1)) (i+1));rw[<- hS2]at hw2;have hw1:ms1 O id W D (miK W f D i) i=⟨[(59,.int .i64 i),(58,.int .i64 D.length),(57,.vsl (D.map ia)),(13,rlV 82 U),(8,O),(5,.ptr 5 0),(10,.ptr 10 0)],[(5,.box [.int .i64 id]),(10,.box [.mp 29]),(29,.mp (rfS W))]++rlO 82 U⟩:=(by rw[ms1,<- hU]);by_cases cU:U=[]
     case' pos =>
      have hV:rlV 82 U = .nils:=(by simp[rlV,cU]);have hQ:rlO 82 U=[]:=by simp[rlO,cU]
     case' neg =>
      have hV:rlV 82 U = .osl 82 U.length:=(by simp[rlV,cU]);have hQ:rlO 82 U=[(82,.row 2 (U.map ita))]:=by simp[rlO,cU]
     all_goals
      refine Qga ?_;simp -implicitDefEqProofs[hw1,hV,hQ,hi,ia,hld];refine Yd.of c2 (by simp[pO,AV.pure]) ?_;simp -implicitDefEqProofs[];refine Z8g (λq=>ms2 O id W D d P (U++mi1 W d P q) i q) (λ_=>True) P.length ?_ trivial ?_ ?_
      . have e0:mi1 W d P 0=[]:=rfl;simp only[ms2,e0,W1G,hV,hQ]
        ((try simp only[kO]);refine Ym.sub (by simp[lk,Ya,AV.keys,kO]) ?_;simp only[kO,Wkl,Zmf,Zft,and_true];(try simp[lk,Yc,Ya,AV.keys,kO]))
      . intro q hq _;have wq:i64.wrap ((q:Int)+1)=(q:Int)+1:=Yf;have so:=ZnA (W:=W) (d:=d) hq;have hl2:=Znz (W:=W) (d:=d) (P:=P) (q:=q);obtain ⟨n,hn⟩:=Qex (P[q]);rw[<- hn]at so;have hln:P[q]=n:=hn.symm;obtain ⟨S,hS⟩:=Qex (U++mi1 W d P q);obtain ⟨T,hT⟩:=Qex (U++mi1 W d P (q+1));have hSl:S.length<=8*i+8:=(by rw[hS,W0s];omega);have bb:(S.length+1)*16<=70368744177664:=(by omega);have hv1:ms2 O id W D d P (U++mi1 W d P q) i q=⟨[(68,.int .i64 q),(67,.int .i64 P.length),(66,.vsl (P.map ia)),(15,.int .i64 d),(59,.int .i64 i),(58,.int .i64 D.length),(57,.vsl (D.map ia)),(13,rlV 82 S),(8,O),(5,.ptr 5 0),(10,.ptr 10 0)],[(5,.box [.int .i64 id]),(10,.box [.mp 29]),(29,.mp (rfS W))]++rlO 82 S⟩:=(by rw[ms2,<- hS]);have hv2:ms2 O id W D d P (U++mi1 W d P (q+1)) i (q+1)=⟨[(68,.int .i64 (q+1:Nat)),(67,.int .i64 P.length),(66,.vsl (P.map ia)),(15,.int .i64 d),(59,.int .i64 i),(58,.int .i64 D.length),(57,.vsl (D.map ia)),(13,rlV 82 T),(8,O),(5,.ptr 5 0),(10,.ptr 10 0)],[(5,.box [.int .i64 id]),(10,.box [.mp 29]),(29,.mp (rfS W))]++rlO 82 T⟩:=(by rw[ms2,<- hT]);by_cases cS:S=[]
        case' pos =>
         have hVS:rlV 82 S = .nils:=(by simp[rlV,cS]);have hQS:rlO 82 S=[]:=by simp[rlO,cS]
        case' neg =>
         have hVS:rlV 82 S = .osl 82 S.length:=(by simp[rlV,cS]);have hQS:rlO 82 S=[(82,.row 2 (S.map ita))]:=by simp[rlO,cS]
        all_goals
         refine Qga ?_;by_cases c:(d,n)∈W
         . rw[if_pos c]at so;have e:T=S:=(by rw[hT,hS,so]);simp -implicitDefEqProofs[hv1,hVS,hQS,hq,ia,hln,Zmc,c,wq];rw[hv2,e,hVS,hQS]
           ((try simp only[kO]);refine Ym.sub (by simp[lk,Ya,AV.keys,kO]) ?_;simp only[kO,Wkl,Zmf,Zft,and_true];(try simp[lk,Yc,Ya,AV.keys,kO]))
         . rw[if_neg c]at so;have e:T=S++[(d,n)]:=(by rw[hT,hS,so,W0U]);have hne:¬T=[]:=(by rw[e];simp);have em:T.map ita=S.map ita++[[.int .i64 d,.int .i64 n]]:=(by rw[e,W0r];rfl);have eT:T.length=S.length+1:=(by rw[e];simp);have hVT:rlV 82 T = .osl 82 (S.length+1):=(by simp[rlV,hne,eT]);have hQT:rlO 82 T=[(82,.row 2 (T.map ita))]:=(by simp[rlO,hne]);simp -implicitDefEqProofs[hv1,hVS,hQS,hq,ia,hln,Zmc,c,wq,bb];rw[hv2,hVT,hQT]
           first
            |(rw[em,cS];((try simp only[kO]);refine Ym.sub (by simp[lk,Ya,AV.keys,kO]) ?_;simp only[kO,Wkl,Zmf,and_true];(try simp[lk,Yc,Ya,AV.keys,kO]));done)
            |(rw[<- em];((try simp only[kO,eT]);refine Ym.sub (by simp[lk,Ya,AV.keys,kO,eT]) ?_;simp only[kO,eT,Wkl,Zmf,Zft,and_true];(try simp[lk,Yc,Ya,AV.keys,kO,eT]));done)
      . intro _;rw[<- sc];refine Qga ?_;simp -implicitDefEqProofs[ms2];refine Qgr ?_;simp -implicitDefEqProofs[wi];rw[<- hS2,hw2];unfold rlV rlO
        split
        . ((try simp only[kO]);refine Ym.sub (by simp[lk,Ya,AV.keys,kO]) ?_;simp only[kO,Wkl,Zmf,and_true];(try simp[lk,Yc,Ya,AV.keys,kO]))
        . ((try simp only[kO]);refine Ym.sub (by simp[lk,Ya,AV.keys,kO]) ?_;simp only[kO,Wkl,Zmf,Zft,and_true];(try simp[lk,Yc,Ya,AV.keys,kO]))
   . intro _;obtain ⟨U,hU⟩:=Qex (miK W f D D.length);rw[<- hU];refine Qga ?_;by_cases cU:U=[]
     . have hV:rlV 82 U = .nils:=(by simp[rlV,cU]);have hQ:rlO 82 U=[]:=(by simp[rlO,cU]);simp -implicitDefEqProofs[ms1,<- hU,hV,hQ];refine Qgr ?_;simp -implicitDefEqProofs[Yg,cU]
     . have hV:rlV 82 U = .osl 82 U.length:=(by simp[rlV,cU]);have hQ:rlO 82 U=[(82,.row 2 (U.map ita))]:=(by simp[rlO,cU]);simp -implicitDefEqProofs[ms1,<- hU,hV,hQ];refine Qgr ?_;simp -implicitDefEqProofs[Yg,cU,ita]
section
open Qq Go.Proofs.Tryz
noncomputable def ZnD:RCode :=
 S [r 0 [n 6 .nils],r 1 [m 10 0,m 11 1,w 12 (.slc 7 (.t 10) (some (.t 11)) none)],r 2 [m 13 2,e 14 13,m 7 14],S [r 3 [m 15 7,k 16 .eql 15 O],K 16 4 [m 17 0,m 6 17]],r 5 [m 18 0,e 19 18,m 8 19],S [r 6 [m 20 1,m 21 8,o 22 .eql 20 21],K 22 7 [m 23 0,m 24 2,w 25 (.app 7 56 (.t 23) (.t 24)),m 6 25]],S [(.raw (λ_ _=>true)),.cond (.t 31) (S [(.raw (λ_ _=>true)),(.raw (λ_ _=>true)),(.raw (λ_ _=>true)),r 12 [m 55 9,m 6 55],.ret]) .skip],r 13 [m 56 0,m 57 8,m 58 7,o 59 .add 57 58,w 60 (.slc 7 (.t 56) none (some (.t 59))),m 0 60],S [r 14 [m 61 2,m 62 0,m 63 1,m 64 7,o 65 .add 63 64,w 66 (.slc 7 (.t 62) (some (.t 65)) none),c 67 158 [61,66],t 68 67],.cond (.t 68) (S [(.raw (λ_ _=>true)),(.raw (λ_ _=>true)),r 17 [m 83 0,m 6 83],.ret]) .skip],(.raw (λ_ _=>true)),r 19 [m 89 0,m 90 1,w 91 (.slc 7 (.t 89) (some (.t 90)) none),m 92 7,c 93 159 [91,92]],r 20 [m 94 0,m 6 94],.ret]
def ZnE:List RRes:=[.t 6]
def ZnF {G:Jg} {objs objs':List (Nat×AObj)} {args:List AV} {v:AV} (hn:args.length<=f108.ntmps) (h:∀ R:Run,R.G=G->R.Top->AR prog R ZnD ⟨iniT 0 args,objs⟩ (FinB ZnE v objs')):PB prog G 108 objs args v objs' :=
 PB_of func108 rfl (by kernel_rfl) (rc:=ZnD) (by kernel_rfl) (rs:=ZnE) (by kernel_rfl) hn (λR _ hG hr=>h R hG hr)
end
end Go.Proofs.YtcdlimgkliklhaaGreatDoor
