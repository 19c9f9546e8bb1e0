/-
  How the program takes the depths: the walk.
-/
import Derived.Test.YthlcppdbldkldaaDoorLRcyToEf
set_option linter.all false
set_option maxHeartbeats 8000000
namespace Go.Proofs.YthlcppdbldkldaaDoor
open Tryd (prog)
open IntKind (i64)
open Go.RowKit
variable {G:Jg}
set_option maxRecDepth 8000 in
def Z9V (r:Jr) (hw:Wf r) (hO:Ord r) (hn:(nums r).length<=20):PC prog G 59 [bkA r (nums r)] (.tup [.vmap (dpA (dRun r (nums r).length).1),.bool (decide (0<(dRun r (nums r).length).2.length))]):=by
 (refine Z7A rfl λR hG hrd=>Qga ?_;subst hG)
 have hs:(r.map (·.d)).Pairwise (· <= ·):=by
  rw[W28,W0Y];intro i j hi hj hij;have:=hO.mono (Nat.le_of_lt hij) hj
  rwa [at_eq hi,at_eq hj]at this
 have hl:=hw.1.1;have hnd:=Z8A hO;simp -implicitDefEqProofs[Z7y,Z7z,bkA];refine Z8h (λi=>⟨[(22,.int .i64 i),(21,.int .i64 (nums r).length),(20,.vsl ((nums r).map ia)),(5,.ptr 5 0),(4,.ptr 4 0),(0,bkA r (nums r))],[(15,.mp []),(4,.box [.mp 15]),(16,.mp (lfA ((nums r).take i))),(5,.box [.mp 16])]⟩) (λ_=>True) (nums r).length (by (first|exact Ym.tm (by simp[lk,lfA,bkA])|exact Ym.sub (by simp[lk,Ya,AV.keys,lfA,bkA]) (by simp[lk,Yc,Ya,AV.keys,lfA,bkA]))) trivial ?_ ?_
 . intro i hi _;refine Qga ?_;have w1:i64.wrap ((i:Int)+1)=((i+1:Nat):Int):=Yf
   have hni:(nums r)[i] ∉ (nums r).take i:=by
    intro hm;obtain ⟨j,hj,e⟩:=W0k hm;simp only[W15]at hj;simp only[W1O]at e;have:=(List.getElem_inj hnd).1 e;omega
   have hp:=Z9G hni;rw[<- W08 hi]at hp;simp -implicitDefEqProofs[hi,w1,ia,hp];exact (by (first|exact Ym.tm (by simp[lk,bkA])|exact Ym.sub (by simp[lk,Ya,AV.keys,bkA]) (by simp[lk,Yc,Ya,AV.keys,bkA])))
 . intro _;refine Qga ?_;simp -implicitDefEqProofs;refine Qgr ?_;simp -implicitDefEqProofs[bkA];refine Z8h (λk=>⟨[(34,.int .i64 k),(33,.int .i64 (nums r).length),(5,.ptr 5 0),(4,.ptr 4 0),(0,bkA r (nums r))],[(15,.mp (dpA (dRun r k).1)),(4,.box [.mp 15]),(16,.mp (lfA (dRun r k).2)),(5,.box [.mp 16])]⟩) (λ_=>True) (nums r).length (by (first|exact Ym.tm (by simp[lk,dRun,dpA,bkA])|exact Ym.sub (by simp[lk,Ya,AV.keys,dRun,dpA,bkA]) (by simp[lk,Yc,Ya,AV.keys,dRun,dpA,bkA]))) trivial ?_ ?_
   . intro k hk _;refine Qga ?_;have w1:i64.wrap ((k:Int)+1)=((k+1:Nat):Int):=Yf;simp -implicitDefEqProofs[hk,bkA]
     refine Z8h (λi=>⟨[(41,.int .i64 i),(40,.int .i64 (nums r).length),(39,.vsl ((nums r).map ia)),(34,.int .i64 k),(33,.int .i64 (nums r).length),(5,.ptr 5 0),(4,.ptr 4 0),(0,bkA r (nums r))],
      [(15,.mp (dpA (((nums r).take i).foldl (dStep r) (dRun r k)).1)),(4,.box [.mp 15]),(16,.mp (lfA (((nums r).take i).foldl (dStep r) (dRun r k)).2)),(5,.box [.mp 16])]⟩) (λ_=>True) (nums r).length (by (first|exact Ym.tm (by simp[lk,bkA])|exact Ym.sub (by simp[lk,Ya,AV.keys,bkA]) (by simp[lk,Yc,Ya,AV.keys,bkA]))) trivial ?_ ?_
     . intro i hi _;refine Qga ?_;have w2:i64.wrap ((i:Int)+1)=((i+1:Nat):Int):=Yf;obtain ⟨s,hsd⟩:=Qex (((nums r).take i).foldl (dStep r) (dRun r k));have hI:DInv r s:=(by rw[hsd];exact (DInv.run r k).fold _);have hst:=Z9U (dStep r) (dRun r k) (nums r) i hi;rw[<- hsd]at hst ⊢;obtain ⟨n,hne⟩:=Qex ((nums r)[i]);rw[<- hne]at hst;have hgl:=Z9F n s.2
       cases hm:decide (n∈s.2)
       . have hm':¬n∈s.2:=of_decide_eq_false hm;rw[if_neg hm']at hgl;simp -implicitDefEqProofs[hi,ia,<- hne,hgl];refine ⟨rfl,?_⟩;refine Qco (Z9y r (nums r) n) ?_;simp -implicitDefEqProofs
         refine Z59 hrd (Z9u r n (.vsl ((nums r).map ia)) hs hl) (by simp[evA,St.tmp,lk,bkA]) (by simp[AV.pure]) (λk=>k-1000) [(4,.ptr 1004 0),(5,.ptr 1005 0),(10,.ptr 1010 0),(11,.ptr 1011 0)]
          (λq=>[(1015,.mp (dpA s.1)),(1004,.box [.mp 1015]),(1016,.mp (lfA s.2)),(1005,.box [.mp 1016]),(1010,.box [.int .i64 (msN s.1 0 ((issOf r n).take q))]),(1011,.box [.bool (rdN s.2 false ((issOf r n).take q))])])
          [1015,1004,1016,1005,1010,1011] (λ_=>True) trivial (λ_=>rfl) (by simp) (by simp) (by simp[Yl,St.set,putO,AObj.ren,AV.ren,dpA,lfA,msN,rdN,W0y]) (by simp[Yc,Ya,AV.keys,dpA,lfA,lk]) (by simp[lk,AV.ren,AV.keys]) ?_ ?_
         . intro q x hx _ R' hG hN
           obtain ⟨y,hq,hy,rfl⟩ : ∃ y,∃ hq:q<(issOf r n).length,(issOf r n)[q]=y/\x = .agg (isa y):=by
            simp only[elsOf,W09,W04]at hx;obtain ⟨y,h1,h2⟩:=hx;obtain ⟨h3,h4⟩:=W02.1 h1;exact ⟨y,h3,h4,h2.symm⟩
           have hyr:y∈r:=(by rw[<- hy];exact (W0G.1 (W0e hq)).1);have hyl:=(hw.1.2 y hyr).1;unfold Sml at hyl;have tm:=Z9M s.1 0 (issOf r n) q hq;have tr:=Z9L s.2 false (issOf r n) q hq;rw[hy]at tm tr;generalize msN s.1 0 ((issOf r n).take q)=m0 at tm ⊢;generalize rdN s.2 false ((issOf r n).take q)=b0 at tr ⊢;refine Qga ?_;simp -implicitDefEqProofs[isa];intro R'' hG'' hN'';refine Qga ?_;simp -implicitDefEqProofs
           refine Z8h (λm=>⟨[(55,.int .i64 m),(54,.int .i64 y.its.length),(53,.vsl (y.its.map ita)),(12,.ptr 12 0),(4,.ptr 1004 0),(5,.ptr 1005 0),(10,.ptr 1010 0),(11,.ptr 1011 0)],
            [(1015,.mp (dpA s.1)),(1004,.box [.mp 1015]),(1016,.mp (lfA s.2)),(1005,.box [.mp 1016]),(1010,.box [.int .i64 (msIt s.1 m0 (y.its.take m))]),(1011,.box [.bool (rdIt s.2 b0 (y.its.take m))]),(12,.box (isa y))]⟩) (λ_=>True) y.its.length (by (first|exact Ym.tm (by simp[lk,isa,dpA,lfA,msIt,rdIt])|exact Ym.sub (by simp[lk,Ya,AV.keys,isa,dpA,lfA,msIt,rdIt]) (by simp[lk,Yc,Ya,AV.keys,isa,dpA,lfA,msIt,rdIt]))) trivial ?_ ?_
           . intro m hm _;refine Qga ?_;have w3:i64.wrap ((m:Int)+1)=((m+1:Nat):Int):=Yf;have um:=Z9K s.1 m0 y.its m hm;have ur:=Z9J s.2 b0 y.its m hm;generalize msIt s.1 m0 (y.its.take m)=m1 at um ⊢;generalize rdIt s.2 b0 (y.its.take m)=b1 at ur ⊢;have gd:=Z9C y.its[m].1 s.1;have gl:=Z9F y.its[m].1 s.2;have wkE:∀ c1 c2:Prop,c1->c2->c1/\c2:=λ_ _ a b=>⟨a,b⟩
             cases b1
             . simp only[W1F]at ur
               cases hk1:dpLk y.its[m].1 s.1 with
               | none =>
                 rw[hk1]at gd;simp only[dpG,hk1,W1T]at um;simp -implicitDefEqProofs[hm,ita,w3,gd];exact Ym.sub (by simp[lk,Ya,AV.keys]) (by simp[lk,Yc,Ya,AV.keys,dpA,lfA,um,ur,isa])
               | some v =>
                 rw[hk1]at gd;simp only[dpG,hk1,W0P]at um;simp -implicitDefEqProofs[hm,ita,w3,gd];exact Ym.sub (by simp[lk,Ya,AV.keys]) (by simp[lk,Yc,Ya,AV.keys,dpA,lfA,um,ur,isa])
             . by_cases hin:y.its[m].1∈s.2
               . rw[if_pos hin]at gl;simp only[hin,W1h,W17,Bool.and_false]at ur
                 cases hk1:dpLk y.its[m].1 s.1 with
                 | none =>
                   rw[hk1]at gd;simp only[dpG,hk1,W1T]at um;simp -implicitDefEqProofs[hm,ita,w3,gd,gl];exact Ym.sub (by simp[lk,Ya,AV.keys]) (by simp[lk,Yc,Ya,AV.keys,dpA,lfA,um,ur,isa])
                 | some v =>
                   rw[hk1]at gd;simp only[dpG,hk1,W0P]at um;simp -implicitDefEqProofs[hm,ita,w3,gd,gl];exact Ym.sub (by simp[lk,Ya,AV.keys]) (by simp[lk,Yc,Ya,AV.keys,dpA,lfA,um,ur,isa])
               . rw[if_neg hin]at gl;simp only[hin,W1u,W1z,W1Z]at ur
                 cases hk1:dpLk y.its[m].1 s.1 with
                 | none =>
                   rw[hk1]at gd;simp only[dpG,hk1,W1T]at um;simp -implicitDefEqProofs[hm,ita,w3,gd,gl];exact Ym.sub (by simp[lk,Ya,AV.keys]) (by simp[lk,Yc,Ya,AV.keys,dpA,lfA,um,ur,isa])
                 | some v =>
                   rw[hk1]at gd;simp only[dpG,hk1,W0P]at um;simp -implicitDefEqProofs[hm,ita,w3,gd,gl];exact Ym.sub (by simp[lk,Ya,AV.keys]) (by simp[lk,Yc,Ya,AV.keys,dpA,lfA,um,ur,isa])
           . intro _;refine Qga ?_;simp -implicitDefEqProofs;refine Qgr ?_;simp -implicitDefEqProofs[RndB,Yi,newK,frzO,frzA,frz,AV.keys,tm,tr,dpA,lfA,W0y]
             try trivial
         . intro _;have hel:(elsOf r n).length=(issOf r n).length:=(by simp[elsOf,issOf]);have etk:(issOf r n).take (issOf r n).length=issOf r n:=W0J (W0f _);have hbd:=Z9T hI (issOf r n) 0 (W1R _) (by omega);have hlen:=hI.len;have w4:i64.wrap (msN s.1 0 (issOf r n)+1)=msN s.1 0 (issOf r n)+1:=Yf;have rdpA:∀ dp,AObj.ren (λk=>k-1000) (.mp (dpA dp)) = .mp (dpA dp):=λdp=>by simp[AObj.ren,dpA,AV.ren,W0y]
           have rlfA:∀ lf,AObj.ren (λk=>k-1000) (.mp (lfA lf)) = .mp (lfA lf):=λlf=>by simp[AObj.ren,lfA,AV.ren,W0y]
           have rbx:∀ cs,AObj.ren (λk=>k-1000) (.box cs) = .box (cs.map (AV.ren λk=>k-1000)):=λ_=>rfl
           cases hrd2:rdN s.2 false (issOf r n)
           . have hst2:dStep r s n=s:=(by simp[dStep,hm,hrd2]);rw[hst2]at hst;simp -implicitDefEqProofs[Yl,rdpA,rlfA,rbx,AV.ren,hel,etk,hrd2];refine Qgr ?_;simp -implicitDefEqProofs[w2];rw[hst];exact Ym.sub (by simp[lk,Ya,AV.keys,bkA]) (by simp[lk,Yc,Ya,AV.keys,dpA,lfA])
           . have hmem:n∈s.2:=Z9P (by rw[hm];exact hrd2);have hst2:dStep r s n=(s.1++[(n,msN s.1 0 (issOf r n)+1)],s.2.erase n):=(by simp[dStep,hm,hrd2]);rw[hst2]at hst
             have hnk:n ∉ s.1.map (·.1):=λhin=>by
              have:=(List.nodup_append.1 (hI.perm.nodup_iff.2 hnd)).2.2 n hin n hmem;exact this rfl
             have pd:=Z9D (msN s.1 0 (issOf r n)+1) hnk;have dl:=Z9I hmem;simp -implicitDefEqProofs[Yl,rdpA,rlfA,rbx,AV.ren,hel,etk,hrd2];refine Qgr ?_;simp -implicitDefEqProofs[w2,w4,pd,dl];rw[hst];exact Ym.sub (by simp[lk,Ya,AV.keys,bkA]) (by simp[lk,Yc,Ya,AV.keys,dpA,lfA])
       . have hm':n∈s.2:=W0X hm;rw[if_pos hm']at hgl;simp -implicitDefEqProofs[hi,ia,<- hne,hgl];refine ⟨rfl,?_⟩;refine Qco (Z9y r (nums r) n) ?_;simp -implicitDefEqProofs
         refine Z59 hrd (Z9u r n (.vsl ((nums r).map ia)) hs hl) (by simp[evA,St.tmp,lk,bkA]) (by simp[AV.pure]) (λk=>k-1000) [(4,.ptr 1004 0),(5,.ptr 1005 0),(10,.ptr 1010 0),(11,.ptr 1011 0)]
          (λq=>[(1015,.mp (dpA s.1)),(1004,.box [.mp 1015]),(1016,.mp (lfA s.2)),(1005,.box [.mp 1016]),(1010,.box [.int .i64 (msN s.1 0 ((issOf r n).take q))]),(1011,.box [.bool (rdN s.2 true ((issOf r n).take q))])])
          [1015,1004,1016,1005,1010,1011] (λ_=>True) trivial (λ_=>rfl) (by simp) (by simp) (by simp[Yl,St.set,putO,AObj.ren,AV.ren,dpA,lfA,msN,rdN,W0y]) (by simp[Yc,Ya,AV.keys,dpA,lfA,lk]) (by simp[lk,AV.ren,AV.keys]) ?_ ?_
         . intro q x hx _ R' hG hN
           obtain ⟨y,hq,hy,rfl⟩ : ∃ y,∃ hq:q<(issOf r n).length,(issOf r n)[q]=y/\x = .agg (isa y):=by
            simp only[elsOf,W09,W04]at hx;obtain ⟨y,h1,h2⟩:=hx;obtain ⟨h3,h4⟩:=W02.1 h1;exact ⟨y,h3,h4,h2.symm⟩
           have hyr:y∈r:=(by rw[<- hy];exact (W0G.1 (W0e hq)).1);have hyl:=(hw.1.2 y hyr).1;unfold Sml at hyl;have tm:=Z9M s.1 0 (issOf r n) q hq;have tr:=Z9L s.2 true (issOf r n) q hq;rw[hy]at tm tr;generalize msN s.1 0 ((issOf r n).take q)=m0 at tm ⊢;generalize rdN s.2 true ((issOf r n).take q)=b0 at tr ⊢;refine Qga ?_;simp -implicitDefEqProofs[isa];intro R'' hG'' hN'';refine Qga ?_;simp -implicitDefEqProofs
           refine Z8h (λm=>⟨[(55,.int .i64 m),(54,.int .i64 y.its.length),(53,.vsl (y.its.map ita)),(12,.ptr 12 0),(4,.ptr 1004 0),(5,.ptr 1005 0),(10,.ptr 1010 0),(11,.ptr 1011 0)],
            [(1015,.mp (dpA s.1)),(1004,.box [.mp 1015]),(1016,.mp (lfA s.2)),(1005,.box [.mp 1016]),(1010,.box [.int .i64 (msIt s.1 m0 (y.its.take m))]),(1011,.box [.bool (rdIt s.2 b0 (y.its.take m))]),(12,.box (isa y))]⟩) (λ_=>True) y.its.length (by (first|exact Ym.tm (by simp[lk,isa,dpA,lfA,msIt,rdIt])|exact Ym.sub (by simp[lk,Ya,AV.keys,isa,dpA,lfA,msIt,rdIt]) (by simp[lk,Yc,Ya,AV.keys,isa,dpA,lfA,msIt,rdIt]))) trivial ?_ ?_
           . intro m hm _;refine Qga ?_;have w3:i64.wrap ((m:Int)+1)=((m+1:Nat):Int):=Yf;have um:=Z9K s.1 m0 y.its m hm;have ur:=Z9J s.2 b0 y.its m hm;generalize msIt s.1 m0 (y.its.take m)=m1 at um ⊢;generalize rdIt s.2 b0 (y.its.take m)=b1 at ur ⊢;have gd:=Z9C y.its[m].1 s.1;have gl:=Z9F y.its[m].1 s.2;have wkE:∀ c1 c2:Prop,c1->c2->c1/\c2:=λ_ _ a b=>⟨a,b⟩
             cases b1
             . simp only[W1F]at ur
               cases hk1:dpLk y.its[m].1 s.1 with
               | none =>
                 rw[hk1]at gd;simp only[dpG,hk1,W1T]at um;simp -implicitDefEqProofs[hm,ita,w3,gd];exact Ym.sub (by simp[lk,Ya,AV.keys]) (by simp[lk,Yc,Ya,AV.keys,dpA,lfA,um,ur,isa])
               | some v =>
                 rw[hk1]at gd;simp only[dpG,hk1,W0P]at um;simp -implicitDefEqProofs[hm,ita,w3,gd];exact Ym.sub (by simp[lk,Ya,AV.keys]) (by simp[lk,Yc,Ya,AV.keys,dpA,lfA,um,ur,isa])
             . by_cases hin:y.its[m].1∈s.2
               . rw[if_pos hin]at gl;simp only[hin,W1h,W17,Bool.and_false]at ur
                 cases hk1:dpLk y.its[m].1 s.1 with
                 | none =>
                   rw[hk1]at gd;simp only[dpG,hk1,W1T]at um;simp -implicitDefEqProofs[hm,ita,w3,gd,gl];exact Ym.sub (by simp[lk,Ya,AV.keys]) (by simp[lk,Yc,Ya,AV.keys,dpA,lfA,um,ur,isa])
                 | some v =>
                   rw[hk1]at gd;simp only[dpG,hk1,W0P]at um;simp -implicitDefEqProofs[hm,ita,w3,gd,gl];exact Ym.sub (by simp[lk,Ya,AV.keys]) (by simp[lk,Yc,Ya,AV.keys,dpA,lfA,um,ur,isa])
               . rw[if_neg hin]at gl;simp only[hin,W1u,W1z,W1Z]at ur
                 cases hk1:dpLk y.its[m].1 s.1 with
                 | none =>
                   rw[hk1]at gd;simp only[dpG,hk1,W1T]at um;simp -implicitDefEqProofs[hm,ita,w3,gd,gl];exact Ym.sub (by simp[lk,Ya,AV.keys]) (by simp[lk,Yc,Ya,AV.keys,dpA,lfA,um,ur,isa])
                 | some v =>
                   rw[hk1]at gd;simp only[dpG,hk1,W0P]at um;simp -implicitDefEqProofs[hm,ita,w3,gd,gl];exact Ym.sub (by simp[lk,Ya,AV.keys]) (by simp[lk,Yc,Ya,AV.keys,dpA,lfA,um,ur,isa])
           . intro _;refine Qga ?_;simp -implicitDefEqProofs;refine Qgr ?_;simp -implicitDefEqProofs[RndB,Yi,newK,frzO,frzA,frz,AV.keys,tm,tr,dpA,lfA,W0y]
             try trivial
         . intro _;have hel:(elsOf r n).length=(issOf r n).length:=(by simp[elsOf,issOf]);have etk:(issOf r n).take (issOf r n).length=issOf r n:=W0J (W0f _);have hbd:=Z9T hI (issOf r n) 0 (W1R _) (by omega);have hlen:=hI.len;have w4:i64.wrap (msN s.1 0 (issOf r n)+1)=msN s.1 0 (issOf r n)+1:=Yf;have rdpA:∀ dp,AObj.ren (λk=>k-1000) (.mp (dpA dp)) = .mp (dpA dp):=λdp=>by simp[AObj.ren,dpA,AV.ren,W0y]
           have rlfA:∀ lf,AObj.ren (λk=>k-1000) (.mp (lfA lf)) = .mp (lfA lf):=λlf=>by simp[AObj.ren,lfA,AV.ren,W0y]
           have rbx:∀ cs,AObj.ren (λk=>k-1000) (.box cs) = .box (cs.map (AV.ren λk=>k-1000)):=λ_=>rfl
           cases hrd2:rdN s.2 true (issOf r n)
           . have hst2:dStep r s n=s:=(by simp[dStep,hm,hrd2]);rw[hst2]at hst;simp -implicitDefEqProofs[Yl,rdpA,rlfA,rbx,AV.ren,hel,etk,hrd2];refine Qgr ?_;simp -implicitDefEqProofs[w2];rw[hst];exact Ym.sub (by simp[lk,Ya,AV.keys,bkA]) (by simp[lk,Yc,Ya,AV.keys,dpA,lfA])
           . have hmem:n∈s.2:=Z9P (by rw[hm];exact hrd2);have hst2:dStep r s n=(s.1++[(n,msN s.1 0 (issOf r n)+1)],s.2.erase n):=(by simp[dStep,hm,hrd2]);rw[hst2]at hst
             have hnk:n ∉ s.1.map (·.1):=λhin=>by
              have:=(List.nodup_append.1 (hI.perm.nodup_iff.2 hnd)).2.2 n hin n hmem;exact this rfl
             have pd:=Z9D (msN s.1 0 (issOf r n)+1) hnk;have dl:=Z9I hmem;simp -implicitDefEqProofs[Yl,rdpA,rlfA,rbx,AV.ren,hel,etk,hrd2];refine Qgr ?_;simp -implicitDefEqProofs[w2,w4,pd,dl];rw[hst];exact Ym.sub (by simp[lk,Ya,AV.keys,bkA]) (by simp[lk,Yc,Ya,AV.keys,dpA,lfA])
     . intro _;refine Qga ?_;have etk:(nums r).take (nums r).length=nums r:=W0J (W0f _);simp -implicitDefEqProofs;refine Qgr ?_;have e:(nums r).foldl (dStep r) (dRun r k)=dRun r (k+1):=rfl;simp -implicitDefEqProofs[w1,e];exact Ym.sub (by simp[lk,Ya,AV.keys,bkA]) (by simp[lk,Yc,Ya,AV.keys,dpA,lfA])
   . intro _;refine Qga ?_;simp -implicitDefEqProofs;refine Qgr ?_;have hla:(lfA (dRun r (nums r).length).2).length=(dRun r (nums r).length).2.length:=(by simp[lfA]);have hpu:(dpA (dRun r (nums r).length).1).all (λp=>p.1.pure&&p.2.pure)=true:=(by simp[dpA,AV.pure]);simp -implicitDefEqProofs[hla,hpu]
def FinZ (rs:List RRes) (v:AV):Exit->St->Prop
 |.normal,st | .ret,st=>∃ xs ys,Z29 st rs=some xs/\Yj (snap st) xs=some ys/\v=nz (tupV ys)
 |_,_=>False
def Z9W {P:Program} {G:Jg} {f:FuncId} {fn:Func} {c:Code} {rc:RCode} {rs:List RRes} {args:List AV} {v:AV} (hf:P.funcs[f]? = some fn) (hb:fn.body=some c) (he:entB P f=true)
  (hc:Z1A P fn.ntmps c rc=true) (hrs:allB2 (okRes P) fn.results.toList rs=true) (hn:args.length<=fn.ntmps)
  (h:∀ R:Run,R.N=fn.ntmps->R.G=G->R.Top->AR P R rc (Z2a args) (FinZ rs v)):PC P G f args v:=by
 refine ⟨he,λM W vs hM hG hsz hvs=>?_⟩;refine callsIn_wide.1 (callsIn_of_wp_marks (F:=FW none) (n:=1) hf hb trivial ?_)
 let R:Run:={ G:=G,M:=M,X:=λ_=>False,W0:=W,N:=fn.ntmps,E0:={ M:=M,loc:=λ_=>none,row:=λ_=>none } }
 have h0:SK R (Z2a args) { tmps:=vs++Array.replicate (fn.ntmps-vs.size) Go.undef,defers:=[] } W (λ_=>none):=by
  have hGM:∀ b,b<W.heap.size->¬M b->¬((Z2a args).env M (λ_=>none)).M b/\W.heap[b]? = W.heap[b]?:=λb _ h1=>⟨(by rintro (h2 | ⟨k,s,h2⟩) <;> first|exact h1 h2|cases h2),rfl⟩
  refine ⟨.nil _ _ _ _,by show (vs++_).size=fn.ntmps;simp;omega,λn x hx=>?_,(λk o ho=>by simp[Z2a,St.get,lk]at ho),(λk p hk=>by cases hk),(λk k' b s s' hk=>by cases hk),hM,λ_ _ h=>h,Kp.refl _ _,hG.mono hGM (W0f _),⟨W0f _,hGM,λk p hk=>(by cases hk),λk sz m hk=>(by cases hk)⟩,λ_ _=>⟨rfl,rfl⟩⟩;simp only[Z2a,St.tmp,Z2b,W1e,if_true,W1P]at hx;show VR _ W x ((vs++Array.replicate (fn.ntmps-vs.size) Go.undef).getD n Go.undef);rw[W0a,W0W];have c1:n<args.length:=(W02.1 hx).1;rw[if_pos (by omega)];have:vs[n]? = some vs[n]:=(by simp);rw[this];exact .pv ((hvs n x _ hx this).mono hGM (W0f _))
 refine wpIn_mono (h R rfl rfl ⟨rfl,rfl⟩ c hc 1 _ W ⟨_,h0⟩) ?_
 have key:∀ (a':Act) (W':World) (st':St),(∃ xs ys,Z29 st' rs=some xs/\Yj (snap st') xs=some ys/\v=nz (tupV ys))->SR R st' a' W' ->
   ∃ u,(results fn a'.tmps).run P W' = .ok u W'/\∃ u',Ending.returned u = .returned u'/\PV M W' v u'/\Ext W W':=by
  rintro a' W' st' ⟨xs,ys,h1,h2,rfl⟩ ⟨κ,hk⟩;obtain ⟨us,h3,h4⟩:=Z2d (P:=P) hk hrs h1;obtain ⟨h5,h6⟩:=Z1R h2;have hE:Ext W W':=⟨hk.kp.os,hk.kp.tape,hk.kp.output,hk.kp.size,λi hi=>hk.kp.block i hi (λh=>h)⟩
  have hp:∀ (i:Nat) (y:AV) (u:Value),ys[i]? = some y->us[i]? = some u->PV M W' y u:=λi y u hy hu=>by
   obtain ⟨x,h7,h8⟩:=h6 i y hy;exact Z1T hk (h4.2 i x u h7 hu) h8
  have hl:us.length=ys.length:=(by have:=h4.1;omega);refine ⟨(if h:us.toArray.size=1 then us.toArray[0] else .tuple us.toArray),?_,_,rfl,PV.nz ?_,hE⟩
  . unfold results;rw[Sem.run_bind]
    have:(fn.results.mapM λrv=>(match rv with
     |.tmp t=>pure (a'.tmps.getD t Go.undef)
     |.cell p t=>do loadVar t (<- asAddr (a'.tmps.getD p Go.undef)):Sem Value)).run P W' = .ok us.toArray W':=by
     rw[W1K,Sem.run_map];exact congrArg (λz=>Result.andThen z (λa w'=>Result.ok a.toArray w')) h3
    erw [this]
    rfl
  . match ys,us,hl,hp with
    |[],[],_,_=>exact .tup [] _ rfl (by simp)
    |[y],[u],_,hp=>exact hp 0 y u rfl rfl
    | y::y2::ys,u::u2::us,hl,hp =>
      rw[dif_neg (by simp)];exact .tup _ _ (by simpa using hl) (λi x w hx hw=>hp i x w hx (by simpa using hw))
 rintro e a' W' ⟨st',h1,κ,h2⟩
 cases e <;> try (exact h1.elim)
 all_goals
  refine h2.leave (by simp) rfl λa2 W2 ht hs2=>?_
  have:=key a2 W2 st' h1 ⟨κ,hs2⟩;rw[ht]at this;exact this
def Z9X (l:List (Int×Int)):∀ r∈l.map ita,∀ x∈r,x.flat=true:=by
 intro r hr x hx;obtain ⟨p,-,rfl⟩:=W0i.1 hr;simp only[ita,W0g,W0Q,or_false]at hx;rcases hx with rfl|rfl <;> simp[AV.flat]
def Z9Y (l:List (Int×Int)):∀ r∈l.map ita,∀ x∈r,x.pure=true:=by
 intro r hr x hx;obtain ⟨p,-,rfl⟩:=W0i.1 hr;simp only[ita,W0g,W0Q,or_false]at hx;rcases hx with rfl|rfl <;> simp[AV.pure]
def Z9Z (l:List Dm):∀ r∈l.map dma,∀ x∈r,x.flat=true:=by
 intro r hr x hx;obtain ⟨p,-,rfl⟩:=W0i.1 hr;simp only[dma,W0g,W0Q,or_false]at hx;rcases hx with rfl|rfl|rfl <;> simp[AV.flat]
def Za0 (l:List Dm):∀ r∈l.map dma,∀ x∈r,x.pure=true:=by
 intro r hr x hx;obtain ⟨p,-,rfl⟩:=W0i.1 hr;simp only[dma,W0g,W0Q,or_false]at hx;rcases hx with rfl|rfl|rfl <;> simp[AV.pure]
def Za1 (l:List (Int×Int)) (hne:l≠[]) (hl:Sml l):PN prog G 67 [.vsl (l.map ita)] 2 (l.map ita):=by
 refine PN_of (Z9X l) (Z9Y l) Tryd.func67 rfl (by kernel_rfl) (rc:=Z7E) (by kernel_rfl) (rs:=Z7F) (by kernel_rfl) (W0C rfl) λR _ hG hrd=>Qga ?_
 unfold Sml at hl;have b1:l.length*16<=70368744177664:=(by omega);have h0:¬l.length=0:=λe=>hne (W0l.1 e)
 have k1:(l.map ita).all (λr=>r.length == 2)=true:=(by simp[ita]);have k2:(l.map ita).all (λr=>r.all AV.one)=true:=(by simp[ita,AV.one]);have k5:(l.map ita).all (λr=>r.all AV.pure)=true:=(by simp[ita,AV.pure]);simp -implicitDefEqProofs[Z7E,Z7F,h0,hne,b1,k1,k2,k5,FinN]
def Za2 (l:List Dm) (hne:l≠[]) (hl:Sml l):PN prog G 68 [.vsl (l.map dma)] 3 (l.map dma):=by
 refine PN_of (Z9Z l) (Za0 l) Tryd.func68 rfl (by kernel_rfl) (rc:=Z7G) (by kernel_rfl) (rs:=Z7H) (by kernel_rfl) (W0C rfl) λR _ hG hrd=>Qga ?_
 unfold Sml at hl;have b1:l.length*24<=70368744177664:=(by omega);have h0:¬l.length=0:=λe=>hne (W0l.1 e)
 have k1:(l.map dma).all (λr=>r.length == 3)=true:=(by simp[dma]);have k2:(l.map dma).all (λr=>r.all AV.one)=true:=(by simp[dma,AV.one]);have k5:(l.map dma).all (λr=>r.all AV.pure)=true:=(by simp[dma,AV.pure]);simp -implicitDefEqProofs[Z7G,Z7H,h0,hne,b1,k1,k2,k5,FinN]
def Za3:PC prog G 67 [.vsl []] (.vsl []):=by
 refine Z9W Tryd.func67 rfl (by kernel_rfl) (rc:=Z7E) (by kernel_rfl) (rs:=Z7F) (by kernel_rfl) (W0C rfl) λR _ hG hrd=>Qga ?_
 simp -implicitDefEqProofs[Z7E,Z7F,FinZ,nz]
def Za4:PC prog G 68 [.vsl []] (.vsl []):=by
 refine Z9W Tryd.func68 rfl (by kernel_rfl) (rc:=Z7G) (by kernel_rfl) (rs:=Z7H) (by kernel_rfl) (W0C rfl) λR _ hG hrd=>Qga ?_
 simp -implicitDefEqProofs[Z7G,Z7H,FinZ,nz]
def GC (G:Jg):Prop:=G 0=some [.func (.func 122) [] [],.func (.func 123) [] [],.func (.func 124) [] [],.func (.func 125) [] []]
def ckN (x:Iss):Nat->Bool
 |0=>ck1 x
 |1=>ck2 x
 |2=>ck3 x
 |_=>ck4 x
def Za5 {x:Iss} (h:∀ j,j<4->ckN x j=true):issB x=true:=by
 rw[Z8Y,show ck1 x=true from h 0 (by omega),show ck2 x=true from h 1 (by omega),show ck3 x=true from h 2 (by omega),show ck4 x=true from h 3 (by omega)];rfl
def Za6 {x:Iss} {j:Nat} (hj:j<4) (h:ckN x j=false):issB x=false:=by
 rw[Z8Y];have:j=0∨j=1∨j=2∨j=3:=(by omega);rcases this with rfl|rfl|rfl|rfl <;> simp only[ckN]at h <;> simp[h]
def openV (r:Jr):Int:=if Z8s r=true then
    if 0<(dRun r (nums r).length).2.length then 21 else if (∃ p∈(dRun r (nums r).length).1,6<p.2) then 20 else 0
 else 20
def openA (r:Jr):AV:=.tup [if openV r=0 then bkA r (nums r) else .nilp,.int .i64 (openV r)]
def Za7 {r:Jr} (h:Z8s r=false):openA r = .tup [.nilp,.int .i64 20]:=by simp[openA,openV,h]
def opS (r:Jr):Nat->St
 |0=>⟨[(28,.int .i64 0),(27,.int .i64 r.length),(26,.vsl (r.map isa)),(1,.ptr 1 0),(4,.ptr 4 0)],[(1,.box [.vsl (r.map isa)]),(4,.box [.ptr 18 0]),(18,.box [.vsl (r.map isa),.nils])]⟩
 |i+1=>⟨[(28,.int .i64 (i+1:Nat)),(27,.int .i64 r.length),(26,.vsl (r.map isa)),(1,.ptr 1 0),(4,.ptr 4 0)],[(1,.box [.vsl (r.map isa)]),(4,.box [.ptr 18 0]),(18,.box [.vsl (r.map isa),.osl 85 (numsN r (i+1)).length]),(85,.row 1 ((numsN r (i+1)).map ia))]⟩
def opT (r:Jr) (k:Nat):St:=⟨[(98,.int .i64 k),(97,.int .i64 r.length),(96,.vsl (r.map isa)),(4,.vptr [bkA r (nums r)] 0)],[]⟩
def opJ (r:Jr) (i:Nat) (x:Iss) (j:Nat):St:=⟨[(34,.int .i64 j),(33,.agg [.func (.func 122) [] [],.func (.func 123) [] [],.func (.func 124) [] [],.func (.func 125) [] []]),(5,.int .i64 i),(6,.ptr 6 0)]++(opS r i).t,(opS r i).o++[(6,.box (isa x))]⟩
def Za8 {x:Iss} {j:Nat} (hc:∀ k,k<j->ckN x k=true) (h:ckN x j=true):∀ k,k<j+1->ckN x k=true:=λk hk=>by
 by_cases e:k=j
 . rw[e];exact h
 . exact hc k (by omega)
set_option maxRecDepth 4000 in
def Za9 (hG:GC G) (r:Jr) (h:Wf r):PC prog G 53 [rega r] (openA r):=by
 (refine Z68 rfl λR hG hrd=>Qga ?_;subst hG)
 unfold GC at hG;have hs:=h.1.1;unfold Sml at hs;simp -implicitDefEqProofs[Z66,Z67,rega];refine Yd.flat (Z8V 1 60 r.length) (by simp[AV.flat]) (by simp) ?_
 cases q1:inR r.length 1 60
 . simp -implicitDefEqProofs[Za7 (r:=r) (by simp[Z8s,q1])]
 have q1':1<=r.length/\r.length<=60:=by
  have:=W0X q1;omega
 simp -implicitDefEqProofs;refine Z8h (opS r) (λi=>∀ j (h:j<r.length),j<i->issB r[j]=true/\ordB r j=true) r.length (by simp only[opS];(first|exact Wka|exact Wkb)) (by simp) ?_ ?_
 . intro i hi he;refine Qga ?_;have w1:i64.wrap ((i:Int)+1)=((i+1:Nat):Int):=Yf;have a1:=at_eq hi;have hx:=h.1.2 r[i] (W0e hi);have hk:=h.2 r[i] (W0e hi);have a1:=at_eq hi
   cases i with
   | zero =>
     simp -implicitDefEqProofs[opS,hi,isa,hG];refine Z8h (opJ r (0) r[0]) (λj=>∀ k,k<j->ckN r[0] k=true) 4 (by simp only[opJ,opS];(first|exact Ym.tm (by simp[lk,isa,ia])|exact Ym.sub (by simp[lk,Ya,AV.keys,isa,ia]) (by simp[lk,Yc,Ya,AV.keys,isa,ia]))) (by simp) ?_ ?_
     . intro j hj hc;refine Qga ?_;rcases (show j=0∨j=1∨j=2∨j=3 by omega) with rfl|rfl|rfl|rfl
       . have v0:i64.wrap 1=1:=rfl;simp -implicitDefEqProofs[opJ,opS,isa];refine Qco (Z8Z r[0]) ?_
         cases q:ck1 r[0]
         . simp -implicitDefEqProofs;refine Qgr ?_;simp -implicitDefEqProofs;refine Qgr ?_;simp -implicitDefEqProofs[Za7 (Z8t hi (Za6 (j:=0) (by omega) q))]
         . simp -implicitDefEqProofs[v0]
           first|exact ⟨(by (first|exact Ym.tm (by simp[lk,opJ,opS,isa,ia])|exact Ym.sub (by simp[lk,Ya,AV.keys,opJ,opS,isa,ia]) (by simp[lk,Yc,Ya,AV.keys,opJ,opS,isa,ia]))),Za8 hc q⟩|exact ⟨(by (first|exact Ym.tm (by simp[lk,opJ,opS,isa,ia])|exact Ym.sub (by simp[lk,Ya,AV.keys,opJ,opS,isa,ia]) (by simp[lk,Yc,Ya,AV.keys,opJ,opS,isa,ia]))),q⟩
       . have v1:i64.wrap 2=2:=rfl;simp -implicitDefEqProofs[opJ,opS,isa];refine Qco (Z90 r[0] hk) ?_
         cases q:ck2 r[0]
         . simp -implicitDefEqProofs;refine Qgr ?_;simp -implicitDefEqProofs;refine Qgr ?_;simp -implicitDefEqProofs[Za7 (Z8t hi (Za6 (j:=1) (by omega) q))]
         . simp -implicitDefEqProofs[v1]
           first|exact ⟨(by (first|exact Ym.tm (by simp[lk,opJ,opS,isa,ia])|exact Ym.sub (by simp[lk,Ya,AV.keys,opJ,opS,isa,ia]) (by simp[lk,Yc,Ya,AV.keys,opJ,opS,isa,ia]))),Za8 hc q⟩|exact ⟨(by (first|exact Ym.tm (by simp[lk,opJ,opS,isa,ia])|exact Ym.sub (by simp[lk,Ya,AV.keys,opJ,opS,isa,ia]) (by simp[lk,Yc,Ya,AV.keys,opJ,opS,isa,ia]))),q⟩
       . have v2:i64.wrap 3=3:=rfl;simp -implicitDefEqProofs[opJ,opS,isa];refine Qco (Z91 r[0] hx.1) ?_
         cases q:ck3 r[0]
         . simp -implicitDefEqProofs;refine Qgr ?_;simp -implicitDefEqProofs;refine Qgr ?_;simp -implicitDefEqProofs[Za7 (Z8t hi (Za6 (j:=2) (by omega) q))]
         . simp -implicitDefEqProofs[v2]
           first|exact ⟨(by (first|exact Ym.tm (by simp[lk,opJ,opS,isa,ia])|exact Ym.sub (by simp[lk,Ya,AV.keys,opJ,opS,isa,ia]) (by simp[lk,Yc,Ya,AV.keys,opJ,opS,isa,ia]))),Za8 hc q⟩|exact ⟨(by (first|exact Ym.tm (by simp[lk,opJ,opS,isa,ia])|exact Ym.sub (by simp[lk,Ya,AV.keys,opJ,opS,isa,ia]) (by simp[lk,Yc,Ya,AV.keys,opJ,opS,isa,ia]))),q⟩
       . have v3:i64.wrap 4=4:=rfl;simp -implicitDefEqProofs[opJ,opS,isa];refine Qco (Z93 r[0] hx.2) ?_
         cases q:ck4 r[0]
         . simp -implicitDefEqProofs;refine Qgr ?_;simp -implicitDefEqProofs;refine Qgr ?_;simp -implicitDefEqProofs[Za7 (Z8t hi (Za6 (j:=3) (by omega) q))]
         . simp -implicitDefEqProofs[v3]
           first|exact ⟨(by (first|exact Ym.tm (by simp[lk,opJ,opS,isa,ia])|exact Ym.sub (by simp[lk,Ya,AV.keys,opJ,opS,isa,ia]) (by simp[lk,Yc,Ya,AV.keys,opJ,opS,isa,ia]))),Za8 hc q⟩|exact ⟨(by (first|exact Ym.tm (by simp[lk,opJ,opS,isa,ia])|exact Ym.sub (by simp[lk,Ya,AV.keys,opJ,opS,isa,ia]) (by simp[lk,Yc,Ya,AV.keys,opJ,opS,isa,ia]))),q⟩
     . intro hc;refine Qga ?_;have p1:issB r[0]=true:=Za5 hc;simp -implicitDefEqProofs[opJ,opS,isa];refine Qgr ?_;by_cases p3:r[0].l=1
       . have hn:numsN r 1=[r[0].d]:=(by simp[numsN,newB,a1]);have ok:ordB r 0=true:=(by simp[ordB,a1,p3]);have w0:i64.wrap 1=1:=rfl;simp -implicitDefEqProofs[p3,w0];exact ⟨rfl,(by (first|exact Ym.tm (by simp[lk,opS,hn,ia])|exact Ym.sub (by simp[lk,Ya,AV.keys,opS,hn,ia]) (by simp[lk,Yc,Ya,AV.keys,opS,hn,ia]))),λj q1 q2=>by subst q2;exact ⟨p1,ok⟩⟩
       . simp -implicitDefEqProofs[p3];refine Qgr ?_;simp -implicitDefEqProofs[Za7 (Z8u hi (by simp[ordB,a1,p3]))]
   | succ i =>
     have k1:(i:Int)+1<r.length:=(by omega);have k2:((i:Int)+1).toNat=i+1:=(by omega);have k3:(0:Int)<=(i:Int)+1:=(by omega);simp -implicitDefEqProofs[opS,hi,isa,hG,k1,k2,k3];refine Z8h (opJ r (i+1) r[i+1]) (λj=>∀ k,k<j->ckN r[i+1] k=true) 4 (by simp only[opJ,opS];(first|exact Ym.tm (by simp[lk,isa,ia])|exact Ym.sub (by simp[lk,Ya,AV.keys,isa,ia]) (by simp[lk,Yc,Ya,AV.keys,isa,ia]))) (by simp) ?_ ?_
     . intro j hj hc;refine Qga ?_;rcases (show j=0∨j=1∨j=2∨j=3 by omega) with rfl|rfl|rfl|rfl
       . have v0:i64.wrap 1=1:=rfl;simp -implicitDefEqProofs[opJ,opS,isa];refine Qco (Z8Z r[i+1]) ?_
         cases q:ck1 r[i+1]
         . simp -implicitDefEqProofs;refine Qgr ?_;simp -implicitDefEqProofs;refine Qgr ?_;simp -implicitDefEqProofs[Za7 (Z8t hi (Za6 (j:=0) (by omega) q))]
         . simp -implicitDefEqProofs[v0]
           first|exact ⟨(by (first|exact Ym.tm (by simp[lk,opJ,opS,isa,ia])|exact Ym.sub (by simp[lk,Ya,AV.keys,opJ,opS,isa,ia]) (by simp[lk,Yc,Ya,AV.keys,opJ,opS,isa,ia]))),Za8 hc q⟩|exact ⟨(by (first|exact Ym.tm (by simp[lk,opJ,opS,isa,ia])|exact Ym.sub (by simp[lk,Ya,AV.keys,opJ,opS,isa,ia]) (by simp[lk,Yc,Ya,AV.keys,opJ,opS,isa,ia]))),q⟩
       . have v1:i64.wrap 2=2:=rfl;simp -implicitDefEqProofs[opJ,opS,isa];refine Qco (Z90 r[i+1] hk) ?_
         cases q:ck2 r[i+1]
         . simp -implicitDefEqProofs;refine Qgr ?_;simp -implicitDefEqProofs;refine Qgr ?_;simp -implicitDefEqProofs[Za7 (Z8t hi (Za6 (j:=1) (by omega) q))]
         . simp -implicitDefEqProofs[v1]
           first|exact ⟨(by (first|exact Ym.tm (by simp[lk,opJ,opS,isa,ia])|exact Ym.sub (by simp[lk,Ya,AV.keys,opJ,opS,isa,ia]) (by simp[lk,Yc,Ya,AV.keys,opJ,opS,isa,ia]))),Za8 hc q⟩|exact ⟨(by (first|exact Ym.tm (by simp[lk,opJ,opS,isa,ia])|exact Ym.sub (by simp[lk,Ya,AV.keys,opJ,opS,isa,ia]) (by simp[lk,Yc,Ya,AV.keys,opJ,opS,isa,ia]))),q⟩
       . have v2:i64.wrap 3=3:=rfl;simp -implicitDefEqProofs[opJ,opS,isa];refine Qco (Z91 r[i+1] hx.1) ?_
         cases q:ck3 r[i+1]
         . simp -implicitDefEqProofs;refine Qgr ?_;simp -implicitDefEqProofs;refine Qgr ?_;simp -implicitDefEqProofs[Za7 (Z8t hi (Za6 (j:=2) (by omega) q))]
         . simp -implicitDefEqProofs[v2]
           first|exact ⟨(by (first|exact Ym.tm (by simp[lk,opJ,opS,isa,ia])|exact Ym.sub (by simp[lk,Ya,AV.keys,opJ,opS,isa,ia]) (by simp[lk,Yc,Ya,AV.keys,opJ,opS,isa,ia]))),Za8 hc q⟩|exact ⟨(by (first|exact Ym.tm (by simp[lk,opJ,opS,isa,ia])|exact Ym.sub (by simp[lk,Ya,AV.keys,opJ,opS,isa,ia]) (by simp[lk,Yc,Ya,AV.keys,opJ,opS,isa,ia]))),q⟩
       . have v3:i64.wrap 4=4:=rfl;simp -implicitDefEqProofs[opJ,opS,isa];refine Qco (Z93 r[i+1] hx.2) ?_
         cases q:ck4 r[i+1]
         . simp -implicitDefEqProofs;refine Qgr ?_;simp -implicitDefEqProofs;refine Qgr ?_;simp -implicitDefEqProofs[Za7 (Z8t hi (Za6 (j:=3) (by omega) q))]
         . simp -implicitDefEqProofs[v3]
           first|exact ⟨(by (first|exact Ym.tm (by simp[lk,opJ,opS,isa,ia])|exact Ym.sub (by simp[lk,Ya,AV.keys,opJ,opS,isa,ia]) (by simp[lk,Yc,Ya,AV.keys,opJ,opS,isa,ia]))),Za8 hc q⟩|exact ⟨(by (first|exact Ym.tm (by simp[lk,opJ,opS,isa,ia])|exact Ym.sub (by simp[lk,Ya,AV.keys,opJ,opS,isa,ia]) (by simp[lk,Yc,Ya,AV.keys,opJ,opS,isa,ia]))),q⟩
     . intro hc;refine Qga ?_;have p1:issB r[i+1]=true:=Za5 hc;simp -implicitDefEqProofs[opJ,opS,isa];refine Qgr ?_;have w2:i64.wrap (i:Int)=(i:Int):=Yf;have w3:i64.wrap ((i:Int)+1+1)=(i:Int)+1+1:=Yf;have k3:(0:Int)<(i:Int)+1:=(by omega);have hi2:i<r.length:=(by omega);have a2:=at_eq hi2;have bl:=(he i hi2 (by omega)).1;simp only[issB,headB,W01,inR,W0b]at bl;have w4:i64.wrap (r[i].l+1)=r[i].l+1:=Yf;have b1:=Z8p r (i+1);have b2:((numsN r (i+1)).length+1)*8<=70368744177664:=by omega
       have go:ordB r (i+1)=true->∀ j (h:j<r.length),j<i+1+1->issB r[j]=true/\ordB r j=true:=λg2 j q1 q2=>by
        by_cases e:j=i+1
        . subst e;exact ⟨p1,g2⟩
        . exact he j q1 (by omega)
       by_cases p3:r[i].d=r[i+1].d
       . have hn:numsN r (i+1+1)=numsN r (i+1):=(by rw[numsN];simp[newB,a1,a2,p3]);by_cases p5:r[i+1].l=r[i].l+1
         case neg =>
          have p5':¬r[i].l+1=r[i+1].l:=λe=>p5 e.symm
          simp -implicitDefEqProofs[k3,w2,w4,hi2,isa,p3,p5'];refine Qgr ?_;simp -implicitDefEqProofs[Za7 (Z8u hi (by simp[ordB,a1,a2,p3,p5]))]
         by_cases p6:r[i].k=r[i+1].k
         . have ok:ordB r (i+1)=true:=(by simp[ordB,a1,a2,p3,p5,p6]);simp -implicitDefEqProofs[k3,w2,w3,w4,hi2,isa,p3,p5,p6];exact ⟨(by (first|exact Ym.tm (by simp[lk,opS,hn,ia])|exact Ym.sub (by simp[lk,Ya,AV.keys,opS,hn,ia]) (by simp[lk,Yc,Ya,AV.keys,opS,hn,ia]))),go ok⟩
         . have p6':¬r[i+1].k=r[i].k:=λe=>p6 e.symm
           simp -implicitDefEqProofs[k3,w2,w4,hi2,isa,p3,p5,p6];refine Qgr ?_;simp -implicitDefEqProofs[Za7 (Z8u hi (by simp[ordB,a1,a2,p3,p5,p6']))]
       by_cases p4:r[i+1].d<r[i].d
       . simp -implicitDefEqProofs[k3,w2,hi2,isa,p3,p4];refine Qgr ?_;simp -implicitDefEqProofs[Za7 (Z8u hi (by simp[ordB,a1,a2,p4]))]
       have p7:r[i].d<r[i+1].d:=(by omega);have hn:numsN r (i+1+1)=numsN r (i+1)++[r[i+1].d]:=(by rw[numsN];simp[newB,a1,a2,p3]);by_cases p5:r[i+1].l=1
       . have ok:ordB r (i+1)=true:=(by simp[ordB,a1,a2,p4,p7,p5]);simp -implicitDefEqProofs[k3,w2,w3,hi2,isa,p3,p4,p5,b2];exact ⟨rfl,(by (first|exact Ym.tm (by simp[lk,opS,hn,ia])|exact Ym.sub (by simp[lk,Ya,AV.keys,opS,hn,ia]) (by simp[lk,Yc,Ya,AV.keys,opS,hn,ia]))),go ok⟩
       . simp -implicitDefEqProofs[k3,w2,hi2,isa,p3,p4,p5];refine Qgr ?_;simp -implicitDefEqProofs[Za7 (Z8u hi (by simp[ordB,a1,a2,p4,p7,p5]))]
 . intro he;refine Qga ?_;obtain ⟨n,hn⟩ : ∃ n,r.length=n+1:=⟨r.length-1,by omega⟩;have e:numsN r (n+1)=nums r:=by rw[nums,hn]
   have g1:r.all issB=true:=W03.2 λx hx=>by
    obtain ⟨j,hj,rfl⟩:=W0k hx;exact (he j hj hj).1
   have g2:(List.range r.length).all (ordB r)=true:=Z8r.2 λj hj=>(he j hj hj).2
   have hO:Ord r:=λi hi=>by
    have:=(he (i+1) hi (by omega)).2;simp only[ordB]at this
    split at this
    . cases this
    . omega
   have hns:Sml (nums r):=(by have:=Z8w r;unfold Sml;omega);have hsn:(nums r).Pairwise (· <= ·):=(Z8z hO).imp λh=>Int.le_of_lt h
   have k1:¬(n:Int)+1<r.length:=(by omega);rw[hn];simp -implicitDefEqProofs[opS,k1,e];refine Qgr ?_;simp -implicitDefEqProofs;by_cases c20:20<(nums r).length
   . have c20':(20:Int)<(nums r).length:=(by omega);simp -implicitDefEqProofs[c20',Za7 (r:=r) (by simp[Z8s];omega)]
   have c20':¬(20:Int)<(nums r).length:=(by omega);have pu:((nums r).map ia).all (λx=>x.all AV.pure)=true:=(by simp[ia,AV.pure]);have pw:(r.map isa).all (λx=>x.all AV.pure)=true:=(by simp[isa,AV.pure]);simp -implicitDefEqProofs[c20'];refine Z8h (opT r) (λi=>∀ j (h:j<r.length),j<i->ItsIn r r[j]) r.length (Ym.trans (Ym.frz newK _ (λk hk=>by simp[newK];omega)) ?_) (by simp) ?_ ?_
   . simp only[opT,bkA,Yi];refine Ym.sub (by simp[lk,Ya,AV.keys,Yi,newK,frzA,frz,Yh,Yj,St.get,pu,pw]) (by simp) (by simp[newK])
   . intro i hi hc;refine Qga ?_;have w1:i64.wrap ((i:Int)+1)=((i+1:Nat):Int):=Yf;have hx:=h.1.2 r[i] (W0e hi);simp -implicitDefEqProofs[opT,hi,isa];refine Qco (Z8P 76 [.vptr [bkA r (nums r)] 0] (λy=>!decide (y.1∈nums r)) r[i].its (by simp[AV.pure]) hx.1 (λy _=>Z9x r (nums r) y hsn hns)) ?_
     cases q:r[i].its.any λy=>!decide (y.1∈nums r)
     . simp -implicitDefEqProofs[w1];refine ⟨(by (first|exact Ym.tm (by simp[lk,opT])|exact Ym.sub (by simp[lk,Ya,AV.keys,opT]) (by simp[lk,Yc,Ya,AV.keys,opT]))),λj q1 q2=>?_⟩;by_cases e2:j=i
       . subst e2;intro y hy;have:=List.any_eq_false.1 q y hy;simpa using this
       . exact hc j q1 (by omega)
     . simp -implicitDefEqProofs;refine Qgr ?_;obtain ⟨y,hy,hy2⟩:=W14.1 q;obtain ⟨k,hk,rfl⟩:=W0k hy;simp -implicitDefEqProofs[Za7 (Z8v hi hk (by simpa using hy2))]
   . intro hc;refine Qga ?_
     have g3:inB r=true:=W03.2 λx hx=>by
      obtain ⟨j,hj,rfl⟩:=W0k hx;exact W03.2 λy hy=>W0M (hc j hj hj y hy)
     have hL:Z8s r=true:=by
      simp only[Z8s,q1,g1,g2,g3,W1j,W1Z,W0b];omega
     simp -implicitDefEqProofs[opT];refine Qgr ?_;simp -implicitDefEqProofs;refine Qco (Z9V r h hO (by omega)) ?_;simp -implicitDefEqProofs;by_cases c21:0<(dRun r (nums r).length).2.length
     . have v:openA r = .tup [.nilp,.int .i64 21]:=(by simp[openA,openV,hL,c21]);simp -implicitDefEqProofs[c21,v]
     simp -implicitDefEqProofs[c21];refine Z5h (kvs:=(dRun r (nums r).length).1) rfl (by simp[opnT,St.tmp,lk]) ?_ ?_
     . intro h6;refine Qgr ?_;have n6:¬ ∃ p∈(dRun r (nums r).length).1,6<p.2:=λ⟨p,hp,hp6⟩=>by have:=h6 p hp;omega
       have v:openA r = .tup [bkA r (nums r),.int .i64 0]:=by
        unfold openA openV;rw[if_pos hL,if_neg c21,if_neg n6];simp
       simp -implicitDefEqProofs[v,bkA]
     . intro h6;refine Qga ?_
       have v:openA r = .tup [.nilp,.int .i64 20]:=by
        unfold openA openV;rw[if_pos hL,if_neg c21,if_pos h6];simp
       simp -implicitDefEqProofs[Z5a,v];refine Qgr ?_;simp -implicitDefEqProofs
def Zaa {r:Jr} (h:openV r=0):Z8s r=true:=by
 unfold openV at h
 split at h
 . assumption
 . cases h
def Zab {r:Jr} (h:Z8s r=true):(nums r).length<=20:=by
 simp only[Z8s,W01,W0b]at h;exact h.2
def Zac {r:Jr} (h:Z8s r=true):1<=r.length/\r.length<=60:=by
 simp only[Z8s,W01,W0b,inR]at h;have:=h.1.1.1.1;omega
def Zad {r:Jr} (h:Z8s r=true) {x:Iss} (hx:x∈r):issB x=true:=by
 simp only[Z8s,W01]at h;exact W03.1 h.1.1.1.2 x hx
def Zae {r:Jr} (h:Z8s r=true) {i:Nat} (hi:i<r.length):ordB r i=true:=by
 simp only[Z8s,W01]at h;exact Z8r.1 h.1.1.2 i hi
def Zaf {r:Jr} (h:Z8s r=true) {x:Iss} (hx:x∈r):ItsIn r x:=λy hy=>by
 simp only[Z8s,W01,inB]at h;exact W0X (W03.1 (W03.1 h.1.2 x hx) y hy)
def Zag {r:Jr} (h:Sml r):Sml (nums r):=by have:=Z8w r;unfold Sml at *;omega
def Zah {r:Jr} (h:Ord r):(nums r).Pairwise (· <= ·):=(Z8z h).imp λh=>Int.le_of_lt h
def Zai {r:Jr} (hO:Ord r):(r.map (·.d)).Pairwise (· <= ·):=by
 rw[W28,W0Y];intro i j hi hj hij;have:=hO.mono (Nat.le_of_lt hij) hj
 rwa [at_eq hi,at_eq hj]at this
def Lx (x y:Iss):Prop:=x.d<y.d∨(x.d=y.d/\x.l<y.l)
def Zaj {r:Jr} (h:Z8s r=true):∀ {i j:Nat},i<j->j<r.length->Lx (at' r i) (at' r j):=by
 intro i j hij hj
 induction j with
 |zero=>omega
 | succ j ih =>
   have step:Lx (at' r j) (at' r (j+1)):=by
    have:=Zae h hj;simp only[ordB]at this
    split at this
    . cases this
    . split at this
      . rename_i h2;exact .inl h2
      . simp only[W01,W0b]at this;exact .inr ⟨by omega,by omega⟩
   by_cases e:i=j
   . subst e;exact step
   . have:=ih (by omega) (by omega);unfold Lx at *;omega
def Zak {r:Jr} (h:Z8s r=true):∀ y∈r,findN y.d y.l r=some y:=λy hy=>by
 obtain ⟨i,hi,rfl⟩:=W0k hy;refine Z8q hi rfl rfl λj hj hij=>?_
 have:=Zaj h hij hi;rw[at_eq hj,at_eq hi]at this;unfold Lx at this;omega
def knV (r:Jr) (n:Int):Int:=if openV r=0 then if n∈nums r then 0 else 6 else openV r
def Zal (hG:GC G) (r:Jr) (n:Int) (h:Wf r):PC prog G 58 [rega r,.int .i64 n] (.tup [if knV r n=0 then bkA r (nums r) else .nilp,.int .i64 (knV r n)]):=by
 (refine Z7K rfl λR hG hrd=>Qga ?_;subst hG)
 simp -implicitDefEqProofs[Z7I,Z7J,rega];refine Qco (Za9 hG r h) ?_;by_cases e:openV r=0
 . have hL:=Zaa e;have hO:=Z8x hL;simp -implicitDefEqProofs[openA,e];refine Qco (Z9w r (nums r) n (Zah hO) (Zag h.1.1)) ?_;by_cases e2:n∈nums r
   . simp -implicitDefEqProofs[knV,e,e2,bkA]
   . simp -implicitDefEqProofs[knV,e,e2]
 . simp -implicitDefEqProofs[openA,e,knV]
def Zam (hG:GC G) (r:Jr) (h:Wf r):PC prog G 17 [rega r] (.int .i64 (openV r)):=by
 (refine Z7N rfl λR hG hrd=>Qga ?_;subst hG)
 simp -implicitDefEqProofs[Z7L,Z7M,rega];refine Qco (Za9 hG r h) ?_;simp -implicitDefEqProofs[openA]
def Zan (hG:GC G) (r:Jr) (h:Wf r):PC prog G 49 [rega r] (.tup [.vsl ((if openV r=0 then nums r else []).map ia),.int .i64 (openV r)]):=by
 by_cases e:openV r=0
 . (refine Z7Q rfl λR hG hrd=>Qga ?_;subst hG)
   simp -implicitDefEqProofs[Z7O,Z7P,rega];refine Qco (Za9 hG r h) ?_;simp -implicitDefEqProofs[openA,e,bkA]
 . refine PC.nzR (v:=.tup [.nils,.int .i64 (openV r)]) ?_ (by simp[nz,e])
   (refine Z7Q rfl λR hG hrd=>Qga ?_;subst hG)
   simp -implicitDefEqProofs[Z7O,Z7P,rega];refine Qco (Za9 hG r h) ?_;simp -implicitDefEqProofs[openA,e]
def Zao (hG:GC G) (r:Jr) (n:Int) (h:Wf r):PC prog G 28 [rega r,.int .i64 n] (.tup [.int .i64 (if knV r n=0 then cntV r n else 0),.int .i64 (knV r n)]):=by
 (refine Z7T rfl λR hG hrd=>Qga ?_;subst hG)
 simp -implicitDefEqProofs[Z7R,Z7S,rega];refine Qco (Zal hG r n h) ?_;by_cases e:knV r n=0
 . have e1:openV r=0:=by
    unfold knV at e
    split at e
    . assumption
    . exact e
   have hO:=Z8x (Zaa e1);simp -implicitDefEqProofs[e];refine Qco (Z9z r (nums r) n (Zai hO) h.1.1) ?_;simp -implicitDefEqProofs
 . simp -implicitDefEqProofs[e]
def Zap (hG:GC G) (r:Jr) (n:Int) (h:Wf r):PC prog G 21 [rega r,.int .i64 n] (.tup [.int .i64 (if knV r n=0 then dpG (dRun r (nums r).length).1 n else 0),.int .i64 (knV r n)]):=by
 (refine Z7Z rfl λR hG hrd=>Qga ?_;subst hG)
 simp -implicitDefEqProofs[Z7X,Z7Y,rega];refine Qco (Zal hG r n h) ?_;by_cases e:knV r n=0
 . have e1:openV r=0:=by
    unfold knV at e
    split at e
    . assumption
    . exact e
   have hL:=Zaa e1;simp -implicitDefEqProofs[e];refine Qco (Z9V r h (Z8x hL) (Zab hL)) ?_;simp -implicitDefEqProofs[Z9C,dpG]
   cases q:dpLk n (dRun r (nums r).length).1 <;> simp -implicitDefEqProofs[q]
 . simp -implicitDefEqProofs[e]
def atP (r:Jr) (d l:Int):Iss×Int:=if openV r=0 then match findN d l r with
    |some x=>(x,0)
    |none=>(zI,6)
 else (zI,openV r)
def chL (l:Jr):List Int:=l.flatMap λx=>x.its.map (·.1)
def Zaq (x:Iss) (l:Jr):chL (x::l)=x.its.map (·.1)++chL l:=rfl
def C (r:Jr) (n:Int):List Int:=chL (issOf r n)
def dvL (f:Int->Int) (m:Int) (l:Jr):Int:=l.foldl (λm x=>dvIt f (max m 1) x.its) m
def Zar (r:Jr) (f:Int->Int) (n:Int):∀ i,i<=r.length->dvN r f n i=dvL f 0 (issOf (r.take i) n)
 |0,_=>by simp[dvN,issOf,dvL]
 | i+1,hi=>by
   have hlt:i<r.length:=(by omega);have ih:=Zar r f n i (by omega);rw[W08 hlt,issOf,W19,dvN,at_eq hlt];by_cases e:r[i].d=n
   . rw[if_pos e,ih,W24 (by simpa using e),dvL,dvL,W1p];rfl
   . rw[if_neg e,ih,W25 (by simpa using e),List.filter_nil,W1B];rfl
def Zas (f:Int->Int):∀ (its:List (Int×Int)) (m:Int),m<=dvIt f m its/\(∀ y∈its,1+f y.1<=dvIt f m its)/\(dvIt f m its=m∨∃ y∈its,dvIt f m its=1+f y.1)
 |[],m=>⟨W1R _,by simp,.inl rfl⟩
 | y :: its,m=>by
   obtain ⟨h1,h2,h3⟩:=Zas f its (max m (1+f y.1));have e:dvIt f m (y::its)=dvIt f (max m (1+f y.1)) its:=rfl;rw[e];refine ⟨by omega,λz hz=>?_,?_⟩
   . rcases W0g.1 hz with rfl|hz
     . omega
     . exact h2 z hz
   . rcases h3 with h3 | ⟨z,hz,h3⟩
     . rcases Int.le_total m (1+f y.1) with hm|hm
       . exact .inr ⟨y,W0H ..,by omega⟩
       . exact .inl (by omega)
     . exact .inr ⟨z,W0z _ hz,h3⟩
def Zat (f:Int->Int):∀ (l:Jr) (m:Int),m<=dvL f m l/\(l≠[]->1<=dvL f m l)/\(∀ c∈chL l,1+f c<=dvL f m l)/\(dvL f m l=m∨dvL f m l=1∨∃ c∈chL l,dvL f m l=1+f c)
 |[],m=>⟨W1R _,by simp,by simp[chL],.inl rfl⟩
 | x :: l,m=>by
   obtain ⟨h1,h2,h3⟩:=Zas f x.its (max m 1);obtain ⟨g1,g2,g3,g4⟩:=Zat f l (dvIt f (max m 1) x.its);have e:dvL f m (x::l)=dvL f (dvIt f (max m 1) x.its) l:=rfl;rw[e];have q1:m<=max m 1:=Int.le_max_left ..;have q2:1<=max m 1:=Int.le_max_right ..;refine ⟨Int.le_trans q1 (Int.le_trans h1 g1),λ_=>Int.le_trans q2 (Int.le_trans h1 g1),λc hc=>?_,?_⟩
   . rw[Zaq]at hc;rcases W0h.1 hc with hc|hc
     . obtain ⟨y,hy,rfl⟩:=W0i.1 hc;exact Int.le_trans (h2 y hy) g1
     . exact g3 c hc
   . rcases g4 with g4|g4 | ⟨c,hc,g4⟩
     . rcases h3 with h3 | ⟨y,hy,h3⟩
       . rcases Int.le_total m 1 with hm|hm
         . exact .inr (.inl (by omega))
         . exact .inl (by omega)
       . exact .inr (.inr ⟨y.1,by rw[Zaq];exact W0h.2 (.inl (W0i.2 ⟨y,hy,rfl⟩)),by omega⟩)
     . exact .inr (.inl g4)
     . exact .inr (.inr ⟨c,by rw[Zaq];exact W0h.2 (.inr hc),g4⟩)
section
variable {r:Jr}
def Zau (hO:Ord r) {n:Int} (hn:n∈nums r):issOf r n≠[]:=by
 obtain ⟨i,hi,rfl⟩:=Z8B hO hn;exact List.ne_nil_of_mem (a:=r[i]) (W0G.2 ⟨W0e hi,by simp⟩)
def Dv_eq (r:Jr) (k:Nat) (n:Int):Dv r (k+1) n=dvL (Dv r k) 0 (issOf r n):=by
 rw[Dv,Zar r _ n _ (W0f _),W0v]
def Dv_ch (k:Nat) (n:Int) {c:Int} (hc:c∈C r n):1+Dv r k c<=Dv r (k+1) n:=by
 rw[Dv_eq];exact (Zat _ _ _).2.2.1 c hc
def Zav (hO:Ord r) (k:Nat) {n:Int} (hn:n∈nums r):1<=Dv r (k+1) n:=by
 rw[Dv_eq];exact (Zat _ _ _).2.1 (Zau hO hn)
def Dv_or (hO:Ord r) (k:Nat) {n:Int} (hn:n∈nums r):Dv r (k+1) n=1∨∃ c∈C r n,Dv r (k+1) n=1+Dv r k c:=by
 have h1:=Zav hO k hn;rw[Dv_eq]at *;rcases (Zat (Dv r k) (issOf r n) 0).2.2.2 with h|h|h
 . omega
 . exact .inl h
 . exact .inr h
def C_in (hin:∀ x∈r,ItsIn r x) {n c:Int} (hc:c∈C r n):c∈nums r:=by
 obtain ⟨x,hx,hc⟩:=W0u.1 hc;obtain ⟨y,hy,rfl⟩:=W0i.1 hc;exact hin x (W0G.1 hx).1 y hy
def Zaw (lf:List Int):∀ (its:List (Int×Int)) (b:Bool),rdIt lf b its=true↔b=true/\∀ y∈its,y.1 ∉ lf
 |[],b=>by simp[rdIt]
 | y::its,b=>by
   have e:rdIt lf b (y::its)=rdIt lf (b && !decide (y.1∈lf)) its:=rfl;rw[e,Zaw lf its];simp[and_assoc]
def Zax (lf:List Int):∀ (l:Jr) (b:Bool),rdN lf b l=true↔b=true/\∀ c∈chL l,c ∉ lf
 |[],b=>by simp[rdN,chL]
 | x :: l,b=>by
   have e:rdN lf b (x::l)=rdN lf (rdIt lf b x.its) l:=rfl;rw[e,Zax lf l,Zaw,Zaq];simp only[W0h,W0i]
   constructor
   . rintro ⟨⟨h1,h2⟩,h3⟩;refine ⟨h1,λc hc=>?_⟩;rcases hc with ⟨y,hy,rfl⟩|hc
     . exact h2 y hy
     . exact h3 c hc
   . rintro ⟨h1,h2⟩;exact ⟨⟨h1,λy hy=>h2 _ (.inl ⟨y,hy,rfl⟩)⟩,λc hc=>h2 c (.inr hc)⟩
def Zay (dp:List (Int×Int)):∀ (its:List (Int×Int)) (m:Int),m<=msIt dp m its/\(∀ y∈its,dpG dp y.1<=msIt dp m its)/\(msIt dp m its=m∨∃ y∈its,msIt dp m its=dpG dp y.1)
 |[],m=>⟨W1R _,by simp,.inl rfl⟩
 | y :: its,m=>by
   obtain ⟨h1,h2,h3⟩:=Zay dp its (max m (dpG dp y.1));have e:msIt dp m (y::its)=msIt dp (max m (dpG dp y.1)) its:=rfl;rw[e];refine ⟨by omega,λz hz=>?_,?_⟩
   . rcases W0g.1 hz with rfl|hz
     . omega
     . exact h2 z hz
   . rcases h3 with h3 | ⟨z,hz,h3⟩
     . rcases Int.le_total m (dpG dp y.1) with hm|hm
       . exact .inr ⟨y,W0H ..,by omega⟩
       . exact .inl (by omega)
     . exact .inr ⟨z,W0z _ hz,h3⟩
def Zaz (dp:List (Int×Int)):∀ (l:Jr) (m:Int),m<=msN dp m l/\(∀ c∈chL l,dpG dp c<=msN dp m l)/\(msN dp m l=m∨∃ c∈chL l,msN dp m l=dpG dp c)
 |[],m=>⟨W1R _,by simp[chL],.inl rfl⟩
 | x :: l,m=>by
   obtain ⟨h1,h2,h3⟩:=Zay dp x.its m;obtain ⟨g1,g2,g3⟩:=Zaz dp l (msIt dp m x.its);have e:msN dp m (x::l)=msN dp (msIt dp m x.its) l:=rfl;rw[e];refine ⟨by omega,λc hc=>?_,?_⟩
   . rw[Zaq]at hc;rcases W0h.1 hc with hc|hc
     . obtain ⟨y,hy,rfl⟩:=W0i.1 hc;have:=h2 y hy;omega
     . exact g2 c hc
   . rcases g3 with g3 | ⟨c,hc,g3⟩
     . rcases h3 with h3 | ⟨y,hy,h3⟩
       . exact .inl (by omega)
       . exact .inr ⟨y.1,by rw[Zaq];exact W0h.2 (.inl (W0i.2 ⟨y,hy,rfl⟩)),by omega⟩
     . exact .inr ⟨c,by rw[Zaq];exact W0h.2 (.inr hc),g3⟩
def ZaA {n:Int}:∀ {dp:List (Int×Int)},n∈dp.map (·.1)->∃ v,dpLk n dp=some v
 |[],h=>by simp at h
 | p :: dp,h=>by
   simp only[dpLk]
   split
   . exact ⟨_,rfl⟩
   . rename_i e;simp only[W0F,W0g]at h;exact ZaA (h.resolve_left λe2=>e (by rw[e2]))
def AInv (r:Jr) (s:List (Int×Int)×List Int):Prop:=∀ p∈s.1,∀ j:Nat,p.2<=j->Dv r j p.1=p.2
def AInv.step (hO:Ord r) (hin:∀ x∈r,ItsIn r x) {s:List (Int×Int)×List Int} (hd:DInv r s) (h:AInv r s) {n:Int} (hn:n∈nums r):AInv r (dStep r s n):=by
 unfold dStep
 split
 . rename_i hb;obtain ⟨h1,h2⟩:=(Zax _ _ _).1 hb
   have kids:∀ c∈C r n,(c,dpG s.1 c)∈s.1:=λc hc=>by
    have hc1:c∈s.1.map (·.1)++s.2:=hd.perm.mem_iff.2 (C_in hin hc);have hc2:c∈s.1.map (·.1):=(W0h.1 hc1).resolve_right (h2 c hc);obtain ⟨v,hv⟩:=ZaA hc2;have:=Z9Q hv
    rwa [show dpG s.1 c=v by simp[dpG,hv]]
   obtain ⟨m1,m2,m3⟩:=Zaz s.1 (issOf r n) 0;intro p hp j hj;rcases W0h.1 hp with hp|hp
   . exact h p hp j hj
   . simp only[W0B]at hp;subst hp;simp only at hj ⊢;obtain ⟨j,rfl⟩ : ∃ j',j=j'+1:=⟨j-1,by omega⟩
     have same:∀ c∈C r n,Dv r j c=dpG s.1 c:=λc hc=>by
      have:=m2 c hc;exact h _ (kids c hc) j (by simp only;omega)
     have o1:=Zav hO j hn
     apply Int.le_antisymm
     . rcases Dv_or hO j hn with e | ⟨c,hc,e⟩
       . omega
       . have:=m2 c hc;have:=same c hc;omega
     . rcases m3 with e | ⟨c,hc,e⟩
       . omega
       . have:=Dv_ch (r:=r) j n hc;have:=same c hc;omega
 . exact h
def AInv.fold (hO:Ord r) (hin:∀ x∈r,ItsIn r x):∀ (l:List Int) {s:List (Int×Int)×List Int},(∀ n∈l,n∈nums r)->DInv r s->AInv r s->AInv r (l.foldl (dStep r) s)
 |[],s,_,_,h=>h
 |n::l,s,hl,hd,h=>AInv.fold hO hin l (λm hm=>hl m (W0z _ hm)) (hd.step n) (h.step hO hin hd (hl n (W0H ..)))
def AInv.run (hO:Ord r) (hin:∀ x∈r,ItsIn r x):∀ k,AInv r (dRun r k)
 |0=>by intro p hp;simp[dRun]at hp
 |k+1=>AInv.fold hO hin (nums r) (λ_ h=>h) (DInv.run r k) (AInv.run hO hin k)
def dp_Dv (hL:Z8s r=true) (h:(dRun r (nums r).length).2.length=0) {n:Int} (hn:n∈nums r):(n,dpG (dRun r (nums r).length).1 n)∈(dRun r (nums r).length).1/\Dv r ((nums r).length+1) n=dpG (dRun r (nums r).length).1 n:=by
 have hd:=DInv.run r (nums r).length;have h0:(dRun r (nums r).length).2=[]:=W0l.1 h
 have h1:n∈(dRun r (nums r).length).1.map (·.1):=by
  have:=hd.perm.mem_iff.2 hn
  rwa [h0,W1B]at this
 obtain ⟨v,hv⟩:=ZaA h1;have hm:=Z9Q hv;have e:dpG (dRun r (nums r).length).1 n=v:=(by simp[dpG,hv]);rw[e];refine ⟨hm,?_⟩;have hb:=hd.bd _ hm;have hl:=hd.len;exact AInv.run (Z8x hL) (λx hx=>Zaf hL hx) _ _ hm _ (by simp only at hb ⊢;omega)
def ZaB {r:Jr} (h:openV r=0):(dRun r (nums r).length).2.length=0:=by
 unfold openV at h
 split at h
 . split at h
   . cases h
   . omega
 . cases h
def ZaC {i:Nat} (hi:i<r.length) (n:Int):issOf (r.take (i+1)) n=if r[i].d=n then issOf (r.take i) n++[r[i]] else issOf (r.take i) n:=by
 rw[W08 hi,issOf,W19]
 split
 . rename_i e;rw[W24 (by simpa using e)];rfl
 . rename_i e;rw[W25 (by simpa using e),List.filter_nil,W1B];rfl
def ZaD (hL:Z8s r=true):∀ (i:Nat) (hi:i<r.length),r[i].l=((issOf (r.take (i+1)) r[i].d).length:Nat)
 | 0,hi=>by
   have h0:=Zae hL hi;simp only[ordB,W0b,at_eq hi]at h0;rw[h0,ZaC hi,if_pos rfl];simp[issOf]
 | j + 1,hi=>by
   have hj:j<r.length:=(by omega);have h0:=Zae hL hi;have ih:=ZaD hL j hj;have hO:=Z8x hL;rw[ZaC hi,if_pos rfl];simp only[ordB,at_eq hi,at_eq hj]at h0
   split at h0
   . cases h0
   . split at h0
     . rename_i h1 h2
       have e:issOf (r.take (j+1)) r[j+1].d=[]:=by
        rw[issOf,W27];intro x hx;obtain ⟨k,hk,rfl⟩:=W0k hx;simp only[W15]at hk;have:=hO.mono (i:=k) (j:=j) (by omega) hj;rw[at_eq (show k<r.length by omega),at_eq hj]at this;simp only[W1O,W0b];omega
       rw[e];simpa using h0
     . rename_i h1 h2;simp only[W01,W0b]at h0;have e:r[j+1].d=r[j].d:=(by omega);rw[e,h0.1,ih];simp
def ZaE (hL:Z8s r=true) (n:Int):∀ i,i<=r.length->lastN r n i=((issOf (r.take i) n).length:Nat)
 |0,_=>by simp[lastN,issOf]
 | i + 1,hi=>by
   have hlt:i<r.length:=(by omega);have ih:=ZaE hL n i (by omega);rw[lastN,at_eq hlt,ZaC hlt]
   split
   . rename_i e;have:=ZaD hL i hlt;rw[e,ZaC hlt,if_pos e]at this;rw[ih,this];simp only[W0s,W1o,W1N];omega
   . exact ih
def ZaF (hL:Z8s r=true) (n:Int):lastV r n=cntV r n:=by
 rw[lastV,ZaE hL n _ (W0f _),W0v];rfl
end
def twR (r:Jr) (i:Nat):List (List AV):=(r.take i).map isa
def ZaG {r:Jr} {i:Nat} (h:i<=r.length):(twR r i).length=i:=by simp[twR];omega
def ZaH {r:Jr} {i:Nat} (h:i<r.length):twR r (i+1)=twR r i++[[.int .i64 r[i].d,.int .i64 r[i].l,.int .u8 r[i].k,.vsl (r[i].its.map ita),.vsl (r[i].dms.map dma)]]:=by
 rw[twR,W08 h,W0r];rfl
def ZaI {r:Jr} {i:Nat} (o:List (Nat×AObj)):Yc o (.row 5 (twR r i))=true:=by
 simp only[Yc,W03,twR,W0i];rintro x ⟨y,-,rfl⟩ v hv;simp only[isa,W0g,W0Q,or_false]at hv;rcases hv with rfl|rfl|rfl|rfl|rfl <;> simp[Ya,AV.keys]
def ZaJ (r:Jr):twR r r.length=r.map isa:=by rw[twR,W0v]
def ltOf (r:Jr) (lt:List Int) (n:Int):Int:=lt.getD ((nums r).idxOf n) 0
def tkV (r:Jr) (lt:List Int) (n:Int):Iss:=(findN n (ltOf r lt n) r).getD zI
def ltB (r:Jr) (lt:List Int):Bool:=decide (lt.length=(nums r).length)&&(List.range (nums r).length).all λi=>inR (lt.getD i 0) 1 (lastV r ((nums r).getD i 0))
def askV (r:Jr) (lt:List Int) (n:Int):Int:=if openV r≠0 then openV r else if ltB r lt=false then 22 else if n∈nums r then 0 else 6
section
variable {r:Jr}
def ZaK (hL:Z8s r=true) (n:Int):∀ (i:Nat),i<=r.length->∀ k:Nat,1<=k->k<=(issOf (r.take i) n).length->∃ j,∃ h:j<r.length,r[j].d=n/\r[j].l=k
 |0,_,k,h1,h2=>by simp[issOf]at h2;omega
 | i + 1,hi,k,h1,h2=>by
   have hlt:i<r.length:=(by omega);by_cases c:k<=(issOf (r.take i) n).length
   . exact ZaK hL n i (by omega) k h1 c
   . have hl:=ZaD hL i hlt;rw[ZaC hlt]at h2
     split at h2
     . rename_i e;simp only[W0s,W1o,W1N]at h2;refine ⟨i,hlt,e,?_⟩;rw[hl,e,ZaC hlt,if_pos e];simp only[W0s,W1o,W1N];omega
     . omega
def ZaL (hL:Z8s r=true) {x:Iss} (hx:x∈r):1<=x.l/\x.l<=cntV r x.d:=by
 obtain ⟨i,hi,rfl⟩:=W0k hx;have h1:=ZaD hL i hi;have h2:(issOf (r.take (i+1)) r[i].d).length<=(issOf r r[i].d).length:=((List.take_sublist (i+1) r).filter _).length_le;have h3:0<(issOf (r.take (i+1)) r[i].d).length:=(by rw[ZaC hi,if_pos rfl];simp);have h4:cntV r r[i].d=((issOf r r[i].d).length:Nat):=rfl;omega
def ZaM (hL:Z8s r=true) {x:Iss} (hx:x∈r):findN x.d x.l r=some x:=Zak hL x hx
def ZaN (hL:Z8s r=true) (n l:Int):(findN n l r).isSome=true↔inR l 1 (lastV r n)=true:=by
 rw[inR,W0b,ZaF hL]
 constructor
 . intro h;obtain ⟨x,hx⟩:=W0t.1 h;obtain ⟨h1,rfl,rfl⟩:=Z8I hx;exact ZaL hL h1
 . rintro ⟨h1,h2⟩;have h3:cntV r n=((issOf r n).length:Nat):=rfl;obtain ⟨j,hj,rfl,e⟩:=ZaK hL n r.length (W0f _) l.toNat (by omega) (by rw[W0v];omega);have:=ZaM hL (W0e hj);rw[e,show ((l.toNat:Nat):Int)=l by omega]at this;rw[this];rfl
def ZaO {n:Int} (hn:n∈nums r):(nums r).idxOf n<(nums r).length/\(nums r).getD ((nums r).idxOf n) 0=n:=by
 have h1:(nums r).idxOf n<(nums r).length:=List.idxOf_lt_length_iff.2 hn;exact ⟨h1,by rw[W0j,W07 h1,List.getElem_idxOf h1];rfl⟩
def ZaP (hL:Z8s r=true) {lt:List Int} (h:ltB r lt=true) {n:Int} (hn:n∈nums r):findN n (ltOf r lt n) r=some (tkV r lt n):=by
 simp only[ltB,W01,W0b]at h;obtain ⟨h1,h2⟩:=ZaO hn;have:=Z8r.1 h.2 _ h1;rw[h2,<- ZaN hL]at this;obtain ⟨x,hx⟩:=W0t.1 this;have e:findN n (ltOf r lt n) r=some x:=hx;rw[tkV,e];rfl
def ZaQ (hL:Z8s r=true) {lt:List Int} (h:ltB r lt=true) {n:Int} (hn:n∈nums r):tkV r lt n∈r/\(tkV r lt n).d=n :=
 let ⟨h1,h2,_⟩:=Z8I (ZaP hL h hn);⟨h1,h2⟩
def ZaR (hL:Z8s r=true) {lt:List Int} (h:ltB r lt=true) {n:Int} (hn:n∈nums r):∀ y∈(tkV r lt n).its,y.1∈nums r:=Zaf hL (ZaQ hL h hn).1
def ZaS {x:Iss} (h:issB x=true):1<=x.k/\x.k<=3/\x.its.length<=8/\(x.k≠1->x.its=[]):=by
 simp only[issB,headB,W01,inR,W0b]at h;obtain ⟨⟨⟨⟨-,h1⟩,h2⟩,-⟩,-⟩:=h;refine ⟨by omega,by omega,?_,λhk=>?_⟩
 . split at h2
   . simp only[W01,W0b]at h2;omega
   . simp only[W01,W0b]at h2;omega
 . rw[if_neg hk]at h2;simp only[W01,W0b]at h2;exact W0l.1 h2.2
def dpN (r:Jr) (n:Int):Nat:=(Dv r ((nums r).length+1) n).toNat
def ZaT (ho:openV r=0) {n:Int} (hn:n∈nums r):1<=dpN r n/\dpN r n<=6:=by
 have hL:=Zaa ho;have h0:=ZaB ho;obtain ⟨h1,h2⟩:=dp_Dv hL h0 hn;have hb:=(DInv.run r (nums r).length).bd _ h1
 have h6:dpG (dRun r (nums r).length).1 n<=6:=by
  unfold openV at ho;rw[if_pos hL,if_neg (by omega)]at ho
  split at ho
  . cases ho
  . rename_i h3;exact Int.not_lt.1 λh4=>h3 ⟨_,h1,h4⟩
 unfold dpN;rw[h2];simp only at hb;omega
def ZaU (ho:openV r=0) {n c:Int} (hn:n∈nums r) (hc:c∈C r n):dpN r c<dpN r n:=by
 have hL:=Zaa ho;have h0:=ZaB ho;have hcn:c∈nums r:=C_in (λx hx=>Zaf hL hx) hc;obtain ⟨h1,h2⟩:=dp_Dv hL h0 hcn;have hd:=DInv.run r (nums r).length;have hb:=hd.bd _ h1;have hl:=hd.len;have e:=AInv.run (Z8x hL) (λx hx=>Zaf hL hx) _ _ h1 (nums r).length (by simp only at hb ⊢;omega);have g1:=Dv_ch (r:=r) (nums r).length n hc;have g2:=(Dv_bd r ((nums r).length+1) n).1;have g3:=(Dv_bd r ((nums r).length+1) c).1;simp only at e;unfold dpN;omega
def its_C (hL:Z8s r=true) {lt:List Int} (h:ltB r lt=true) {n:Int} (hn:n∈nums r) {y:Int×Int} (hy:y∈(tkV r lt n).its):y.1∈C r n:=by
 obtain ⟨h1,h2⟩:=ZaQ hL h hn;exact W0u.2 ⟨_,W0G.2 ⟨h1,by simpa using h2⟩,W0i.2 ⟨y,hy,rfl⟩⟩
end
def addW (a b:Int):Int:=i64.wrap (a+b)
def mulW (a b:Int):Int:=i64.wrap (a*b)
def paV (T:Int->Iss):Nat->Int->Int->(Int->Int)->(Int->Int)
 |0,_,_,g=>g
 |k+1,d,m,g=>if 1<(T d).k then (λn=>if n=d then addW (g d) m else g n) else (T d).its.foldl (λg y=>paV T k y.1 (mulW m y.2) g) g
def mpG (l:List (Int×Int)) (n:Int):Int:=dpG l n
def mpPut (n v:Int):List (Int×Int)->List (Int×Int)
 |[]=>[(n,v)]
 |p::l=>if p.1=n then (n,v)::l else p::mpPut n v l
def paM (T:Int->Iss):Nat->Int->Int->List (Int×Int)->List (Int×Int)
 |0,_,_,l=>l
 |k+1,d,m,l=>(T d).its.foldl (λl y=>paM T k y.1 (mulW m y.2) l) (if (T d).k=1 then l else mpPut d (addW (mpG l d) m) l)
def ZaV (n v:Int):∀ (l:List (Int×Int)) (x:Int),mpG (mpPut n v l) x=if x=n then v else mpG l x
 | [],x=>by
   simp only[mpPut,mpG,dpG,dpLk];by_cases e:x=n
   . rw[if_pos e,if_pos e];rfl
   . rw[if_neg e,if_neg e]
 | p :: l,x=>by
   have ih:=ZaV n v l x;simp only[mpG,dpG]at ih ⊢;simp only[mpPut];by_cases e:p.1=n
   . rw[if_pos e];simp only[dpLk];by_cases e2:x=n
     . rw[if_pos e2,if_pos e2];rfl
     . rw[if_neg e2,if_neg e2,if_neg (by rw[e];exact e2)]
   . rw[if_neg e];simp only[dpLk];by_cases e2:x=p.1
     . rw[if_pos e2,if_pos e2,if_neg (by rintro rfl;exact e e2.symm)]
     . rw[if_neg e2,if_neg e2];exact ih
def ZaW {T:Int->Iss} {D:List Int} (hk:∀ d∈D,1<=(T d).k/\((T d).k≠1->(T d).its=[])) (hin:∀ d∈D,∀ y∈(T d).its,y.1∈D):∀ (k:Nat) (d m:Int) (l:List (Int×Int)),d∈D->mpG (paM T k d m l)=paV T k d m (mpG l)
 |0,d,m,l,_=>rfl
 | k + 1,d,m,l,hd=>by
   obtain ⟨h1,h2⟩:=hk d hd;simp only[paM,paV];by_cases e:(T d).k=1
   . rw [if_pos e,if_neg (by omega)]
     have key:∀ (its:List (Int×Int)) (l:List (Int×Int)),(∀ y∈its,y.1∈D)->mpG (its.foldl (λl y=>paM T k y.1 (mulW m y.2) l) l)=its.foldl (λg y=>paV T k y.1 (mulW m y.2) g) (mpG l):=by
      intro its
      induction its with
      |nil=>intro l _;rfl
      | cons y its ih =>
        intro l hy;simp only[W21];rw[ih _ λz hz=>hy z (W0z _ hz),ZaW hk hin k y.1 _ l (hy y (W0H ..))]
     exact key _ l (hin d hd)
   . rw[if_neg e,if_pos (by omega),h2 e,List.foldl_nil]
     funext n
     rw[ZaV]
def ptN (l:List Int) (g:Int->Int) (i:Nat):List (Int×Int):=((l.take i).filter λn=>decide (0<g n)).map λn=>(n,g n)
def ZaX {l:List Int} {g:Int->Int} {i:Nat} (h:i<l.length):ptN l g (i+1)=if 0<g l[i] then ptN l g i++[(l[i],g l[i])] else ptN l g i:=by
 rw[ptN,W08 h,W19,W0r]
 split
 . rename_i e;rw[W24 (by simpa using e)];rfl
 . rename_i e;rw[W25 (by simpa using e),List.filter_nil,W1c,W1B];rfl
def ZaY (l:List Int) (g:Int->Int) (i:Nat):(ptN l g i).length<=i:=by
 simp only[ptN,W0N];exact W0O (W0D _ _) (by simp;omega)
def exV (r:Jr) (lt:List Int) (n:Int):List (Int×Int)×Int:=if askV r lt n=0 then (ptN (nums r) (paV (tkV r lt) 6 n 1 λ_=>0) (nums r).length,0) else ([],askV r lt n)
def ask_0 {r:Jr} {lt:List Int} {n:Int} (h:askV r lt n=0):openV r=0/\ltB r lt=true/\n∈nums r:=by
 unfold askV at h
 split at h
 . rename_i e;exact absurd h e
 . rename_i e
   split at h
   . cases h
   . rename_i e2
     split at h
     . rename_i e3;exact ⟨by simpa using e,by simpa using e2,e3⟩
     . cases h
structure Brn where
 dep:Int
 d:Int
 l:Int
 c:Int
 deriving DecidableEq,Inhabited
def bra (b:Brn):List AV:=[.int .i64 b.dep,.int .i64 b.d,.int .i64 b.l,.int .i64 b.c]
def trV (T:Int->Iss):Nat->Int->Int->Int->List Brn
 |0,_,_,_=>[]
 |k+1,dep,d,c=>⟨dep,d,(T d).l,c⟩::(T d).its.flatMap λy=>trV T k (dep+1) y.1 y.2
def brN (T:Int->Iss):Nat->Int->Nat
 |0,_=>0
 |k+1,d=>(T d).its.foldl (λa y=>a+brN T k y.1) 1
def ZaZ {T:Int->Iss}:∀ (k:Nat) (dep d c:Int),(trV T k dep d c).length=brN T k d
 |0,_,_,_=>rfl
 | k+1,dep,d,c=>by
   have key:∀ (its:List (Int×Int)) (a:Nat),its.foldl (λa y=>a+brN T k y.1) a=a+(its.flatMap λy=>trV T k (dep+1) y.1 y.2).length:=by
    intro its
    induction its with
    |nil=>intro a;simp
    | cons y its ih =>
      intro a;rw[W21,ih,List.flatMap_cons,W0s,ZaZ k];omega
   rw[brN,key];simp only[trV,W1o];omega
def grV (T:Int->Iss):Nat->Int->Int->Int->List Brn->List Brn
 |0,_,_,_,l=>l
 |k+1,dep,d,c,l=>if 500<l.length then l else (T d).its.foldl (λl y=>grV T k (dep+1) y.1 y.2 l) (l++[⟨dep,d,(T d).l,c⟩])
def Zb0 {T:Int->Iss}:∀ (k:Nat) (dep d c:Int) (l:List Brn),l.length<=501->(grV T k dep d c l).length<=501
 |0,_,_,_,_,h=>h
 | k + 1,dep,d,c,l,h=>by
   simp only[grV]
   split
   . exact h
   . have key:∀ (its:List (Int×Int)) (l:List Brn),l.length<=501->(its.foldl (λl y=>grV T k (dep+1) y.1 y.2 l) l).length<=501:=by
      intro its
      induction its with
      |nil=>intro l h;exact h
      |cons y its ih=>intro l h;exact ih _ (Zb0 k _ _ _ _ h)
     exact key _ _ (by simp;omega)
def Zb1 {T:Int->Iss}:∀ (k:Nat) (dep d c:Int) (l:List Brn),((l++trV T k dep d c).length<=500->grV T k dep d c l=l++trV T k dep d c)/\(500<(l++trV T k dep d c).length->500<(grV T k dep d c l).length)
 |0,dep,d,c,l=>by simp[grV,trV]
 | k + 1, dep,d,c,l=>by
   simp only[grV];by_cases h:500<l.length
   . rw[if_pos h];exact ⟨λh2=>by simp at h2;omega,λ_=>h⟩
   . rw [if_neg h]
     have key:∀ (its:List (Int×Int)) (l:List Brn),((l++its.flatMap λy=>trV T k (dep+1) y.1 y.2).length<=500->its.foldl (λl y=>grV T k (dep+1) y.1 y.2 l) l=l++its.flatMap λy=>trV T k (dep+1) y.1 y.2) /\
       (500<(l++its.flatMap λy=>trV T k (dep+1) y.1 y.2).length->500<(its.foldl (λl y=>grV T k (dep+1) y.1 y.2 l) l).length):=by
      intro its
      induction its with
      |nil=>intro l;simp
      | cons y its ih =>
        intro l;obtain ⟨g1,g2⟩:=Zb1 (T:=T) k (dep+1) y.1 y.2 l;obtain ⟨i1,i2⟩:=ih (grV T k (dep+1) y.1 y.2 l);simp only[W21,List.flatMap_cons];rw[<- W0U];by_cases c1:(l++trV T k (dep+1) y.1 y.2).length<=500
        . rw[g1 c1]at i1 i2 ⊢;exact ⟨i1,i2⟩
        . have c2:=g2 (by omega);refine ⟨λh2=>by simp only[W0s]at h2 c1;omega,λ_=>i2 ?_⟩;simp only[W0s];omega
     have:=key (T d).its (l++[⟨dep,d,(T d).l,c⟩]);simp only[trV];rw[W0U,List.singleton_append]at this;exact this
def Zb2 {r:Jr} (ho:openV r=0) {n:Int} (hn:n∈nums r) (h:dpN r n<=0):False:=by have:=ZaT ho hn;omega
def Zb3 {r:Jr} {lt:List Int} (ho:openV r=0) (hlt:ltB r lt=true) {n:Int} (hn:n∈nums r) {k:Nat} (hk:dpN r n<=k+1) {y:Int×Int} (hy:y∈(tkV r lt n).its):y.1∈nums r/\dpN r y.1<=k:=by
 have hL:=Zaa ho;have:=ZaU ho hn (its_C hL hlt hn hy);exact ⟨ZaR hL hlt hn y hy,by omega⟩
def tk_8 {r:Jr} {lt:List Int} (ho:openV r=0) (hlt:ltB r lt=true):∀ d∈nums r,(tkV r lt d).its.length<=8:=λd hd =>
 (ZaS (Zad (Zaa ho) (ZaQ (Zaa ho) hlt hd).1)).2.2.1
def Zb4 (l:List Brn):(l.map bra).all (λr=>r.length == 4)=true/\(l.map bra).all (λr=>r.all AV.one)=true/\(l.map bra).all (λr=>r.all AV.pure)=true:=by
 refine ⟨by simp[bra],by simp[bra,AV.one],by simp[bra,AV.pure]⟩
def Zb5 (l:List Brn) (o:List (Nat×AObj)):Yc o (.row 4 (l.map bra))=true:=by
 simp only[Yc,W03,W0i];rintro x ⟨y,-,rfl⟩ v hv;simp only[bra,W0g,W0Q,or_false]at hv;rcases hv with rfl|rfl|rfl|rfl <;> simp[Ya,AV.keys]
def GO0 {P:Program} {R:Run} {c:RCode} {ks:List KF} {Φ:Exit->St->Prop} {st:St} (h:AR P R c st (RetP P R ks Φ)):GO P R 0 (.run c) ks Φ st:=h
def Zb6 (l:List (Int×Int)) (o:List (Nat×AObj)):Yc o (.row 2 (l.map ita))=true:=by
 simp only[Yc,W03,W0i];rintro x ⟨y,-,rfl⟩ v hv;simp only[ita,W0g,W0Q,or_false]at hv;rcases hv with rfl|rfl <;> simp[Ya,AV.keys]
def trE (r:Jr) (lt:List Int) (n:Int):List Brn×Int:=if askV r lt n=0 then if 500<brN (tkV r lt) 6 n then ([],4) else (trV (tkV r lt) 6 0 n 1,0) else ([],askV r lt n)
def Zb7 {a b:Brn} (h:¬a=b):(!decide (a.dep=b.dep)||(!decide (a.d=b.d)||(!decide (a.l=b.l) || !decide (a.c=b.c))))=true:=by
 cases h5:(!decide (a.dep=b.dep)||(!decide (a.d=b.d)||(!decide (a.l=b.l) || !decide (a.c=b.c))))
 . simp only[W1M,Bool.not_eq_false',W0b]at h5
   cases a;cases b;simp_all
 . rfl
def Zb8 (a b:List Brn) (ha:Sml a):PC prog G 50 [.vsl (a.map bra),.vsl (b.map bra)] (.bool (decide (a=b))):=by
 (refine Z65 rfl λR hG hrd=>Qga ?_;subst hG)
 by_cases hl:a.length=b.length
 . have hl':(a.length:Int)=b.length:=(by omega);simp -implicitDefEqProofs[Z63,Z64,hl'];refine Z8h (λi=>⟨[(5,.int .i64 i),(0,.vsl (a.map bra)),(1,.vsl (b.map bra))],[]⟩) (λi=>∀ j (h:j<a.length),j<i->a[j]=b[j]) a.length (by (first|exact Wka|exact Wkb)) (by simp) ?_ ?_
   . intro i hi he;refine Qga ?_;unfold Sml at ha;have hi2:i<b.length:=(by omega);have w1:i64.wrap ((i:Int)+1)=((i+1:Nat):Int):=Yf;simp -implicitDefEqProofs[hi,hi2,bra];refine ⟨rfl,?_⟩;by_cases h2:a[i]=b[i]
     . simp -implicitDefEqProofs[h2,w1];refine ⟨(by (first|exact Wka|exact Wkb)),λj h1 h3=>?_⟩;by_cases e:j=i
       . subst e;exact h2
       . exact he j h1 (by omega)
     . have h3:¬a=b:=λe=>h2 (by subst e;rfl)
       rw[Zb7 h2];simp -implicitDefEqProofs;refine Qgr ?_;simp -implicitDefEqProofs[h3]
   . intro he;refine Qga ?_;have h3:a=b:=W1D hl λj h1 h2=>he j h1 h1
     simp -implicitDefEqProofs;refine Qgr ?_;simp -implicitDefEqProofs[h3]
 . have hl':¬(a.length:Int)=b.length:=(by omega);have h3:¬a=b:=λe=>hl (by rw[e])
   simp -implicitDefEqProofs[Z63,Z64,hl',h3]
def mpA {α:Type} (f:α->AV) (l:List (Int×α)):List (AV×AV):=l.map λp=>(.int .i64 p.1,f p.2)
def mlk {α:Type} (n:Int):List (Int×α)->Option α
 |[]=>none
 |p::l=>if n=p.1 then some p.2 else mlk n l
def Zb9 {α:Type} (f:α->AV) (n:Int):∀ l:List (Int×α),∃ o:Option Nat,(KK.i .i64).find (.int .i64 n) (mpA f l)=some o/\match o with
  |some j=>∃ v,l[j]? = some (n,v)/\mlk n l=some v
  |none=>mlk n l=none/\∀ p∈l,p.1≠n
 |[]=>⟨none,rfl,rfl,by simp⟩
 | p :: r=>by
   obtain ⟨o,h1,h2⟩:=Zb9 f n r;by_cases e:n=p.1
   . refine ⟨some 0,by simp[mpA,KK.find,KK.eq,e],p.2,by simp[e],by simp[mlk,e]⟩
   . refine ⟨o.map (· + 1),?_,?_⟩
     . simp only[mpA,W0F,KK.find,KK.eq,and_self,if_true,e,W1u];rw[show r.map (λp=>(AV.int .i64 p.1,f p.2))=mpA f r from rfl,h1];rfl
     . cases o with
       |none=>exact ⟨by simp only[mlk,e,if_false];exact h2.1,λq hq=>by
        rcases W0g.1 hq with rfl|hq
        . exact λh=>e h.symm
        . exact h2.2 q hq⟩
       | some j =>
         obtain ⟨v,h3,h4⟩:=h2;exact ⟨v,by simpa using h3,by simp only[mlk,e,if_false];exact h4⟩
def Zba {α:Type} (f:α->AV) (n:Int) (l:List (Int×α)):(KK.i .i64).get (.int .i64 n) (mpA f l)=some ((mlk n l).map f):=by
 obtain ⟨o,h1,h2⟩:=Zb9 f n l;have hi:(KK.i .i64).is (.int .i64 n)=true:=(by simp[KK.is]);unfold KK.get;rw[if_pos hi,h1]
 cases o with
 |none=>simp[h2.1]
 |some j=>obtain ⟨v,h3,h4⟩:=h2;simp[mpA,h3,h4]
def Zbb {α:Type} (f:α->AV) {n:Int} (v:α) {l:List (Int×α)} (h:n ∉ l.map (·.1)):(KK.i .i64).put (.int .i64 n) (f v) (mpA f l)=some (mpA f (l++[(n,v)])):=by
 obtain ⟨o,h1,h2⟩:=Zb9 f n l;have hi:(KK.i .i64).is (.int .i64 n)=true:=(by simp[KK.is]);unfold KK.put;rw[if_pos hi,h1]
 cases o with
 |none=>simp[mpA]
 | some j =>
   obtain ⟨w,h3,h4⟩:=h2;exact absurd (W0i.2 ⟨_,W0d h3,rfl⟩) h
def Zbc (n v:Int):∀ l:List (Int×Int),∃ o:Option Nat,(KK.i .i64).find (.int .i64 n) (dpA l)=some o/\match o with
  |some j=>j<l.length/\mpPut n v l=l.set j (n,v)
  |none=>mpPut n v l=l++[(n,v)]
 |[]=>⟨none,rfl,rfl⟩
 | p :: r=>by
   obtain ⟨o,h1,h2⟩:=Zbc n v r;by_cases e:n=p.1
   . exact ⟨some 0,by simp[dpA,KK.find,KK.eq,e],by simp,by simp[mpPut,e]⟩
   . refine ⟨o.map (· + 1),?_,?_⟩
     . simp only[dpA,W0F,KK.find,KK.eq,and_self,if_true,e,W1u];rw[show r.map (λp=>(AV.int .i64 p.1,AV.int .i64 p.2))=dpA r from rfl,h1];rfl
     . have e':¬p.1=n:=λh=>e h.symm
       cases o with
       |none=>simp only[Option.map_none,mpPut,if_neg e',h2];rfl
       |some j=>exact ⟨by simp only[W1o];omega,by simp only[mpPut,if_neg e',h2.2];rfl⟩
def Zbd (n v:Int) (l:List (Int×Int)):(KK.i .i64).put (.int .i64 n) (.int .i64 v) (dpA l)=some (dpA (mpPut n v l)):=by
 obtain ⟨o,h1,h2⟩:=Zbc n v l;have hi:(KK.i .i64).is (.int .i64 n)=true:=(by simp[KK.is]);unfold KK.put;rw[if_pos hi,h1]
 cases o with
 |none=>simp only[h2];simp[dpA]
 |some j=>rw[h2.2];simp[dpA,W29]
def byN (r:Jr) (lt:List Int) (i:Nat):List (Int×Iss):=((nums r).take i).map λn=>(n,tkV r lt n)
def isA (x:Iss):AV:=.agg (isa x)
def byA (r:Jr) (lt:List Int):AV:=.vmap (mpA isA (byN r lt (nums r).length))
def Zbe {r:Jr} {lt:List Int} {i:Nat} (h:i<(nums r).length):byN r lt (i+1)=byN r lt i++[((nums r)[i],tkV r lt (nums r)[i])]:=by
 rw[byN,W08 h,W0r];rfl
def Zbf {r:Jr} {lt:List Int} (hO:Ord r) {i:Nat} (h:i<(nums r).length):(nums r)[i] ∉ (byN r lt i).map (·.1):=by
 simp only[byN,W10,W0i,Function.comp];rintro ⟨n,hn,e⟩;obtain ⟨j,hj,rfl⟩:=W0k hn;simp only[W15]at hj;simp only[W1O]at e;have:=W0Y.1 (Z8z hO) j i (by omega) h (by omega);omega
def Zbg {r:Jr} (hO:Ord r) {i:Nat} (h:i<(nums r).length):(nums r).idxOf (nums r)[i]=i:=by
 have h1:(nums r).idxOf (nums r)[i]<(nums r).length:=List.idxOf_lt_length_iff.2 (W0e h);have h2:=List.getElem_idxOf h1;rcases W0R ((nums r).idxOf (nums r)[i]) i with c|c|c
 . have:=W0Y.1 (Z8z hO) _ i h1 h c;omega
 . exact c
 . have:=W0Y.1 (Z8z hO) i _ h h1 c;omega
def Zbh (r:Jr) (lt:List Int) (i:Nat):(mpA isA (byN r lt i)).all (λp=>p.1.pure&&p.2.pure)=true:=by
 simp only[mpA,W03,W0i];rintro _ ⟨y,-,rfl⟩;simp[isA,isa,AV.pure]
def Zbi {r:Jr} {lt:List Int} {n:Int} (hn:n∈nums r):mlk n (byN r lt (nums r).length)=some (tkV r lt n):=by
 rw[byN,W0v]
 have key:∀ l:List Int,n∈l->mlk n (l.map λn=>(n,tkV r lt n))=some (tkV r lt n):=by
  intro l
  induction l with
  |nil=>intro h;cases h
  | cons x l ih =>
    intro h;simp only[W0F,mlk];by_cases e:n=x
    . rw[if_pos e,e]
    . rw[if_neg e];exact ih ((W0g.1 h).resolve_left e)
 exact key _ hn
def Zbj (o:List (Nat×AObj)) (l:List (Int×Iss)):Yc o (.mp (mpA isA l))=true:=by
 simp only[Yc,W03,mpA,W0i];rintro _ ⟨y,-,rfl⟩;simp[isA,isa,Ya,AV.keys]
def takA (r:Jr) (lt:List Int) (n:Int):AV:=.tup [if askV r lt n=0 then bkA r (nums r) else .nilp,if askV r lt n=0 then byA r lt else .nilm,.int .i64 (askV r lt n)]
def Zbk (hG:GC G) (r:Jr) (lt:List Int) (n:Int) (h:Wf r):PC prog G 54 [rega r,.vsl (lt.map ia),.int .i64 n] (takA r lt n):=by
 (refine Z5Q rfl λR hG hrd=>Qga ?_;subst hG)
 simp -implicitDefEqProofs[Z5O,Z5P,rega];refine Qco (Za9 hG r h) ?_;by_cases e:openV r=0
 case neg=>simp -implicitDefEqProofs[openA,e,takA,askV]
 have hL:=Zaa e;have hO:=Z8x hL;have hl:=Zab hL;by_cases q:lt.length=(nums r).length
 case neg =>
  have q':¬(lt.length:Int)=(nums r).length:=(by omega);have no:askV r lt n=22:=(by simp[askV,e,ltB,q]);simp -implicitDefEqProofs[openA,e,bkA,q',takA,no]
 have q':(lt.length:Int)=(nums r).length:=(by omega);simp -implicitDefEqProofs[openA,e,bkA,q'];refine Z8h (λi=>⟨[(34,.int .i64 i),(33,.int .i64 (nums r).length),(11,.mp 31),(9,bkA r (nums r)),(1,.vsl (lt.map ia)),(2,.int .i64 n)],[(31,.mp (mpA isA (byN r lt i)))]⟩) (λi=>∀ j,j<i->inR (lt.getD j 0) 1 (lastV r ((nums r).getD j 0))=true) (nums r).length (by (first|exact Ym.tm (by simp[lk,bkA,mpA,byN])|exact Ym.sub (by simp[lk,Ya,AV.keys,bkA,mpA,byN]) (by simp[lk,Yc,Ya,AV.keys,bkA,mpA,byN]))) (by simp) ?_ ?_
 . intro i hi he;refine Qga ?_;have w1:i64.wrap ((i:Int)+1)=((i+1:Nat):Int):=Yf;have hi2:i<lt.length:=(by omega);have e1:lt.getD i 0=lt[i]:=(by simp[List.getD,hi2]);have e2:(nums r).getD i 0=(nums r)[i]:=(by simp[List.getD,hi]);simp -implicitDefEqProofs[hi,hi2,ia,bkA];refine Qco (Z9A r (nums r) (nums r)[i] lt[i] (Zai hO) h.1.1 (Zak hL)) ?_
   cases f:findN (nums r)[i] lt[i] r with
   | none =>
     have no:askV r lt n=22:=by
      have:ltB r lt=false:=by
       cases hI:ltB r lt
       . rfl
       . simp only[ltB,W01]at hI;have:=Z8r.1 hI.2 i hi;rw[e1,e2,<- ZaN hL,f]at this;cases this
      simp[askV,e,this]
     simp -implicitDefEqProofs[fndA,noIs];refine ⟨rfl,?_⟩;refine Qgr ?_;simp -implicitDefEqProofs[takA,no]
   | some x =>
     simp -implicitDefEqProofs[fndA,isa];obtain ⟨hm,hd,hl2⟩:=Z8I f
     have et:tkV r lt (nums r)[i]=x:=by
      have:ltOf r lt (nums r)[i]=lt[i]:=(by rw[ltOf,Zbg hO hi,e1]);rw[tkV,this,f];rfl
     have pm:=Zbb isA x (Zbf (lt:=lt) hO hi);rw[<- et,<- Zbe hi,et,isA,isa,hd]at pm;simp -implicitDefEqProofs[hd,pm,w1];refine ⟨rfl,?_,λj hj=>?_⟩
     . refine Ym.sub (by simp[lk,Ya,AV.keys]) ?_;simp only[W0g,W0Q,or_false,forall_eq,Zbj,and_true];simp[lk]
     . by_cases ej:j=i
       . subst ej;simp only[W0j]at e1 e2;rw[e1,e2,<- ZaN hL,f];rfl
       . simpa using he j (by omega)
 . intro he;refine Qga ?_;have yes:ltB r lt=true:=(by simp only[ltB,W01,W0b];exact ⟨q,Z8r.2 he⟩);simp -implicitDefEqProofs;refine Qgr ?_;simp -implicitDefEqProofs;refine Qco (Z9w r (nums r) n (Zah hO) (Zag h.1.1)) ?_;by_cases c:n∈nums r
   . have yes2:askV r lt n=0:=(by simp[askV,e,yes,c]);simp -implicitDefEqProofs[c,takA,yes2];have pu:=Zbh r lt (nums r).length;simp -implicitDefEqProofs[pu,bkA,byA]
   . have no:askV r lt n=6:=(by simp[askV,e,yes,c]);simp -implicitDefEqProofs[c,takA,no]
def ctL (n:Int):List (Int×Int)->Int
 |[]=>0
 |y::l=>if y.1=n then y.2 else ctL n l
def needL (n:Int) (l:List (Int×Int)):Bool:=l.any λy=>decide (y.1=n)
def Zbl {x:Iss} (h:issB x=true) {j:Nat} (hj:j<x.its.length):1<=x.its[j].1/\1<=x.its[j].2/\x.its[j].2<=20/\x.its[j].1≠x.d/\∀ i (hi:i<j),x.its[i].1<x.its[j].1:=by
 simp only[issB,W01]at h;have all:=Z8r.1 h.1.2;have at1:∀ j (hj:j<x.its.length),itAt x j=x.its[j]:=λj hj=>by simp[itAt,List.getD,hj]
 have one:∀ j (hj:j<x.its.length),1<=x.its[j].1/\1<=x.its[j].2/\x.its[j].2<=20/\x.its[j].1≠x.d/\(∀ hi:0<j,x.its[j-1].1<x.its[j].1):=λj hj=>by
  have h1:=all j hj;simp only[itOk,at1 j hj,W01,inR,W0b,W1y,W1a,W0T,W0A]at h1;refine ⟨by omega,by omega,by omega,h1.1.2,λhi=>?_⟩;have h2:=h1.2;rw[at1 (j-1) (by omega)]at h2;omega
 have lt:∀ (d i:Nat) (h:i+d+1<x.its.length),x.its[i].1<x.its[i+d+1].1:=by
  intro d
  induction d with
  |zero=>intro i h;exact (one (i+1) h).2.2.2.2 (by omega)
  | succ d ih =>
    intro i h;have h1:=ih i (by omega);have h2:=(one (i+(d+1)+1) h).2.2.2.2 (by omega);have h3:i+(d+1)+1-1=i+d+1:=(by omega);simp only[h3]at h2;omega
 have g:=one j hj;refine ⟨g.1,g.2.1,g.2.2.1,g.2.2.2.1,λi hi=>?_⟩;have:=lt (j-i-1) i (by omega);have e:i+(j-i-1)+1=j:=(by omega);simpa only [e] using this
def Zbm {x:Iss} (h:issB x=true):(x.its.map (·.1)).Nodup:=by
 unfold List.Nodup;rw[W28,W0Y];intro i j hi hj hij;have:=(Zbl h hj).2.2.2.2 i hij;omega
def usN (r:Jr) (n:Int) (i:Nat):List (Int×Int):=((r.take i).filter λx=>needL n x.its).map λx=>(x.d,x.l)
def Zbn {r:Jr} {n:Int} {i:Nat} (h:i<r.length):usN r n (i+1)=if needL n r[i].its=true then usN r n i++[(r[i].d,r[i].l)] else usN r n i:=by
 rw[usN,W08 h,W19,W0r]
 split
 . rename_i e;simp[usN,List.filter_cons,e]
 . rename_i e;simp[usN,List.filter_cons,e]
def Zbo (r:Jr) (n:Int) (i:Nat):(usN r n i).length<=i:=by
 simp only[usN,W0N];exact W0O (W0D _ _) (by simp;omega)
def useE (r:Jr) (n:Int):List (Int×Int)×Int:=if knV r n=0 then (usN r n r.length,0) else ([],knV r n)
inductive Up (T:Int->Iss) (l:List Int) (d:Int):Int->Prop
 |base (n:Int) (hn:n∈l) (h:needL d (T n).its=true):Up T l d n
 |step (n m:Int) (hn:n∈l) (h:needL m (T n).its=true) (hm:Up T l d m):Up T l d n
def Up.trans {T:Int->Iss} {l:List Int} {d m n:Int} (h1:Up T l d m) (h2:Up T l m n):Up T l d n:=by
 induction h2 with
 |base n hn h=>exact .step n m hn h h1
 |step n k hn h _ ih=>exact .step n k hn h ih
def Up.mem {T:Int->Iss} {l:List Int} {d n:Int} (h:Up T l d n):n∈l:=by cases h <;> assumption
def upV (T:Int->Iss) (l:List Int):Nat->Int->List Int->List Int
 |0,_,s=>s
 |k+1,d,s=>l.foldl (λs n=>if decide (n∈s)=false/\needL d (T n).its=true then upV T l k n (s++[n]) else s) s
def Zbp {T:Int->Iss} {l:List Int}:∀ (k:Nat) (d:Int) (s:List Int) (x:Int),x∈s->x∈upV T l k d s
 |0,_,_,_,h=>h
 | k+1,d,s,x,h=>by
   have key:∀ (l1 s:List Int),x∈s->x∈l1.foldl (λs n=>if decide (n∈s)=false/\needL d (T n).its=true then upV T l k n (s++[n]) else s) s:=by
    intro l1
    induction l1 with
    |nil=>intro s h;exact h
    | cons n l1 ih =>
      intro s h;rw[W21];refine ih _ ?_
      split
      . exact Zbp k n _ x (W0h.2 (.inl h))
      . exact h
   exact key l s h
def leftN (l s:List Int):Nat:=(l.filter λn=>!decide (n∈s)).length
def Zbq {l s s':List Int} (h:∀ x∈s,x∈s'):leftN l s'<=leftN l s:=by
 unfold leftN
 induction l with
 |nil=>exact W0f _
 | cons n l ih =>
   have b:=h n;by_cases a:n∈s
   . simp only[a,b a,List.filter_cons,W1h,W17,if_false,W05];exact ih
   . by_cases b:n∈s' <;> simp[List.filter_cons,a,b] <;> omega
def Zbr {l s:List Int} {n:Int} (hn:n∈l) (hs:n ∉ s):leftN l (s++[n])<leftN l s:=by
 unfold leftN
 induction l with
 |nil=>cases hn
 | cons m l ih =>
   have mono:=Zbq (l:=l) (s:=s) (s':=s++[n]) λx hx=>W0h.2 (.inl hx)
   unfold leftN at mono;by_cases e:m=n
   . subst e;rw[W25 (by simp),W24 (by simpa using hs),W1o];omega
   . have hn:=(W0g.1 hn).resolve_left (λh=>e h.symm);have:=ih hn;by_cases a:m∈s
     . rw[W25 (by simp[a]),W25 (by simpa using a)];exact this
     . rw[W24 (by simp[a,e]),W24 (by simpa using a),W1o,W1o];omega
def Zbs (l s:List Int):leftN l s<=l.length:=W0D _ _
def abV (r:Jr) (lt:List Int) (d:Int):List Int:=(nums r).filter λn=>decide (n∈upV (tkV r lt) (nums r) ((nums r).length+1) d [])
def abE (r:Jr) (lt:List Int) (d:Int):List Int×Int:=if askV r lt d=0 then (abV r lt d,0) else ([],askV r lt d)
def Zbt (l:List Int) (o:List (Nat×AObj)):Yc o (.row 1 (l.map ia))=true:=by
 simp only[Yc,W03,W0i];rintro x ⟨y,-,rfl⟩ v hv;simp only[ia,W0g,W0Q,or_false]at hv;subst hv;simp[Ya,AV.keys]
def flN (l:List Int) (g:Int->Bool) (i:Nat):List Int:=(l.take i).filter g
def Zbu {l:List Int} {g:Int->Bool} {i:Nat} (h:i<l.length):flN l g (i+1)=if g l[i]=true then flN l g i++[l[i]] else flN l g i:=by
 rw[flN,W08 h,W19]
 split
 . rename_i e;simp[flN,List.filter_cons,e]
 . rename_i e;simp[flN,List.filter_cons,e]
def Zbv (l:List Int) (g:Int->Bool) (i:Nat):(flN l g i).length<=i:=W0O (W0D _ _) (by simp;omega)
def Zbw (a b:List (Int×Int)) (ha:Sml a):PC prog G 12 [.vsl (a.map ita),.vsl (b.map ita)] (.bool (decide (a=b))):=by
 (refine Z5s rfl λR hG hrd=>Qga ?_;subst hG)
 by_cases hl:a.length=b.length
 . have hl':(a.length:Int)=b.length:=(by omega);simp -implicitDefEqProofs[Z5q,Z5r,hl'];refine Z8h (λi=>⟨[(5,.int .i64 i),(0,.vsl (a.map ita)),(1,.vsl (b.map ita))],[]⟩) (λi=>∀ j (h:j<a.length),j<i->a[j]=b[j]) a.length (by (first|exact Wka|exact Wkb)) (by simp) ?_ ?_
   . intro i hi he;refine Qga ?_;unfold Sml at ha;have hi2:i<b.length:=(by omega);have w1:i64.wrap ((i:Int)+1)=((i+1:Nat):Int):=Yf;simp -implicitDefEqProofs[hi,hi2,ita];refine ⟨rfl,?_⟩;by_cases h2:a[i]=b[i]
     . simp -implicitDefEqProofs[h2,w1];refine ⟨(by (first|exact Wka|exact Wkb)),λj h1 h3=>?_⟩;by_cases e:j=i
       . subst e;exact h2
       . exact he j h1 (by omega)
     . have h3:¬a=b:=λe=>h2 (by subst e;rfl)
       rw[Z8l h2];simp -implicitDefEqProofs;refine Qgr ?_;simp -implicitDefEqProofs[h3]
   . intro he;refine Qga ?_;have h3:a=b:=W1D hl λj h1 h2=>he j h1 h1
     simp -implicitDefEqProofs;refine Qgr ?_;simp -implicitDefEqProofs[h3]
 . have hl':¬(a.length:Int)=b.length:=(by omega);have h3:¬a=b:=λe=>hl (by rw[e])
   simp -implicitDefEqProofs[Z5q,Z5r,hl',h3]
def Zbx (a b:List Dm) (ha:Sml a):PC prog G 51 [.vsl (a.map dma),.vsl (b.map dma)] (.bool (decide (a=b))):=by
 (refine Z5v rfl λR hG hrd=>Qga ?_;subst hG)
 by_cases hl:a.length=b.length
 . have hl':(a.length:Int)=b.length:=(by omega);simp -implicitDefEqProofs[Z5t,Z5u,hl'];refine Z8h (λi=>⟨[(5,.int .i64 i),(0,.vsl (a.map dma)),(1,.vsl (b.map dma))],[]⟩) (λi=>∀ j (h:j<a.length),j<i->a[j]=b[j]) a.length (by (first|exact Wka|exact Wkb)) (by simp) ?_ ?_
   . intro i hi he;refine Qga ?_;unfold Sml at ha;have hi2:i<b.length:=(by omega);have w1:i64.wrap ((i:Int)+1)=((i+1:Nat):Int):=Yf;simp -implicitDefEqProofs[hi,hi2,dma];refine ⟨rfl,?_⟩;by_cases h2:a[i]=b[i]
     . simp -implicitDefEqProofs[h2,w1];refine ⟨(by (first|exact Wka|exact Wkb)),λj h1 h3=>?_⟩;by_cases e:j=i
       . subst e;exact h2
       . exact he j h1 (by omega)
     . have h3:¬a=b:=λe=>h2 (by subst e;rfl)
       rw[dm_ne h2];simp -implicitDefEqProofs;refine Qgr ?_;simp -implicitDefEqProofs[h3]
   . intro he;refine Qga ?_;have h3:a=b:=W1D hl λj h1 h2=>he j h1 h1
     simp -implicitDefEqProofs;refine Qgr ?_;simp -implicitDefEqProofs[h3]
 . have hl':¬(a.length:Int)=b.length:=(by omega);have h3:¬a=b:=λe=>hl (by rw[e])
   simp -implicitDefEqProofs[Z5t,Z5u,hl',h3]
def dfN (l:List Int) (f g:Int->Int) (i:Nat):List Dm:=((l.take i).filter λn=>!decide (f n=g n)).map λn=>⟨n,f n,g n⟩
def Zby {l:List Int} {f g:Int->Int} {i:Nat} (h:i<l.length):dfN l f g (i+1)=if f l[i]=g l[i] then dfN l f g i else dfN l f g i++[⟨l[i],f l[i],g l[i]⟩]:=by
 rw[dfN,W08 h,W19,W0r]
 split
 . rename_i e;simp[dfN,List.filter_cons,e]
 . rename_i e;simp[dfN,List.filter_cons,e]
def Zbz (l:List Int) (f g:Int->Int) (i:Nat):(dfN l f g i).length<=i:=by
 simp only[dfN,W0N];exact W0O (W0D _ _) (by simp;omega)
def dsB (a b:List Dm) (j:Nat):Bool:=decide (a.length<=j)||decide (b.length<=j) || !decide (a.getD j Dm.zero=b.getD j Dm.zero)
def dsN (a b:List Dm) (i:Nat):List Int:=((List.range i).filter (dsB a b)).map λ(j:Nat)=>(j:Int)
def ZbA {a b:List Dm} {i:Nat}:dsN a b (i+1)=if dsB a b i=true then dsN a b i++[(i:Int)] else dsN a b i:=by
 rw[dsN,List.range_succ,W19,W0r]
 split
 . rename_i e;simp[dsN,List.filter_cons,e]
 . rename_i e;simp[dsN,List.filter_cons,e]
def ZbB (a b:List Dm) (i:Nat):(dsN a b i).length<=i:=by
 simp only[dsN,W0N];exact W0O (W0D _ _) (by simp)
def ZbC {a b:List Dm} {j:Nat} (ha:j<a.length) (hb:j<b.length):dsB a b j = !decide (a[j]=b[j]):=by
 have h1:¬a.length<=j:=(by omega);have h2:¬b.length<=j:=(by omega);simp[dsB,h1,h2,List.getD,ha,hb]
def difE (r:Jr) (d n m:Int):List Dm×List Int×Int:=if openV r=0 then match findN d n r,findN d m r with
    |some a,some b=>(dfN (nums r) (λn=>ctL n a.its) (λn=>ctL n b.its) (nums r).length,dsN a.dms b.dms (max a.dms.length b.dms.length),0)
    |_,_=>([],[],6)
 else ([],[],openV r)
def Yg (l:List (List AV)):AV:=if l=[] then .nils else .vsl l
def ZbD (l:List (List AV)):nz (Yg l) = .vsl l:=by unfold Yg;split <;> simp_all [nz]
def ZbE (l:List (List AV)):(Yg l).keys=[]:=by unfold Yg;split <;> simp[AV.keys]
def ZbF (l:List (List AV)) (ok:Nat->Bool) (st:St) (n:Nat):Yh ok st n (Yg l)=some (Yg l):=by unfold Yg;split <;> cases n <;> simp[Yh,AV.pure]
def ZbG (l:List Dm):(l.map dma).all (λr=>r.all AV.pure)=true:=by simp[dma,AV.pure]
def ZbH (l:List Int):(l.map ia).all (λr=>r.all AV.pure)=true:=by simp[ia,AV.pure]
def ZbI (l:List Dm) (o:List (Nat×AObj)):Yc o (.row 3 (l.map dma))=true:=by
 simp only[Yc,W03,W0i];rintro x ⟨y,-,rfl⟩ v hv;simp only[dma,W0g,W0Q,or_false]at hv;rcases hv with rfl|rfl|rfl <;> simp[Ya,AV.keys]
def dropS:Nat->RCode->RCode
 |n+1,.seq _ b=>dropS n b
 |_,c=>c
def headS:RCode->RCode
 |.seq a _=>a
 |c=>c
def endLp:RCode->RCode
 |.seq _ b=>endLp b
 |.block _ b=>b
 |c=>c
def Nsub (x y:AV):Prop:=∀ (M:Nat->Prop) (W:World) (u:Value),PV M W x u->PV M W y u
def Nsub.rfl' {x:AV}:Nsub x x:=λ_ _ _ h=>h
def Nsub.nils:Nsub .nils (.vsl []):=λ_ _ _ h=>by
 cases h
 exact .vsl [] none 0 1 0 0 (λ_ _=>undef) (W0f _) (W1e _) (λh=>absurd rfl h) (λ_=>⟨rfl,rfl⟩) (by simp) (by simp) (by simp)
def Nsub.orNil (l:List (List AV)):Nsub (Yg l) (.vsl l):=by
 unfold Go.Proofs.YthlcppdbldkldaaDoor.Yg
 split
 . rename_i e;rw[e];exact .nils
 . exact .rfl'
def NsubL:List AV->List AV->Prop
 |[],[]=>True
 |x::xs,y::ys=>Nsub x y/\NsubL xs ys
 |_,_=>False
def NsubL.len:∀ {xs ys:List AV},NsubL xs ys->xs.length=ys.length
 |[],[],_=>rfl
 |_::_,_::_,h=>by simp only[W1o,NsubL.len h.2]
 |[],_::_,h=>h.elim
 |_::_,[],h=>h.elim
def NsubL.at:∀ {xs ys:List AV},NsubL xs ys->∀ (i:Nat) (y:AV),ys[i]? = some y->∃ x,xs[i]? = some x/\Nsub x y
 |[],[],_,i,y,h=>by simp at h
 | x::xs,y::ys,h,0,z,e=>by
   simp only[W23,W00]at e;subst e;exact ⟨x,rfl,h.1⟩
 | x::xs,y::ys,h,i+1,z,e=>by
   simp only[List.getElem?_cons_succ]at e;obtain ⟨w,h1,h2⟩:=NsubL.at h.2 i z e;exact ⟨w,by simpa using h1,h2⟩
 |[],_::_,h,_,_,_=>h.elim
 |_::_,[],h,_,_,_=>h.elim
def Nsub.agg {xs ys:List AV} (h:NsubL xs ys):Nsub (.agg xs) (.agg ys):=λM W u hu=>by
 cases hu with
 | agg _ us h1 hx =>
   refine .agg ys us (by rw[h1,h.len]) λi y u hy hu=>?_
   obtain ⟨x,h2,h3⟩:=h.at i y hy;exact h3 _ _ _ (hx i x u h2 hu)
def PC.sub {P:Program} {G:Jg} {f:FuncId} {xs ys:List AV} {v:AV} (h:PC P G f ys v) (hs:NsubL xs ys):PC P G f xs v :=
 ⟨h.1,λM W vs hM hG hz hv=>h.2 M W vs hM hG (hz.trans hs.len) λi y u hi hu=>by
  obtain ⟨x,h2,h3⟩:=hs.at i y hi;exact h3 _ _ _ (hv i x u h2 hu)⟩
section
open Qq Tryd
end
section
open Qq Tryd
noncomputable def ZbJ:RCode :=
 S [r 0 [n 2 .nils],r 1 [n 3 O],S [r 2 [m 9 0,e 10 9,n 11 O],.block 0 (.loop (S [r 3 [o 12 .lss 11 10],.cond (.t 12) .skip (.exit 0),.block 1 (S [r 4 [i 13 1 9 11,l 14 13,m 5 14],r 5 [m 15 3,m 16 5,e 17 16,o 18 .add 15 17,m 3 18],r 6 [m 19 3,k 20 .lss 19 O],.cond (.t 20) (.raw (λ_ _=>true)) .skip]),r 8 [k 22 .add 11 I,m 11 22]]))],r 9 [m 23 3,w 24 (.calln 66 [.c .nils,.t 23]),m 6 24],S [r 10 [m 25 0,e 26 25,n 27 O],.block 2 (.loop (S [r 11 [o 28 .lss 27 26],.cond (.t 28) .skip (.exit 2),.block 3 (S [r 12 [i 29 1 25 27,l 30 29,m 8 30],r 13 [m 31 6,m 32 8,w 33 (.app 5 72 (.t 31) (.t 32)),m 6 33]]),r 14 [k 34 .add 27 I,m 27 34]]))],r 15 [m 35 6,m 2 35],.ret]
def ZbK:List RRes:=[.t 2]
def ZbL:PCt prog 36 f36 ZbJ ZbK:=pcT func36 rfl
def ZbM:RCode :=
 r 0 [m 4 0,m 5 0,e 6 5,m 7 1,c 8 69 [4,6,7]]
def ZbN:List RRes:=[]
def ZbO {G:Jg} {objs objs':List (Nat×AObj)} {args:List AV} {v:AV} (hn:args.length<=f38.ntmps) (h:∀ R:Run,R.G=G->R.Top->AR prog R ZbM ⟨iniT 0 args,objs⟩ (FinB ZbN v objs')):PB prog G 38 objs args v objs' :=
 PB_of func38 rfl (by kernel_rfl) (rc:=ZbM) (by kernel_rfl) (rs:=ZbN) (by kernel_rfl) hn (λR _ hG hr=>h R hG hr)
def ZbP:RCode :=
 S [r 0 [n 6 (.int .i64 20)],r 1 [m 10 6,n 7 O,m 8 10],.block 0 (.loop (S [S [r 2 [m 11 8,m 12 1,o 13 .leq 11 12],.cond (.t 13) .skip (.exit 0)],.block 1 (S [r 3 [m 14 0,m 15 7,m 16 8,m 17 2,c 18 83 [14,15,16,17]],r 4 [m 19 8,m 7 19],r 5 [m 20 8,m 21 6,o 22 .add 20 21,m 8 22]])])),r 6 [m 23 0,m 24 7,m 25 1,m 26 2,c 27 83 [23,24,25,26]],.block 2 (.loop (S [S [r 7 [m 28 6,m 29 1,o 30 .lss 28 29],.cond (.t 30) .skip (.exit 2)],.block 3 (S [r 8 [m 31 6,w 32 (.bin .mul (.c (.int .i64 2)) (.t 31)),n 7 O,m 8 32],.block 4 (.loop (S [S [r 9 [m 33 8,m 34 1,o 35 .leq 33 34],.cond (.t 35) .skip (.exit 4)],.block 5 (S [r 10 [m 36 0,m 37 7,m 38 7,m 39 6,o 40 .add 38 39,m 41 8,m 42 2,c 43 84 [36,37,40,41,42]],r 11 [m 44 8,m 7 44],r 12 [m 45 8,m 46 6,w 47 (.bin .mul (.c (.int .i64 2)) (.t 46)),o 48 .add 45 47,m 8 48]])])),S [r 13 [m 49 7,m 50 6,o 51 .add 49 50,m 9 51],r 14 [m 52 9,m 53 1,o 54 .lss 52 53],.cond (.t 54) (r 15 [m 55 0,m 56 7,m 57 9,m 58 1,m 59 2,c 60 84 [55,56,57,58,59]]) .skip],r 16 [m 61 6,k 62 .mul 61 (.int .i64 2),m 6 62]])]))]
def ZbQ:List RRes:=[]
def ZbR {G:Jg} {objs objs':List (Nat×AObj)} {args:List AV} {v:AV} (hn:args.length<=f69.ntmps) (h:∀ R:Run,R.G=G->R.Top->AR prog R ZbP ⟨iniT 0 args,objs⟩ (FinB ZbQ v objs')):PB prog G 69 objs args v objs' :=
 PB_of func69 rfl (by kernel_rfl) (rc:=ZbP) (by kernel_rfl) (rs:=ZbQ) (by kernel_rfl) hn (λR _ hG hr=>h R hG hr)
def ZbS:RCode :=
 S [r 0 [m 10 1,k 11 .add 10 I,m 8 11],.block 0 (.loop (S [S [r 1 [m 12 8,m 13 2,o 14 .lss 12 13],.cond (.t 14) .skip (.exit 0)],.block 1 (S [r 3 [m 17 8,m 9 17],.block 2 (.loop (S [S [R 4 [m 18 9,m 19 1,a [0,1] (o 20 .gtr 18 19),a [2] (m 21 20),a [3] (g 21 true (m 22 3)),a [3] (g 21 true (m 23 0)),a [3] (g 21 true (m 24 9)),a [5,6,3] (g 21 true (i 25 5 23 24)),a [7,3] (g 21 true (L 26 5 25)),a [3] (g 21 true (m 27 0)),a [3] (g 21 true (m 28 9)),a [10,3] (g 21 true (k 29 .sub 28 I)),a [9,11,3] (g 21 true (i 30 5 27 29)),a [12,3] (g 21 true (L 31 5 30)),a [4,8,13,3,3] (g 21 true (w 32 (.callv (.t 22) [.t 26,.t 31]))),a [14,3] (g 21 true (k 33 .lss 32 O)),a [3,15] (v 34 21 33)],.cond (.t 34) .skip (.exit 2)],.block 3 (R 6 [m 37 0,m 38 9,m 39 0,m 40 9,a [3] (k 41 .sub 40 I),m 42 0,m 43 9,a [6] (k 44 .sub 43 I),a [5,7] (i 45 5 42 44),a [8] (L 46 5 45),m 47 0,m 48 9,a [10,11] (i 49 5 47 48),a [12] (L 50 5 49),a [0,1,0,1,5,6,7,8,9,13] (i 51 5 37 38),a [14,9,0,1,5,6,7,8,9,13] (s 5 51 46),a [2,4,0,1,2,3,4,5,6,7,8,9,10,11,12,13,14,15] (i 52 5 39 41),a [16,13,15,0,1,2,3,4,5,6,7,8,9,10,11,12,13,14,15] (s 5 52 50)]),r 5 [m 35 9,k 36 .sub 35 I,m 9 36]]))]),r 2 [m 15 8,k 16 .add 15 I,m 8 16]]))]
def ZbT:List RRes:=[]
def ZbU {G:Jg} {objs objs':List (Nat×AObj)} {args:List AV} {v:AV} (hn:args.length<=f83.ntmps) (h:∀ R:Run,R.G=G->R.Top->AR prog R ZbS ⟨iniT 0 args,objs⟩ (FinB ZbT v objs')):PB prog G 83 objs args v objs' :=
 PB_of func83 rfl (by kernel_rfl) (rc:=ZbS) (by kernel_rfl) (rs:=ZbT) (by kernel_rfl) hn (λR _ hG hr=>h R hG hr)
def ZbV:RCode :=
 S [r 0 [b 2 0,b 3 1,n 4 O],r 1 [f 5 0 2,l 6 5,f 7 0 3,l 8 7,o 9 .sub 6 8,f 10 1 2,l 11 10,f 12 1 3,l 13 12,o 14 .sub 11 13,w 15 (.bsl false 1 2 [O,O] [(0,.t 9),(1,.t 14)]),c 16 40 [15],m 4 16],.ret]
def ZbW:List RRes:=[.t 4]
def ZbX:PCt prog 39 f39 ZbV ZbW:=pcT func39 rfl
def ZbY:RCode :=
 S [r 0 [b 2 0,b 3 1,n 4 (.bool false)],R 1 [L 5 5 2,a [0] (c 6 43 [5]),L 7 5 3,a [2,1] (c 8 43 [7]),a [1,3] (w 9 (.eqs false [.i,.i] (.t 6) (.t 8))),a [4,3,0,1,2,3,4] (m 4 9)],.ret]
def ZbZ:List RRes:=[.t 4]
def Zc0:PCt prog 42 f42 ZbY ZbZ:=pcT func42 rfl
def Zc1:RCode :=
 S [r 0 [n 2 O],r 1 [n 3 O],S [r 2 [m 6 0,e 7 6,n 8 O],.block 0 (.loop (S [r 3 [o 9 .lss 8 7],.cond (.t 9) .skip (.exit 0),.block 1 (S [r 4 [i 10 1 6 8,l 11 10,m 5 11],r 5 [m 12 5,m 13 3,o 14 .neq 12 13],K 14 6 [m 15 5,m 2 15]]),r 7 [k 16 .add 8 I,m 8 16]]))],r 8 [m 17 3,m 2 17],.ret]
def Zc2:List RRes:=[.t 2]
def Zc3:PCt prog 40 f40 Zc1 Zc2:=pcT func40 rfl
def Zc4:RCode :=
 S [r 0 [n 4 .nils],S [r 1 [m 8 0,e 9 8,k 10 .lss 9 (.int .i64 2)],K 10 2 [m 11 0,m 4 11]],S [r 3 [n 5 I],.block 0 (.loop (S [S [r 4 [m 12 5,m 13 0,e 14 13,o 15 .lss 12 14],.cond (.t 15) .skip (.exit 0)],.block 1 (S [R 6 [m 18 1,m 19 0,m 20 5,a [1,2] (i 21 5 19 20),a [3] (L 22 5 21),m 23 0,m 24 5,a [6] (k 25 .sub 24 I),a [5,7] (i 26 5 23 25),a [8] (L 27 5 26),a [0,4,9] (w 28 (.callv (.t 18) [.t 22,.t 27]))],.cond (.t 28) (S [r 7 [m 29 0,m 30 5,w 31 (.slc 5 (.t 29) (some (.t 30)) none),m 6 31],S [r 8 [n 7 I],.block 2 (.loop (S [S [r 9 [m 32 7,m 33 6,e 34 33,o 35 .lss 32 34],.cond (.t 35) .skip (.exit 2)],.block 3 (S [R 11 [m 38 1,m 39 6,m 40 7,a [1,2] (i 41 5 39 40),a [3] (L 42 5 41),m 43 6,m 44 7,a [6] (k 45 .sub 44 I),a [5,7] (i 46 5 43 45),a [8] (L 47 5 46),a [0,4,9] (w 48 (.callv (.t 38) [.t 42,.t 47])),a [10] (t 49 48)],.cond (.t 49) (S [r 12 [m 50 0,m 51 5,m 52 6,m 53 7,i 54 5 52 53,L 55 5 54,i 56 5 50 51,s 5 56 55],r 13 [m 57 5,k 58 .add 57 I,m 5 58]]) .skip]),r 10 [m 36 7,k 37 .add 36 I,m 7 37]]))],r 14 [m 59 0,m 60 5,w 61 (.slc 5 (.t 59) (some (.t 60)) none),z (.clr 5 [O,O,.int .u8 0,.nils,.nils] (.t 61))],r 15 [m 62 0,m 63 5,w 64 (.slc 5 (.t 62) none (some (.t 63))),m 4 64],.ret]) .skip]),r 5 [m 16 5,k 17 .add 16 I,m 5 17]]))],r 16 [m 65 0,m 4 65],.ret]
def Zc5:List RRes:=[.t 4]
def Zc6 {G:Jg} {objs objs':List (Nat×AObj)} {args:List AV} {v:AV} (hn:args.length<=f41.ntmps) (h:∀ R:Run,R.G=G->R.Top->AR prog R Zc4 ⟨iniT 0 args,objs⟩ (FinB Zc5 v objs')):PB prog G 41 objs args v objs' :=
 PB_of func41 rfl (by kernel_rfl) (rc:=Zc4) (by kernel_rfl) (rs:=Zc5) (by kernel_rfl) hn (λR _ hG hr=>h R hG hr)
def Zc7:RCode :=
 S [r 0 [b 2 0,b 3 1,w 4 (.alloc [.nils]),n 5 O],r 1 [L 14 1 2,L 15 1 3,c 16 33 [14,15],m 13 16,x 17 0 13,x 18 1 13,x 19 2 13,m 6 17,m 7 18,m 8 19],S [r 2 [m 20 8,k 21 .neq 20 O],K 21 3 [w 22 (.build [.nils] []),m 23 8,s 1 4 22,m 5 23]],S [r 4 [m 24 6,e 25 24,k 26 .gtr 25 O],K 26 5 [w 27 (.build [.nils] []),s 1 4 27,n 5 (.int .i64 23)]],r 6 [w 9 (.alloc [.nils])],S [r 7 [f 28 0 2,l 29 28,f 30 0 3,l 31 30,w 32 (.bsl false 1 2 [.nils,.nils] [(0,.t 29),(1,.t 31)]),c 33 36 [32],e 34 33,n 35 O],.block 0 (.loop (S [r 8 [o 36 .lss 35 34],.cond (.t 36) .skip (.exit 0),.block 1 (S [r 9 [i 37 5 33 35,L 38 5 37,w 11 (.alloc [O,O,.int .u8 0,.nils,.nils]),s 5 11 38],R 10 [f 39 0 9,a [0] (l 40 39),L 41 5 11,a [2] (c 42 37 [41]),a [3] (w 43 (.bsl false 5 1 [O,O,.int .u8 0,.nils,.nils] [(0,.t 42)])),a [1,4,3] (w 44 (.app 5 72 (.t 40) (.t 43))),a [0,1,2,3,4,5] (f 45 0 9),a [6,5,5,0,1,2,3,4,5] (s 1 45 44)]]),r 11 [k 46 .add 35 I,m 35 46]]))],r 12 [f 47 0 9,l 48 47,w 49 (.call 38 [.t 48,.c (.func (.func 39) [] [])])],r 13 [f 50 0 9,l 51 50,w 52 (.call 41 [.t 51,.c (.func (.func 42) [] [])]),f 53 0 9,s 1 53 52],S [r 14 [L 54 1 9,c 55 17 [54],m 12 55],r 15 [m 56 12,k 57 .neq 56 O],K 57 16 [w 58 (.build [.nils] []),m 59 12,s 1 4 58,m 5 59]],r 17 [L 60 1 9,s 1 4 60,n 5 O],.ret]
def Zc8:List RRes:=[.c 4 true 1,.t 5]
def Zc9:PCt prog 10 f10 Zc7 Zc8:=pcT func10 rfl
def Zca:RCode :=
 S [r 0 [b 2 0,b 3 1,n 4 .nils,n 5 O],r 1 [L 10 1 2,L 11 1 3,c 12 33 [10,11],m 9 12,x 13 0 9,x 14 1 9,x 15 2 9,m 6 13,m 7 14,m 8 15],r 2 [m 16 6,m 17 8,m 4 16,m 5 17],.ret]
def Zcb:List RRes:=[.t 4,.t 5]
def Zcc:PCt prog 8 f8 Zca Zcb:=pcT func8 rfl
def Zcd:RCode :=
 S [r 0 [b 2 0,b 3 1,n 4 .nils,n 5 .nilp,n 6 O],S [r 1 [L 15 1 2,c 16 17 [15],m 7 16],r 2 [m 17 7,k 18 .neq 17 O],K 18 3 [m 19 7,n 4 .nils,n 5 .nilp,m 6 19]],r 4 [L 21 1 3,c 22 53 [21],m 20 22,x 23 0 20,x 24 1 20,m 8 23,m 9 24],S [r 5 [m 25 9,k 26 .neq 25 O],K 26 6 [m 27 9,n 4 .nils,n 5 .nilp,m 6 27]],r 7 [n 10 .nils],S [r 8 [f 28 0 2,l 29 28,e 30 29,n 31 O],.block 0 (.loop (S [r 9 [o 32 .lss 31 30],.cond (.t 32) .skip (.exit 0),.block 1 (S [r 10 [i 33 5 29 31,L 34 5 33,w 12 (.alloc [O,O,.int .u8 0,.nils,.nils]),s 5 12 34],r 11 [m 36 8,L 37 5 12,c 38 43 [37],c 39 62 [36,38],m 35 39,x 40 0 35,x 41 1 35,w 13 (.alloc [O,O,.int .u8 0,.nils,.nils]),s 5 13 40,m 14 41],r 12 [m 42 14,m 43 42,g 43 true (L 44 5 12),g 43 true (L 45 5 13),g 43 true (c 46 65 [44,45]),g 43 true (t 47 46),v 48 43 47],.cond (.t 48) (r 13 [m 49 10,L 50 5 12,c 51 43 [50],w 52 (.bsl false 2 1 [O,O] [(0,.t 51)]),w 53 (.app 2 16 (.t 49) (.t 52)),m 10 53]) .skip]),r 14 [k 54 .add 31 I,m 31 54]]))],r 15 [m 55 10,m 56 8,m 4 55,m 5 56,n 6 O],.ret]
def Zce:List RRes:=[.t 4,.t 5,.t 6]
def Zcf:PCt prog 33 f33 Zcd Zce:=pcT func33 rfl
def Zcg:RCode :=
 S [r 0 [b 2 0,b 3 1,n 4 (.bool false)],R 1 [L 5 5 2,a [0] (c 6 43 [5]),L 7 5 3,a [2,1] (c 8 43 [7]),a [1,3] (w 9 (.eqs false [.i,.i] (.t 6) (.t 8))),a [4,3] (m 10 9),a [5] (g 10 true (f 11 2 2)),a [6,5] (g 10 true (l 12 11)),a [5] (g 10 true (f 13 2 3)),a [8,5] (g 10 true (l 14 13)),a [7,9,5] (g 10 true (o 15 .eql 12 14)),a [5,10] (v 16 10 15),a [11,5] (m 17 16),a [12] (g 17 true (f 18 3 2)),a [13,12] (g 17 true (l 19 18)),a [12] (g 17 true (f 20 3 3)),a [15,12] (g 17 true (l 21 20)),a [12] (g 17 true (w 22 (.mkf (.func 81) [] [.t 2,.t 3]))),a [14,16,17,12,12] (g 17 true (c 23 80 [19,21,22])),a [12,18] (v 24 17 23),a [19,18,0,1,2,3,4,5,6,7,8,9,10,11,12,13,14,15,16,17,18,19] (m 4 24)],.ret]
def Zch:List RRes:=[.t 4]
def Zci:PCt prog 65 f65 Zcg Zch:=pcT func65 rfl
def Zcj:RCode :=
 S [r 0 [n 2 (.bool false)],r 1 [f 3 4 0,l 4 3,f 5 4 1,l 6 5,c 7 82 [4,6],m 2 7],.ret]
def Zck:List RRes:=[.t 2]
def Zcl:PCt prog 81 f81 Zcj Zck:=pcT func81 rfl
def Zcm:RCode :=
 S [r 0 [n 6 (.bool false)],r 1 [m 7 0,m 8 1,c 9 97 [7,8],m 10 9,g 10 true (m 11 2),g 10 true (w 12 (.callv (.t 11) [])),v 13 10 12,m 6 13],.ret]
def Zcn:List RRes:=[.t 6]
def Zco:PCt prog 80 f80 Zcm Zcn:=pcT func80 rfl
def Zcp:RCode :=
 S [r 0 [n 4 (.bool false)],S [r 1 [m 6 0,e 7 6,m 8 1,e 9 8,o 10 .neq 7 9],K 10 2 [n 4 (.bool false)]],S [r 3 [m 11 0,e 12 11,n 13 O],.block 0 (.loop (S [r 4 [o 14 .lss 13 12],.cond (.t 14) .skip (.exit 0),.block 1 (S [r 5 [m 15 13,m 5 15],R 6 [m 16 0,m 17 5,a [0,1] (i 18 3 16 17),a [2] (L 19 3 18),m 20 1,m 21 5,a [4,5] (i 22 3 20 21),a [6] (L 23 3 22),a [3,7] (w 24 (.eqs true [.i,.i,.i] (.t 19) (.t 23)))],K 24 7 [n 4 (.bool false)]]),r 8 [k 25 .add 13 I,m 13 25]]))],r 9 [n 4 (.bool true)],.ret]
def Zcq:List RRes:=[.t 4]
def Zcr:PCt prog 82 f82 Zcp Zcq:=pcT func82 rfl
def Zcs:RCode :=
 S [r 0 [n 4 (.bool false)],S [r 1 [m 6 0,e 7 6,m 8 1,e 9 8,o 10 .neq 7 9],K 10 2 [n 4 (.bool false)]],S [r 3 [m 11 0,e 12 11,n 13 O],.block 0 (.loop (S [r 4 [o 14 .lss 13 12],.cond (.t 14) .skip (.exit 0),.block 1 (S [r 5 [m 15 13,m 5 15],R 6 [m 16 0,m 17 5,a [0,1] (i 18 2 16 17),a [2] (L 19 2 18),m 20 1,m 21 5,a [4,5] (i 22 2 20 21),a [6] (L 23 2 22),a [3,7] (w 24 (.eqs true [.i,.i] (.t 19) (.t 23)))],K 24 7 [n 4 (.bool false)]]),r 8 [k 25 .add 13 I,m 13 25]]))],r 9 [n 4 (.bool true)],.ret]
def Zct:List RRes:=[.t 4]
def Zcu:PCt prog 97 f97 Zcs Zct:=pcT func97 rfl
def Zcv:RCode :=
 S [r 0 [w 0 (.alloc [.nils])],r 1 [w 1 (.call 26 [.c (.int .i64 20),.c (.int .i64 2)]),w 2 (.call 26 [.c (.int .i64 30),.c I]),w 3 (.bsl false 2 2 [O,O,O,O] [(0,.t 1),(1,.t 2)]),w 4 (.call 56 [.c (.int .i64 10),.c I,.t 3]),w 5 (.call 26 [.c (.int .i64 20),.c I]),w 6 (.call 26 [.c (.int .i64 30),.c (.int .i64 2)]),w 7 (.call 26 [.c (.int .i64 40),.c (.int .i64 2)]),w 8 (.bsl false 2 3 [O,O,O,O,O,O] [(0,.t 5),(1,.t 6),(2,.t 7)]),w 9 (.call 56 [.c (.int .i64 10),.c (.int .i64 2),.t 8]),w 10 (.call 26 [.c (.int .i64 30),.c (.int .i64 3)]),w 11 (.call 26 [.c (.int .i64 50),.c I]),w 12 (.bsl false 2 2 [O,O,O,O] [(0,.t 10),(1,.t 11)]),w 13 (.call 56 [.c (.int .i64 20),.c I,.t 12]),w 14 (.build [O,O,O] [(0,1,.c (.int .i64 150)),(1,1,.c (.int .i64 100)),(2,1,.c (.int .i64 200))]),w 15 (.bsl false 3 1 [O,O,O] [(0,.t 14)]),w 16 (.call 57 [.c (.int .i64 30),.c I,.c (.int .u8 2),.t 15]),w 17 (.build [O,O,O] [(0,1,.c (.int .i64 150)),(1,1,.c (.int .i64 120)),(2,1,.c (.int .i64 200))]),w 18 (.bsl false 3 1 [O,O,O] [(0,.t 17)]),w 19 (.call 57 [.c (.int .i64 30),.c (.int .i64 2),.c (.int .u8 2),.t 18]),w 20 (.call 57 [.c (.int .i64 40),.c I,.c (.int .u8 2),.c .nils]),w 21 (.call 57 [.c (.int .i64 50),.c I,.c (.int .u8 3),.c .nils]),w 22 (.bsl false 5 7 [O,O,.int .u8 0,.nils,.nils,O,O,.int .u8 0,.nils,.nils,O,O,.int .u8 0,.nils,.nils,O,O,.int .u8 0,.nils,.nils,O,O,.int .u8 0,.nils,.nils,O,O,.int .u8 0,.nils,.nils,O,O,.int .u8 0,.nils,.nils] [(0,.t 4),(1,.t 9),(2,.t 13),(3,.t 16),(4,.t 19),(5,.t 20),(6,.t 21)]),w 23 (.build [.nils] [(0,1,.t 22)]),s 1 0 23],.ret]
def Zcw:List RRes:=[.c 0 true 1]
def Zcx:PCt prog 19 f19 Zcv Zcw:=pcT func19 rfl
def Zcy:RCode :=
 S [r 0 [n 0 .nils],r 1 [w 1 (.bsl false 1 5 [O,O,O,O,O] [(0,.c I),(1,.c I),(2,.c I),(3,.c I),(4,.c I)]),m 0 1],.ret]
def Zcz:List RRes:=[.t 0]
def ZcA:PCt prog 23 f23 Zcy Zcz:=pcT func23 rfl
def ZcB:RCode :=
 S [r 0 [n 0 .nils],r 1 [w 1 (.bsl false 1 5 [O,O,O,O,O] [(0,.c (.int .i64 2)),(1,.c I),(2,.c I),(3,.c I),(4,.c I)]),m 0 1],.ret]
def ZcC:List RRes:=[.t 0]
def ZcD:PCt prog 20 f20 ZcB ZcC:=pcT func20 rfl
def ZcE:RCode :=
 S [r 0 [w 6 (.alloc [O,O,.int .u8 0,.nils,.nils])],r 1 [m 7 0,m 8 1,m 9 2,w 10 (.build [O,O,.int .u8 0,.nils,.nils] [(0,1,.t 7),(1,1,.t 8),(2,1,.c (.int .u8 1)),(3,1,.t 9)]),s 5 6 10],.ret]
def ZcF:List RRes:=[.c 6 true 5]
def ZcG:PCt prog 56 f56 ZcE ZcF:=pcT func56 rfl
def ZcH:RCode :=
 S [r 0 [w 8 (.alloc [O,O,.int .u8 0,.nils,.nils])],r 1 [m 9 0,m 10 1,m 11 2,m 12 3,w 13 (.build [O,O,.int .u8 0,.nils,.nils] [(0,1,.t 9),(1,1,.t 10),(2,1,.t 11),(4,1,.t 12)]),s 5 8 13],.ret]
def ZcI:List RRes:=[.c 8 true 5]
def ZcJ:PCt prog 57 f57 ZcH ZcI:=pcT func57 rfl
def ZcK:RCode :=
 S [r 0 [w 4 (.alloc [O,O])],r 1 [m 5 0,m 6 1,w 7 (.build [O,O] [(0,1,.t 5),(1,1,.t 6)]),s 2 4 7],.ret]
def ZcL:List RRes:=[.c 4 true 2]
def ZcM:PCt prog 26 f26 ZcK ZcL:=pcT func26 rfl
def ZcN:RCode :=
 S [r 0 [n 0 (.bool false)],r 1 [c 24 19 [],c 25 49 [24],m 23 25,x 26 0 23,x 27 1 23,m 1 26,m 2 27],r 2 [c 29 19 [],c 30 23 [],w 31 (.call 18 [.t 29,.t 30,.c (.int .i64 10)]),m 28 31,x 32 0 28,x 33 1 28,m 3 32,m 4 33],r 3 [c 35 19 [],w 36 (.bsl false 1 5 [O,O,O,O,O] [(0,.c I),(1,.c I),(2,.c (.int .i64 2)),(3,.c I),(4,.c I)]),w 37 (.call 30 [.t 35,.t 36,.c (.int .i64 10)]),m 34 37,x 38 0 34,x 39 1 34,m 5 38,m 6 39],r 4 [c 41 19 [],w 42 (.call 31 [.t 41,.c (.int .i64 30)]),m 40 42,x 43 0 40,x 44 1 40,m 7 43,m 8 44],r 5 [c 46 19 [],c 47 20 [],w 48 (.call 22 [.t 46,.t 47,.c (.int .i64 40)]),m 45 48,x 49 0 45,x 50 1 45,m 9 49,m 10 50],r 6 [c 52 19 [],w 53 (.call 24 [.t 52,.c (.int .i64 10),.c I,.c (.int .i64 2)]),m 51 53,x 54 0 51,x 55 1 51,x 56 2 51,m 11 54,m 12 55,m 13 56],r 7 [c 58 19 [],w 59 (.call 21 [.t 58,.c (.int .i64 10)]),m 57 59,x 60 0 57,x 61 1 57,m 14 60,m 15 61],r 8 [c 63 19 [],w 64 (.call 28 [.t 63,.c (.int .i64 30)]),m 62 64,x 65 0 62,x 66 1 62,m 16 65,m 17 66],r 9 [c 68 19 [],w 69 (.build [O,O] [(0,1,.c (.int .i64 30)),(1,1,.c (.int .i64 2))]),c 70 29 [68,69],m 67 70,x 71 0 67,x 72 1 67,w 18 (.alloc [O,O,.int .u8 0,.nils,.nils]),s 5 18 71,m 19 72],r 10 [c 74 19 [],c 75 19 [],c 76 10 [74,75],m 73 76,x 77 0 73,x 78 1 73,w 20 (.alloc [.nils]),s 1 20 77,m 21 78],r 11 [w 79 (.build [O,O,O,O] [(0,1,.c O),(1,1,.c (.int .i64 10)),(2,1,.c I),(3,1,.c I)]),w 80 (.build [O,O,O,O] [(0,1,.c I),(1,1,.c (.int .i64 20)),(2,1,.c I),(3,1,.c (.int .i64 2))]),w 81 (.build [O,O,O,O] [(0,1,.c (.int .i64 2)),(1,1,.c (.int .i64 30)),(2,1,.c (.int .i64 2)),(3,1,.c (.int .i64 3))]),w 82 (.build [O,O,O,O] [(0,1,.c (.int .i64 2)),(1,1,.c (.int .i64 50)),(2,1,.c I),(3,1,.c I)]),w 83 (.build [O,O,O,O] [(0,1,.c I),(1,1,.c (.int .i64 30)),(2,1,.c (.int .i64 2)),(3,1,.c I)]),w 84 (.bsl false 4 5 [O,O,O,O,O,O,O,O,O,O,O,O,O,O,O,O,O,O,O,O] [(0,.t 79),(1,.t 80),(2,.t 81),(3,.t 82),(4,.t 83)]),m 22 84],S [r 12 [m 85 2,k 86 .neq 85 O,m 87 86,g 87 false (m 88 1),g 87 false (w 89 (.bsl false 1 5 [O,O,O,O,O] [(0,.c (.int .i64 10)),(1,.c (.int .i64 20)),(2,.c (.int .i64 30)),(3,.c (.int .i64 40)),(4,.c (.int .i64 50))])),g 87 false (c 90 27 [88,89]),g 87 false (t 91 90),u 92 87 91,m 93 92,g 93 false (m 94 4),g 93 false (k 95 .neq 94 O),u 96 93 95,m 97 96,g 97 false (m 98 3),g 97 false (w 99 (.call 26 [.c (.int .i64 30),.c (.int .i64 7)])),g 97 false (w 100 (.call 26 [.c (.int .i64 50),.c (.int .i64 2)])),g 97 false (w 101 (.bsl false 2 2 [O,O,O,O] [(0,.t 99),(1,.t 100)])),g 97 false (c 102 25 [98,101]),g 97 false (t 103 102),u 104 97 103,m 105 104,g 105 false (m 106 6),g 105 false (k 107 .neq 106 O),u 108 105 107,m 109 108,g 109 false (m 110 5),g 109 false (m 111 22),g 109 false (c 112 50 [110,111]),g 109 false (t 113 112),u 114 109 113,m 115 114,g 115 false (m 116 8),g 115 false (k 117 .neq 116 O),u 118 115 117,m 119 118,g 119 false (m 120 7),g 119 false (w 121 (.build [O,O] [(0,1,.c (.int .i64 10)),(1,1,.c I)])),g 119 false (w 122 (.build [O,O] [(0,1,.c (.int .i64 10)),(1,1,.c (.int .i64 2))])),g 119 false (w 123 (.build [O,O] [(0,1,.c (.int .i64 20)),(1,1,.c I)])),g 119 false (w 124 (.bsl false 2 3 [O,O,O,O,O,O] [(0,.t 121),(1,.t 122),(2,.t 123)])),g 119 false (c 125 12 [120,124]),g 119 false (t 126 125),u 127 119 126],K 127 13 [n 0 (.bool false)]],R 14 [m 128 10,a [0] (k 129 .eql 128 O),a [1] (m 130 129),a [2] (g 130 true (m 131 9)),a [2] (g 130 true (w 132 (.bsl false 1 1 [O] [(0,.c (.int .i64 10))]))),a [3,4,2,2] (g 130 true (c 133 27 [131,132])),a [2,5] (v 134 130 133),a [6,5] (m 135 134),a [7] (g 135 true (m 136 13)),a [8,7] (g 135 true (k 137 .eql 136 O)),a [7,9] (v 138 135 137),a [10,7] (m 139 138),a [11] (g 139 true (m 140 11)),a [11] (g 139 true (w 141 (.build [O,O,O] [(0,1,.c (.int .i64 20)),(1,1,.c (.int .i64 2)),(2,1,.c I)]))),a [11] (g 139 true (w 142 (.build [O,O,O] [(0,1,.c (.int .i64 30)),(1,1,.c I),(2,1,.c (.int .i64 2))]))),a [11] (g 139 true (w 143 (.build [O,O,O] [(0,1,.c (.int .i64 40)),(2,1,.c (.int .i64 2))]))),a [13,14,15,11] (g 139 true (w 144 (.bsl false 3 3 [O,O,O,O,O,O,O,O,O] [(0,.t 141),(1,.t 142),(2,.t 143)]))),a [12,16,11,11] (g 139 true (c 145 51 [140,144])),a [11,17] (v 146 139 145),a [18,17] (m 147 146),a [19] (g 147 true (m 148 12)),a [20,19] (g 147 true (e 149 148)),a [21,19] (g 147 true (k 150 .eql 149 O)),a [19,22] (v 151 147 150),a [23,19] (m 152 151),a [24] (g 152 true (m 153 15)),a [25,24] (g 152 true (k 154 .eql 153 O)),a [24,26] (v 155 152 154),a [27,24] (m 156 155),a [28] (g 156 true (m 157 14)),a [29,28] (g 156 true (k 158 .eql 157 (.int .i64 3))),a [28,30] (v 159 156 158),a [31,28] (m 160 159),a [32] (g 160 true (m 161 17)),a [33,32] (g 160 true (k 162 .eql 161 O)),a [32,34] (v 163 160 162),a [35,32] (m 164 163),a [36] (g 164 true (m 165 16)),a [37,36] (g 164 true (k 166 .eql 165 (.int .i64 2))),a [36,38] (v 167 164 166),a [39,36] (m 168 167),a [40] (g 168 true (m 169 19)),a [41,40] (g 168 true (k 170 .eql 169 O)),a [40,42] (v 171 168 170),a [43,40] (m 172 171),a [44] (g 172 true (L 173 5 18)),a [44,44] (g 172 true (c 174 19 [])),a [46,44] (g 172 true (w 175 (.field false 0 1 (.t 174)))),a [47,44] (g 172 true (w 176 (.iaddr 5 (.t 175) (.c (.int .i64 4))))),a [48,44] (g 172 true (L 177 5 176)),a [45,49,46,44] (g 172 true (c 178 48 [173,177])),a [44,50] (v 179 172 178),a [51,50] (m 180 179),a [52] (g 180 true (m 181 21)),a [53,52] (g 180 true (k 182 .eql 181 O)),a [52,54] (v 183 180 182),a [55,52] (m 184 183),a [56] (g 184 true (L 185 1 20)),a [56,56] (g 184 true (c 186 19 [])),a [57,58,58,56] (g 184 true (c 187 13 [185,186])),a [56,59] (v 188 184 187),a [60,59,0,1,2,3,4,5,6,7,8,9,10,11,12,13,14,15,16,17,18,19,20,21,22,23,24,25,26,27,28,29,30,31,32,33,34,35,36,37,38,39,40,41,42,43,44,45,46,47,48,49,50,51,52,53,54,55,56,57,58,59,60] (m 0 188)],.ret]
def ZcO:List RRes:=[.t 0]
def ZcP:PCt prog 14 f14 ZcN ZcO:=pcT func14 rfl
end
def ZcT (ρ:Nat->Nat) (l:List (Int×Int)):(AObj.mp (dpA l)).ren ρ = .mp (dpA l):=by
 simp only[AObj.ren,dpA,W10]
 congr 2;funext p;simp[AV.ren]
def ZcU (ρ:Nat->Nat) (l:List (Int×Int)):(dpA l).map (λp=>(p.1.ren ρ,p.2.ren ρ))=dpA l:=by
 simp only[dpA,W10];congr 1;funext p;simp[AV.ren]
def ZcV (ok:Nat->Bool) (st:St) (l:List (Int×Int)):frzO ok st (.mp (dpA l)) = .mp (dpA l):=by
 simp only[frzO,dpA,W10]
 congr 2;funext p;simp[frzA,frz,AV.keys]
def ZcW (o:List (Nat×AObj)) (l:List (Int×Int)):Yc o (.mp (dpA l))=true:=by
 simp only[Yc,W03,dpA,W0i];rintro x ⟨y,-,rfl⟩;simp[Ya,AV.keys]
def ZcX (ρ:Nat->Nat) (r:Jr) (lt:List Int):(byA r lt).ren ρ=byA r lt:=by simp[byA,AV.ren]
def ZcY (ok:Nat->Bool) (st:St) (r:Jr) (lt:List Int):frzA ok st (byA r lt)=byA r lt:=by simp[byA,frzA,frz,AV.keys]
def ZcZ (ok:Nat->Bool) (st:St) (r:Jr) (lt:List Int):frzO ok st (.box [byA r lt]) = .box [byA r lt]:=by simp[frzO,ZcY]
def Zd0 (st:St) {ok:Nat->Bool} {k:Nat} (h:ok k=false):frzO ok st (.box [.mp k]) = .box [.mp k]:=by simp[frzO,frzA,frz,h]
def Zd1 (st:St) {ok:Nat->Bool} {f:Fn} {a b c:Nat} (h1:ok a=false) (h2:ok b=false) (h3:ok c=false):frzO ok st (.box [.func f [] [.ptr a 0,.ptr b 0,.ptr c 0]]) = .box [.func f [] [.ptr a 0,.ptr b 0,.ptr c 0]]:=by simp[frzO,frzA,frz,h1,h2,h3]
def Zd2 (r:Jr) (lt:List Int):(byA r lt).keys=[]:=by simp[byA,AV.keys]
def Zd3 (r:Jr) (lt:List Int):(byA r lt).one=true:=by simp[byA,AV.one,AV.known]
def exO (r:Jr) (lt:List Int) (l:List (Int×Int)):List (Nat×AObj) :=
 [(1009,.box [byA r lt]),(1011,.box [.mp 1027]),(1012,.box [.func (.func 55) [] [.ptr 1009 0,.ptr 1011 0,.ptr 1012 0]]),(1027,.mp (dpA l))]
def Zd4 (r:Jr) (lt:List Int) (l:List (Int×Int)):∀ p∈exO r lt l,Yc (exO r lt l) p.2=true:=by
 simp only[exO,W0g,W0Q,or_false,W1H,forall_eq,ZcW,and_true];simp[lk,Yc,Ya,AV.keys,Zd2]
def exS (r:Jr) (lt:List Int) (m:Int) (x:Iss) (l:List (Int×Int)) (i:Nat):St:=⟨[(24,.int .i64 i),(23,.int .i64 x.its.length),(22,.vsl (x.its.map ita)),(1,.int .i64 m),(4,.ptr 1012 0)],exO r lt l⟩
def Zd5:RCode->RCode
 |.seq _ b=>Zd5 b
 |.block _ b=>b
 |c=>c
def Zd6 (r:Jr) (lt:List Int) (ho:openV r=0) (hlt:ltB r lt=true):∀ (k:Nat) (n m:Int) (l:List (Int×Int)),n∈nums r->dpN r n<=k ->
  PB prog G 55 (exO r lt l) [.int .i64 n,.int .i64 m,.ptr 1009 0,.ptr 1011 0,.ptr 1012 0] (.tup []) (exO r lt (paM (tkV r lt) k n m l))
 |0,n,_,_,hn,hd=>(Zb2 ho hn hd).elim
 | k + 1,n,m,l,hn,hd=>by
   have hL:=Zaa ho;have hrec:=λy (hy:y∈(tkV r lt n).its)=>λm l=>Zd6 r lt ho hlt k y.1 m l (Zb3 ho hlt hn hd hy).1 (Zb3 ho hlt hn hd hy).2
   have gb:=Zba isA n (byN r lt (nums r).length);rw[Zbi hn]at gb;have h8:=tk_8 ho hlt n hn;have gc:=Z9C n l;rw[paM];generalize tkV r lt n=x at *;have pc:=Zbd n (addW (mpG l n) m) l
   (refine Z5W (W0C rfl) λR hG hrd=>Qga ?_;subst hG)
   have key:∀ (l1:List (Int×Int)) (st:St),Ym st (exS r lt m x l1 0)->AR prog R (Zd5 Z5U) st (RetP prog R [KF.bk 0] (FinB [] (.tup []) (exO r lt (x.its.foldl (λl y=>paM (tkV r lt) k y.1 (mulW m y.2) l) l1)))):=by
    intro l1 st hw;refine Z8h (λi=>exS r lt m x ((x.its.take i).foldl (λl y=>paM (tkV r lt) k y.1 (mulW m y.2) l) l1) i) (λ_=>True) x.its.length (by simpa using hw) trivial ?_ ?_
    . intro i hi _;refine Qga ?_;have w1:i64.wrap ((i:Int)+1)=((i+1:Nat):Int):=Yf;have ft:=Z9U (λl (y:Int×Int)=>paM (tkV r lt) k y.1 (mulW m y.2) l) l1 x.its i hi;have hr:=hrec x.its[i] (W0e hi) (mulW m x.its[i].2) ((x.its.take i).foldl (λl y=>paM (tkV r lt) k y.1 (mulW m y.2) l) l1);generalize (x.its.take i).foldl (λl y=>paM (tkV r lt) k y.1 (mulW m y.2) l) l1=l2 at *;simp -implicitDefEqProofs[Zd5,Z5U,exS,exO,hi,ita];refine Yd.sem (Z1B.byref hr id (by simp[exO]) (by simp[exO]) (by simp[exO,St.get,lk,ZcT,AObj.ren,AV.ren,ZcX,ZcU]) (Zd4 _ _ _) (by simp[exO,Ya,AV.keys,lk]) rfl (by simp[AV.ren,mulW]) rfl rfl) ?_;simp -implicitDefEqProofs[Yl,exO,ZcT,AObj.ren,AV.ren,ZcX,ZcU,w1]
      ((try simp only[exS,exO,byA,ft]);refine Ym.sub (by simp[lk,Ya,AV.keys,exS,exO,byA,ft]) ?_;simp only[exS,exO,byA,ft,Wkl,ZcW,and_true];(try simp[lk,Yc,Ya,AV.keys,exS,exO,byA,ft]))
    . intro _;refine Qga ?_;simp -implicitDefEqProofs[Zd5,Z5U,exS,exO];refine Qgr ?_;simp -implicitDefEqProofs[FinB,Yi,newK,ZcV,ZcZ,Zd0,Zd1,exO]
   by_cases e:x.k=1
   . rw[if_pos e];simp -implicitDefEqProofs[Z5U,Z5V,exO,byA,gb,isA,isa,e];exact key l _ (by ((try simp only[exS,exO,byA]);refine Ym.sub (by simp[lk,Ya,AV.keys,exS,exO,byA]) ?_;simp only[exS,exO,byA,Wkl,ZcW,and_true];(try simp[lk,Yc,Ya,AV.keys,exS,exO,byA])))
   . rw[if_neg e];generalize mpPut n (addW (mpG l n) m) l=l1 at *
     cases q:dpLk n l
     . have q2:mpG l n=0:=(by simp[mpG,dpG,q]);simp only[q2,addW,Int.zero_add]at pc;simp -implicitDefEqProofs[Z5U,Z5V,exO,byA,gb,isA,isa,e,gc,q,pc];exact key l1 _ (by ((try simp only[exS,exO,byA]);refine Ym.sub (by simp[lk,Ya,AV.keys,exS,exO,byA]) ?_;simp only[exS,exO,byA,Wkl,ZcW,and_true];(try simp[lk,Yc,Ya,AV.keys,exS,exO,byA])))
     . rename_i v;have q2:mpG l n=v:=(by simp[mpG,dpG,q]);simp only[q2,addW]at pc;simp -implicitDefEqProofs[Z5U,Z5V,exO,byA,gb,isA,isa,e,gc,q,pc];exact key l1 _ (by ((try simp only[exS,exO,byA]);refine Ym.sub (by simp[lk,Ya,AV.keys,exS,exO,byA]) ?_;simp only[exS,exO,byA,Wkl,ZcW,and_true];(try simp[lk,Yc,Ya,AV.keys,exS,exO,byA])))
def Zd7 (ρ:Nat->Nat) (l:List Int):(lfA l).map (λp=>(p.1.ren ρ,p.2.ren ρ))=lfA l:=by
 simp only[lfA,W10];congr 1;funext p;simp[AV.ren]
def Zd8 (ok:Nat->Bool) (st:St) (l:List Int):frzO ok st (.mp (lfA l)) = .mp (lfA l):=by
 simp only[frzO,lfA,W10]
 congr 2;funext p;simp[frzA,frz,AV.keys]
def Zd9 (o:List (Nat×AObj)) (l:List Int):Yc o (.mp (lfA l))=true:=by
 simp only[Yc,W03,lfA,W0i];rintro x ⟨y,-,rfl⟩;simp[Ya,AV.keys]
def Zda (ρ:Nat->Nat) (r:Jr) (ds:List Int):(bkA r ds).ren ρ=bkA r ds:=by simp[bkA,AV.ren]
def Zdb (r:Jr) (ds:List Int):(bkA r ds).keys=[]:=by simp[bkA,AV.keys]
def Zdc (ok:Nat->Bool) (st:St) (r:Jr) (ds:List Int):frzO ok st (.box [bkA r ds]) = .box [bkA r ds]:=by simp[frzO,frzA,frz,bkA,AV.keys]
def Zdd (st:St) {ok:Nat->Bool} {f:Fn} {a b c d:Nat} (h1:ok a=false) (h2:ok b=false) (h3:ok c=false) (h4:ok d=false):frzO ok st (.box [.func f [] [.ptr a 0,.ptr b 0,.ptr c 0,.ptr d 0]]) = .box [.func f [] [.ptr a 0,.ptr b 0,.ptr c 0,.ptr d 0]]:=by simp[frzO,frzA,frz,h1,h2,h3,h4]
def abO (r:Jr) (lt:List Int) (s:List Int):List (Nat×AObj) :=
 [(1008,.box [bkA r (nums r)]),(1011,.box [.mp 1027]),(1009,.box [byA r lt]),(1012,.box [.func (.func 60) [] [.ptr 1008 0,.ptr 1011 0,.ptr 1009 0,.ptr 1012 0]]),(1027,.mp (lfA s))]
def Zde (r:Jr) (lt:List Int) (l:List Int):∀ p∈abO r lt l,Yc (abO r lt l) p.2=true:=by
 simp only[abO,W0g,W0Q,or_false,W1H,forall_eq,Zd9,and_true];simp[lk,Yc,Ya,AV.keys,Zd2,Zdb]
def abS (r:Jr) (lt:List Int) (d:Int) (s:List Int) (i:Nat):St:=⟨[(13,.int .i64 i),(12,.int .i64 (nums r).length),(11,.vsl ((nums r).map ia)),(0,.int .i64 d),(2,.ptr 1011 0),(3,.ptr 1009 0),(4,.ptr 1012 0)],abO r lt s⟩
def abF (l S:List Int) (i:Nat):St:=if flN l (λn=>decide (n∈S)) i=[] then ⟨[(37,.int .i64 i),(36,.int .i64 l.length),(35,.vsl (l.map ia)),(11,.ptr 11 0),(13,.nils)],[(11,.box [.mp 27]),(27,.mp (lfA S))]⟩
 else ⟨[(37,.int .i64 i),(36,.int .i64 l.length),(35,.vsl (l.map ia)),(11,.ptr 11 0),(13,.osl 47 (flN l (λn=>decide (n∈S)) i).length)],[(11,.box [.mp 27]),(27,.mp (lfA S)),(47,.row 1 ((flN l (λn=>decide (n∈S)) i).map ia))]⟩
def upS (r:Jr) (n:Int) (i:Nat):St:=if usN r n i=[] then ⟨[(26,.int .i64 i),(25,.int .i64 r.length),(24,.vsl (r.map isa)),(8,.nils),(1,.int .i64 n)],[]⟩
 else ⟨[(26,.int .i64 i),(25,.int .i64 r.length),(24,.vsl (r.map isa)),(8,.osl 37 (usN r n i).length),(1,.int .i64 n)],[(37,.row 2 ((usN r n i).map ita))]⟩
def upF (T:Int->Iss) (l:List Int) (k:Nat) (d:Int) (s:List Int) (n:Int):List Int:=if decide (n∈s)=false/\needL d (T n).its=true then upV T l k n (s++[n]) else s
def Zdf {T:Int->Iss} {l:List Int} {k:Nat} {d:Int} {s:List Int}:upV T l (k+1) d s=l.foldl (upF T l k d) s:=rfl
def Zdg {T:Int->Iss} {l:List Int} {k:Nat} {d:Int} {s:List Int} {n:Int} (h:n∈s):upF T l k d s n=s:=by simp[upF,h]
def Zdh {T:Int->Iss} {l:List Int} {k:Nat} {d:Int} {s:List Int} {n:Int} (h:needL d (T n).its=false):upF T l k d s n=s:=by simp[upF,h]
def Zdi {T:Int->Iss} {l:List Int} {k:Nat} {d:Int} {s:List Int} {n:Int} (h:n ∉ s) (h2:needL d (T n).its=true):upF T l k d s n=upV T l k n (s++[n]):=by simp[upF,h,h2]
def Zdj {T:Int->Iss} {l:List Int} {k:Nat} {d:Int} {s:List Int} {n x:Int} (h:x∈s):x∈upF T l k d s n:=by
 unfold upF
 split
 . exact Zbp _ _ _ _ (W0h.2 (.inl h))
 . exact h
def Zdk (y:Int×Int) (n:Int):PC prog G 79 [.agg [.int .i64 y.1,.int .i64 y.2],.vptr [.int .i64 n] 0] (.bool (decide (y.1=n))):=by
 (refine Z5B rfl λR hG hrd=>Qga ?_;subst hG)
 simp -implicitDefEqProofs[Z5z,Z5A]
def Zdl (x:Iss) (n:Int) (h:Sml x.its):PC prog G 61 [.agg (isa x),.int .i64 n] (.bool (needL n x.its)):=by
 (refine Z5y rfl λR hG hrd=>Qga ?_;subst hG)
 simp -implicitDefEqProofs[Z5w,Z5x,isa]
 (first|refine Yd.flat (Z8P 79 [.vptr [.int .i64 n] 0] (λy=>decide (y.1=n)) x.its (by simp[AV.pure]) h (λy _=>Zdk y n)) (by simp[AV.flat]) (by simp) ?_|refine Ye.flat (Z8P 79 [.vptr [.int .i64 n] 0] (λy=>decide (y.1=n)) x.its (by simp[AV.pure]) h (λy _=>Zdk y n)) (by simp[AV.flat]) (by simp) ?_)
 simp -implicitDefEqProofs[needL]
def Zdm (hG:GC G) (r:Jr) (n:Int) (h:Wf r):PC prog G 31 [rega r,.int .i64 n] (.tup [.vsl ((useE r n).1.map ita),.int .i64 (useE r n).2]):=by
 by_cases k:knV r n=0
 case neg =>
  refine PC.nzR (v:=.tup [.nils,.int .i64 (knV r n)]) ?_ (by simp[nz,useE,k])
  (refine Z5E rfl λR hG hrd=>Qga ?_;subst hG)
  simp -implicitDefEqProofs[Z5C,Z5D,rega];refine Qco (Zal hG r n h) ?_;simp -implicitDefEqProofs[k]
 have ev:useE r n=(usN r n r.length,0):=(by simp[useE,k]);have hs:=h.1.1;unfold Sml at hs;rw[ev];refine PC.nzR (v:=.tup [if usN r n r.length=[] then .nils else .vsl ((usN r n r.length).map ita),.int .i64 0]) ?_ (by split <;> simp_all [nz])
 (refine Z5E rfl λR hG hrd=>Qga ?_;subst hG)
 simp -implicitDefEqProofs[Z5C,Z5D,rega];refine Qco (Zal hG r n h) ?_;simp -implicitDefEqProofs[k,bkA];refine Z8h (upS r n) (λ_=>True) r.length ?_ trivial ?_ ?_
 . have e0:usN r n 0=[]:=rfl;simp only[upS,e0,if_true]
   (first|exact Wka|exact Wkb)
 . intro i hi _;refine Qga ?_;have w1:i64.wrap ((i:Int)+1)=((i+1:Nat):Int):=Yf;have hx:=h.1.2 r[i] (W0e hi);have hs:=Zbn (n:=n) hi;have bl:=Zbo r n i;have bb:((usN r n i).length+1)*16<=70368744177664:=by omega
   cases q:needL n r[i].its
   . rw[if_neg (by simp[q])]at hs;by_cases z:usN r n i=[]
     . rw[z]at hs;simp -implicitDefEqProofs[upS,z,hi,isa];refine Qco (Zdl r[i] n hx.1) ?_;simp -implicitDefEqProofs[upS,q,w1,hs]
       ((try simp only[ita]);refine Ym.sub (by simp[lk,Ya,AV.keys,ita]) ?_;simp only[ita,Wkl,Zb6,and_true];(try simp[lk,Yc,Ya,AV.keys,ita]))
     . simp -implicitDefEqProofs[upS,z,hi,isa];refine Qco (Zdl r[i] n hx.1) ?_;simp -implicitDefEqProofs[upS,q,w1,hs,z]
       ((try simp only[ita]);refine Ym.sub (by simp[lk,Ya,AV.keys,ita]) ?_;simp only[ita,Wkl,Zb6,and_true];(try simp[lk,Yc,Ya,AV.keys,ita]))
   . rw[if_pos q]at hs;by_cases z:usN r n i=[]
     . rw[z]at hs;simp -implicitDefEqProofs[upS,z,hi,isa];refine Qco (Zdl r[i] n hx.1) ?_;simp -implicitDefEqProofs[q];refine Qco (Z8X r[i]) ?_;simp -implicitDefEqProofs[upS,w1,hs]
       ((try simp only[ita]);refine Ym.sub (by simp[lk,Ya,AV.keys,ita]) ?_;simp only[ita,Wkl,Zb6,and_true];(try simp[lk,Yc,Ya,AV.keys,ita]))
     . simp -implicitDefEqProofs[upS,z,hi,isa];refine Qco (Zdl r[i] n hx.1) ?_;simp -implicitDefEqProofs[q];refine Qco (Z8X r[i]) ?_;simp -implicitDefEqProofs[upS,w1,hs,z,bb]
       ((try simp only[ita]);refine Ym.sub (by simp[lk,Ya,AV.keys,ita]) ?_;simp only[ita,Wkl,Zb6,and_true];(try simp[lk,Yc,Ya,AV.keys,ita]))
 . intro _;refine Qga ?_;by_cases z:usN r n r.length=[]
   . simp -implicitDefEqProofs[upS,z];refine Qgr ?_;simp -implicitDefEqProofs[z]
   . have pu:((usN r n r.length).map ita).all (λr=>r.all AV.pure)=true:=(by simp[ita,AV.pure]);simp -implicitDefEqProofs[upS,z];refine Qgr ?_;simp -implicitDefEqProofs[z,pu]
def up_pb (r:Jr) (lt:List Int) (h:Wf r) (ho:openV r=0) (hlt:ltB r lt=true):∀ (k:Nat) (d:Int) (s:List Int),leftN (nums r) s<k ->
  PB prog G 60 (abO r lt s) [.int .i64 d,.ptr 1008 0,.ptr 1011 0,.ptr 1009 0,.ptr 1012 0] (.tup []) (abO r lt (upV (tkV r lt) (nums r) k d s))
 |0,_,_,hk=>by omega
 | k + 1,d,s,hk=>by
   have hL:=Zaa ho;have hl:=Zab hL;have hrec:=λn s1 (c:leftN (nums r) s1<k)=>up_pb r lt h ho hlt k n s1 c
   rw[Zdf]
   (refine Z5K (W0C rfl) λR hG hrd=>Qga ?_;subst hG)
   simp -implicitDefEqProofs[Z5I,Z5J,abO,bkA];refine Z8h (λi=>abS r lt d (((nums r).take i).foldl (upF (tkV r lt) (nums r) k d) s) i) (λi=>∀ x∈s,x∈((nums r).take i).foldl (upF (tkV r lt) (nums r) k d) s) (nums r).length ?_ (by simp) ?_ ?_
   . ((try simp only[abS,abO,bkA,byA,W1f,List.foldl_nil]);refine Ym.sub (by simp[lk,Ya,AV.keys,abS,abO,bkA,byA,W1f,List.foldl_nil]) ?_;simp only[abS,abO,bkA,byA,W1f,List.foldl_nil,Wkl,Zd9,and_true];(try simp[lk,Yc,Ya,AV.keys,abS,abO,bkA,byA,W1f,List.foldl_nil]))
   . intro i hi hsub;refine Qga ?_;have w1:i64.wrap ((i:Int)+1)=((i+1:Nat):Int):=Yf;have ft:=Z9U (upF (tkV r lt) (nums r) k d) s (nums r) i hi;have hsub2:∀ x∈s,x∈((nums r).take (i+1)).foldl (upF (tkV r lt) (nums r) k d) s:=λx hx=>by rw[ft];exact Zdj (hsub x hx)
     generalize ((nums r).take i).foldl (upF (tkV r lt) (nums r) k d) s=s1 at *;have hn:=W0e hi;have gl:=Z9F (nums r)[i] s1;have gb:=Zba isA (nums r)[i] (byN r lt (nums r).length);rw[Zbi hn]at gb;have hx:=ZaQ hL hlt hn;have hsz:=h.1.2 _ hx.1;by_cases q:(nums r)[i]∈s1
     . rw[if_pos q]at gl;rw[Zdg q]at ft;simp -implicitDefEqProofs[abS,abO,hi,ia,gl,w1];exact ⟨(by ((try simp only[abS,abO,bkA,byA,ft]);refine Ym.sub (by simp[lk,Ya,AV.keys,abS,abO,bkA,byA,ft]) ?_;simp only[abS,abO,bkA,byA,ft,Wkl,Zd9,and_true];(try simp[lk,Yc,Ya,AV.keys,abS,abO,bkA,byA,ft]))),hsub2⟩
     . rw[if_neg q]at gl;have hleft:=Zbr hn q;have hmo:=Zbq (l:=nums r) hsub;have hr:=hrec (nums r)[i] (s1++[(nums r)[i]]) (by omega);have pl:=Z9G q;have f1:=Zdh (T:=tkV r lt) (l:=nums r) (k:=k) (d:=d) (s:=s1) (n:=(nums r)[i]);have f2:=Zdi (T:=tkV r lt) (l:=nums r) (k:=k) (d:=d) (n:=(nums r)[i]) q;generalize tkV r lt (nums r)[i]=x at *;simp -implicitDefEqProofs[abS,abO,hi,ia,gl,byA,gb,isA,isa];refine Qco (Zdl x d hsz.1) ?_
       cases q2:needL d x.its
       . rw[f1 q2]at ft;simp -implicitDefEqProofs[w1,abS,abO];exact ⟨(by ((try simp only[abS,abO,bkA,byA,ft]);refine Ym.sub (by simp[lk,Ya,AV.keys,abS,abO,bkA,byA,ft]) ?_;simp only[abS,abO,bkA,byA,ft,Wkl,Zd9,and_true];(try simp[lk,Yc,Ya,AV.keys,abS,abO,bkA,byA,ft]))),hsub2⟩
       . rw[f2 q2]at ft;simp -implicitDefEqProofs[pl];refine Yd.sem (Z1B.byref hr id (by simp[abO]) (by simp[abO]) (by simp[abO,St.get,lk,AObj.ren,AV.ren,ZcX,Zda,Zd7,byA,bkA]) (Zde _ _ _) (by simp[abO,Ya,AV.keys,lk]) rfl (by simp[AV.ren]) rfl rfl) ?_;simp -implicitDefEqProofs[Yl,abO,AObj.ren,AV.ren,ZcX,Zda,Zd7,w1,abS];exact ⟨(by ((try simp only[abS,abO,bkA,byA,ft]);refine Ym.sub (by simp[lk,Ya,AV.keys,abS,abO,bkA,byA,ft]) ?_;simp only[abS,abO,bkA,byA,ft,Wkl,Zd9,and_true];(try simp[lk,Yc,Ya,AV.keys,abS,abO,bkA,byA,ft]))),hsub2⟩
   . intro _;refine Qga ?_;simp -implicitDefEqProofs[abS,abO];refine Qgr ?_;simp -implicitDefEqProofs[FinB,Yi,newK,Zd8,ZcZ,Zd0,Zdc,Zdd,abO];rfl
def Zdn (hG:GC G) (r:Jr) (lt:List Int) (d:Int) (h:Wf r):PC prog G 22 [rega r,.vsl (lt.map ia),.int .i64 d] (.tup [.vsl ((abE r lt d).1.map ia),.int .i64 (abE r lt d).2]):=by
 by_cases e:askV r lt d=0
 case neg =>
  refine PC.nzR (v:=.tup [.nils,.int .i64 (askV r lt d)]) ?_ (by simp[nz,abE,e])
  (refine Z5H rfl λR hG hrd=>Qga ?_;subst hG)
  simp -implicitDefEqProofs[Z5F,Z5G,rega];refine Qco (Zbk hG r lt d h) ?_;simp -implicitDefEqProofs[takA,e]
 obtain ⟨ho,hlt,hn⟩:=ask_0 e;have hl:=Zab (Zaa ho);have hp:=up_pb (G:=G) r lt h ho hlt ((nums r).length+1) d [] (Nat.lt_succ_of_le (Zbs _ _));have ev:abE r lt d=(flN (nums r) (λn=>decide (n∈upV (tkV r lt) (nums r) ((nums r).length+1) d [])) (nums r).length,0):=(by rw[abE,if_pos e,flN,W0v];rfl);rw[ev];generalize upV (tkV r lt) (nums r) ((nums r).length+1) d []=S at *;refine PC.nzR (v:=.tup [if flN (nums r) (λn=>decide (n∈S)) (nums r).length=[] then .nils else .vsl ((flN (nums r) (λn=>decide (n∈S)) (nums r).length).map ia),.int .i64 0]) ?_ (by by_cases q:flN (nums r) (λn=>decide (n∈S)) (nums r).length=[] <;> simp only[q,if_true,if_false] <;> simp[nz])
 (refine Z5H rfl λR hG hrd=>Qga ?_;subst hG)
 simp -implicitDefEqProofs[Z5F,Z5G,rega];refine Qco (Zbk hG r lt d h) ?_;simp -implicitDefEqProofs[takA,e,Zd3,bkA,byA];refine Yd.sem (Z1B.byref hp (λk=>k-1000) (by simp[abO]) (by simp[abO]) (by simp[abO,St.get,lk,AObj.ren,AV.ren,ZcX,Zda,Zd7,byA,bkA];try simp[lfA]) (Zde _ _ _) (by simp[abO,Ya,AV.keys,lk]) rfl (by simp[AV.ren]) rfl rfl) ?_;simp -implicitDefEqProofs[Yl,abO,AObj.ren,AV.ren,ZcX,Zda,Zd7,bkA];refine Z8h (abF (nums r) S) (λ_=>True) (nums r).length ?_ trivial ?_ ?_
 . have e0:flN (nums r) (λn=>decide (n∈S)) 0=[]:=rfl;simp only[abF,e0,if_true]
   ((try simp only[byA]);refine Ym.sub (by simp[lk,Ya,AV.keys,byA]) ?_;simp only[byA,Wkl,Zd9,and_true];(try simp[lk,Yc,Ya,AV.keys,byA]))
 . intro i hi _;refine Qga ?_;have w1:i64.wrap ((i:Int)+1)=((i+1:Nat):Int):=Yf;have gl:=Z9F (nums r)[i] S;have hs:=Zbu (g:=λn=>decide (n∈S)) hi;have bl:=Zbv (nums r) (λn=>decide (n∈S)) i
   have hA:∀ i,abF (nums r) S i=if flN (nums r) (λn=>decide (n∈S)) i=[] then ⟨[(37,.int .i64 i),(36,.int .i64 (nums r).length),(35,.vsl ((nums r).map ia)),(11,.ptr 11 0),(13,.nils)],[(11,.box [.mp 27]),(27,.mp (lfA S))]⟩
    else ⟨[(37,.int .i64 i),(36,.int .i64 (nums r).length),(35,.vsl ((nums r).map ia)),(11,.ptr 11 0),(13,.osl 47 (flN (nums r) (λn=>decide (n∈S)) i).length)],[(11,.box [.mp 27]),(27,.mp (lfA S)),(47,.row 1 ((flN (nums r) (λn=>decide (n∈S)) i).map ia))]⟩:=λ_=>rfl
   simp only[W0b]at hs;generalize flN (nums r) (λn=>decide (n∈S))=F at *;have bb:((F i).length+1)*8<=70368744177664:=(by omega);by_cases q:(nums r)[i]∈S
   . rw[if_pos q]at hs gl;by_cases z:F i=[]
     . rw[z]at hs;simp -implicitDefEqProofs[hA,z,hi,ia,gl,w1,hs]
       ((try simp only[ia]);refine Ym.sub (by simp[lk,Ya,AV.keys,ia]) ?_;simp only[ia,Wkl,Zd9,Zbt,and_true];(try simp[lk,Yc,Ya,AV.keys,ia]))
     . simp -implicitDefEqProofs[hA,z,hi,ia,gl,w1,hs,bb]
       ((try simp only[ia]);refine Ym.sub (by simp[lk,Ya,AV.keys,ia]) ?_;simp only[ia,Wkl,Zd9,Zbt,and_true];(try simp[lk,Yc,Ya,AV.keys,ia]))
   . rw[if_neg q]at hs gl;by_cases z:F i=[]
     . rw[z]at hs;simp -implicitDefEqProofs[hA,z,hi,ia,gl,w1,hs]
       ((try simp only[ia]);refine Ym.sub (by simp[lk,Ya,AV.keys,ia]) ?_;simp only[ia,Wkl,Zd9,Zbt,and_true];(try simp[lk,Yc,Ya,AV.keys,ia]))
     . simp -implicitDefEqProofs[hA,z,hi,ia,gl,w1,hs]
       ((try simp only[ia]);refine Ym.sub (by simp[lk,Ya,AV.keys,ia]) ?_;simp only[ia,Wkl,Zd9,Zbt,and_true];(try simp[lk,Yc,Ya,AV.keys,ia]))
 . intro _;refine Qga ?_
   have hA:abF (nums r) S (nums r).length=if flN (nums r) (λn=>decide (n∈S)) (nums r).length=[] then ⟨[(37,.int .i64 (nums r).length),(36,.int .i64 (nums r).length),(35,.vsl ((nums r).map ia)),(11,.ptr 11 0),(13,.nils)],[(11,.box [.mp 27]),(27,.mp (lfA S))]⟩
    else ⟨[(37,.int .i64 (nums r).length),(36,.int .i64 (nums r).length),(35,.vsl ((nums r).map ia)),(11,.ptr 11 0),(13,.osl 47 (flN (nums r) (λn=>decide (n∈S)) (nums r).length).length)],[(11,.box [.mp 27]),(27,.mp (lfA S)),(47,.row 1 ((flN (nums r) (λn=>decide (n∈S)) (nums r).length).map ia))]⟩:=rfl
   generalize flN (nums r) (λn=>decide (n∈S)) (nums r).length=F at *;by_cases z:F=[]
   . simp -implicitDefEqProofs[hA,z];refine Qgr ?_;simp -implicitDefEqProofs[z]
   . have pu:(F.map ia).all (λr=>r.all AV.pure)=true:=(by simp[ia,AV.pure]);simp -implicitDefEqProofs[hA,z];refine Qgr ?_;simp -implicitDefEqProofs[z,pu]
end Go.Proofs.YthlcppdbldkldaaDoor
