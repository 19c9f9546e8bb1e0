/-
  The abstract machine's code of functions of the program, as a program of ours printed it; that it is theirs is proved beside each.
-/
import Derived.Test.YtcdlimgkliklhaaGreatDoorJP4ToQ0
set_option linter.all false
set_option maxHeartbeats 8000000
namespace Go.Proofs.YtcdlimgkliklhaaGreatDoor
open Go.Proofs.Tryz (prog)
open IntKind (i64)
open Go.RowKit
variable {G:Jg}
section
open Qq Go.Proofs.Tryz
end
def ZpX {ps:Jp} (h:ps.Pairwise λx y=>x.no<y.no) (p:Prt->Bool) {x:Prt} (hx:x∈ps):x.no∈(ps.filter p).map (·.no)↔p x=true:=by
 rw[W0i]
 constructor
 . rintro ⟨y,hy,e⟩;obtain ⟨h1,h2⟩:=W0G.1 hy
   have:y=x:=by
    obtain ⟨i,hi,rfl⟩:=W0k h1;obtain ⟨j,hj,rfl⟩:=W0k hx;rcases W0R i j with c|c|c
    . have:=W0Y.1 h i j hi hj c;omega
    . subst c;rfl
    . have:=W0Y.1 h j i hj hi c;omega
   rw[<- this];exact h2
 . intro q;exact ⟨x,W0G.2 ⟨hx,q⟩,rfl⟩
def no_lt {ps:Jp} (h:ps.Pairwise λx y=>x.no<y.no) (p:Prt->Bool):((ps.filter p).map (·.no)).Pairwise (· < ·):=W2o.2 (h.filter p)
section
variable {r:Jr} {l:Jl} {hs:Jh} {ps:Jp} {day:Int}
def ZpY {ids:List Int} {s:Nat} {x:Int} (h:x∈bitL ids s):x∈ids:=by
 unfold bitL at h;obtain ⟨i,hi,rfl⟩:=W0i.1 h;have hlt:=W1u.1 (W0G.1 hi).1;rw[W0j,W07 hlt];exact W0e hlt
def ho_in {id:Int} (h:id∈hs.map (·.id)):0<=hoI hs id:=by
 have:=hoF_I hs id
 have h2:(hoF hs id).isSome=true:=by
  obtain ⟨x,hx,e⟩:=W0i.1 h;unfold hoF;rw[List.find?_isSome];exact ⟨x,hx,by simp[e]⟩
 rw[h2]at this;exact W0X this
def ZpZ (h0:ck7 r l hs ps=0) (hd:0<=day/\day<=14610) (a b:List Int):ck7 r l hs (ps.map (calP l hs day a b))=0:=ZjP.2 ⟨(ZjP.1 h0).1,ZiY hd (ZjP.1 h0).2⟩
def Zq0 (hg:gr7 r l hs ps=false) (a b:List Int):gr7 r l hs (ps.map (calP l hs day a b))=false:=by
 unfold gr7 at *;rw[W0N];exact hg
def Zq1 (hp:∀ x∈ps,POk x) (a b:List Int):∀ x∈ps.map (calP l hs day a b),POk x:=λx hx=>by
 obtain ⟨y,hy,rfl⟩:=W0i.1 hx;unfold calP;split
 . exact ⟨by simp,by simp⟩
 . exact hp y hy
end
def Zq7 {xs:List AV} (h:TVs [.int .i64] xs):∃ n:Int,xs=ia n:=by
 obtain ⟨x0,_,rfl,h0,h⟩:=h.cons_inv;obtain rfl:=h.nil_inv;obtain ⟨n,rfl,-⟩:=h0.int_inv;exact ⟨n,rfl⟩
open Go.ChangeShapes Go.WideShapes Go.ChangeAt Go.WideMaps Go.WideElems Go.RowKit Go.Deep
def laid7:List (String×DataW Unit):=[("blueline/sheet.checks",Rows.laid_blueline_sheet_checks),("blueline/note.checks",Rows.laid_blueline_note_checks),("blueline/recall.checks",Rows.laid_blueline_recall_checks)]
def Zq8 (os:Os) (args:Array Value):laidMetH prog laid7 ((World.doorLaid prog 41 os).forCall (λ_ _=>0) ⟨#[],args,[]⟩).memory :=
 laidMetH_of_parts3 (fuel:=8) (laidMet_of_run' 8 (by kernel_rfl) (by kernel_rfl)) (by kernel_rfl) (by kernel_rfl)
def cellF {W:World} {fuel:Nat} {c:Value} {y:DataW (List UInt8)×List MemPlace} {tE:Nat} {fld:Field} {ps rs:Array TypeId} {vd:Bool} {b:UInt8} {s:List UInt8} {f0:FuncId}
  (uE:prog.underlying tE=some (.struct #[fld])) (hfo:fld.offset=0) (uF:prog.underlying fld.type=some (.func ps rs vd)) (cF:prog.cellsOf fld.type=1)
  (hone:((List.range prog.funcs.size).filter λf=>(prog.funcs[f]?).any (·.name.toUTF8.data.toList == b::s))=[f0])
  (h:DataW.trod (funcToken prog) prog W 0 (λ_=>true) true fuel tE [c]=some y) (hy:y.1 = .agg [.held (b::s)]):c = .func (.func f0) #[] #[]:=by
 obtain ⟨y0,n,rfl,-,h0⟩:=trod_struct1 uE h;rw[hfo,W1P,cF]at h0;simp only[DataW.agg.injEq,W2f,and_true]at hy;exact func_of_trod (q:=y0.2) uF hone (by rw[<- hy];simpa using h0)
def Zq9 {W:World} {laid:List (String×DataW Unit)} {nm:String} {d:DataW Unit} {g tA tE:Nat} {fld:Field} {ps rs:Array TypeId} {vd:Bool} {n:Nat} (toks:List (List UInt8)) (fs:List FuncId)
  (h:laidMetH prog laid W) (hm:(nm,DataW.iface "func table" d)∈laid) (hg:prog.globalNamed nm=some g) (ht:(prog.globals[g]?).map (·.type)=some tA)
  (uA:prog.underlying tA=some (.array n tE)) (uE:prog.underlying tE=some (.struct #[fld])) (hfo:fld.offset=0) (uF:prog.underlying fld.type=some (.func ps rs vd))
  (cA:prog.cellsOf tA=n) (cE:prog.cellsOf tE=1) (cF:prog.cellsOf fld.type=1) (hl1:toks.length=n) (hl2:fs.length=n)
  (hd0:(d.funcsOut:DataW (List UInt8)) = .agg (toks.map λs=>.agg [.held s]))
  (hone:∀ (i:Nat) (s:List UInt8) (f:FuncId),toks[i]? = some s->fs[i]? = some f->∃ b r,s=b::r/\((List.range prog.funcs.size).filter λf=>(prog.funcs[f]?).any (·.name.toUTF8.data.toList == b::r))=[f]) :
  ∃ t fr,W.heap[g]? = some (.cells ((fs.map λf=>Value.func (.func f) #[] #[]).toArray) t fr):=by
 obtain ⟨g',t,cs,fuel,p,hg',ht',hv,hd⟩:=h.funcs hm;obtain rfl:=W1L (hg.symm.trans hg');obtain rfl:=W1L (ht.symm.trans ht');obtain ⟨xs,m,rfl,hx,hlen,hn,hel⟩:=DataW.trod_array uA hd;rw[cA]at hlen;rw[cE]at hel;rw[hd0,W06,DataW.agg.injEq]at hx;have hx:=hx.1
 have hcs:cs.toList=fs.map λf=>Value.func (.func f) #[] #[]:=by
  refine List.ext_getElem? λi=>?_
  by_cases hi:i<n
  . have e:=hel i hi;have h1:i<xs.length:=(by omega);have h2:i<toks.length:=(by omega);have h3:i<fs.length:=(by omega);have h4:i<cs.toList.length:=(by omega);obtain ⟨b,r,hb,ho⟩:=hone i _ _ (W07 h2) (W07 h3);rw[Nat.mul_one,W0x h4,W1Z,W1g,W07 h1]at e;have ey:=congrArg (λl=>l[i]?) hx;simp only[W09,W07 h2,W07 h1,W0m,W00]at ey;rw[hb]at ey;have:=cellF uE hfo uF cF ho e ey.symm;rw[W07 h4,W09,W07 h3,this];rfl
  . rw[W25 (by omega),W25 (by simp;omega)]
 simp only[World.var?,hg,W1o]at hv
 split at hv
 . rename_i cs' t fr heq;injection hv with hv
   have e:cs=(fs.map λf=>Value.func (.func f) #[] #[]).toArray:=(by rw[<- hcs]);exact ⟨t,fr,by rw[heq,hv,e]⟩
 . cases hv
def TabB (W:World) (g:Nat) (fs:List FuncId):Prop:=∃ t fr,W.heap[g]? = some (.cells ((fs.map λf=>Value.func (.func f) #[] #[]).toArray) t fr)
def tabA (fs:List FuncId):List AV:=fs.map λf=>.func (.func f) [] []
def Zqa {W:World} {g:Nat} {fs:List FuncId} (h:TabB W g fs):PV noM W (.vptr (tabA fs) 0) (.pointer (some ⟨g,0,none⟩)):=by
 obtain ⟨t,fr,hb⟩:=h;refine .vptr _ 0 g 0 (λj=>(((fs.map λf=>Value.func (.func f) #[] #[]).toArray)[j]?).getD undef) (W0c.1 hb).1 id ?_ ?_
 . intro j hj;have hj':j<fs.length:=(by simpa [tabA] using hj);simp[World.cell?,hb,hj']
 . intro j x hx;unfold tabA at hx;rw[W09,W04]at hx;obtain ⟨f,hf,rfl⟩:=hx;have hj':=(W02.1 hf).1;have e:((fs.map λf=>Value.func (.func f) #[] #[]).toArray)[j]? = some (.func (.func f) #[] #[]):=(by simp[hf]);rw[e];exact .func _ [] [] #[] #[] rfl rfl (by simp) (by simp)
def fsC:List FuncId:=[260,261,262,263]
def fsN:List FuncId:=[237,238,239,240,242,243,246,248]
def fsR:List FuncId:=[252,253,254,257,258]
set_option maxRecDepth 100000 in
def Zqb {W:World} (h:laidMetH prog laid7 W):TabB W 0 fsN :=
 Zq9 [[98,108,117,101,108,105,110,101,47,110,111,116,101,46,99,104,101,99,107,115,36,49],[98,108,117,101,108,105,110,101,47,110,111,116,101,46,99,104,101,99,107,115,36,50],[98,108,117,101,108,105,110,101,47,110,111,116,101,46,99,104,101,99,107,115,36,51],[98,108,117,101,108,105,110,101,47,110,111,116,101,46,99,104,101,99,107,115,36,52],[98,108,117,101,108,105,110,101,47,110,111,116,101,46,99,104,101,99,107,115,36,53],[98,108,117,101,108,105,110,101,47,110,111,116,101,46,99,104,101,99,107,115,36,54],[98,108,117,101,108,105,110,101,47,110,111,116,101,46,99,104,101,99,107,115,36,55],[98,108,117,101,108,105,110,101,47,110,111,116,101,46,99,104,101,99,107,115,36,56]] fsN h (W0z _ (W0H ..)) (by kernel_rfl) (by kernel_rfl) Tryz.underlying235 (fld:=_) Tryz.underlying234 rfl Tryz.underlying208 (by kernel_rfl) (by kernel_rfl) (by kernel_rfl) rfl rfl rfl
 (λi s f hs hf=>by
  match i,hs,hf with
  |0,hs,hf=>cases hs;cases hf;exact ⟨_,_,rfl,by kernel_rfl⟩
  |1,hs,hf=>cases hs;cases hf;exact ⟨_,_,rfl,by kernel_rfl⟩
  |2,hs,hf=>cases hs;cases hf;exact ⟨_,_,rfl,by kernel_rfl⟩
  |3,hs,hf=>cases hs;cases hf;exact ⟨_,_,rfl,by kernel_rfl⟩
  |4,hs,hf=>cases hs;cases hf;exact ⟨_,_,rfl,by kernel_rfl⟩
  |5,hs,hf=>cases hs;cases hf;exact ⟨_,_,rfl,by kernel_rfl⟩
  |6,hs,hf=>cases hs;cases hf;exact ⟨_,_,rfl,by kernel_rfl⟩
  |7,hs,hf=>cases hs;cases hf;exact ⟨_,_,rfl,by kernel_rfl⟩
  |i+8,hs,_=>simp at hs)
set_option maxRecDepth 100000 in
def Zqc {W:World} (h:laidMetH prog laid7 W):TabB W 2 fsC :=
 Zq9 [[98,108,117,101,108,105,110,101,47,115,104,101,101,116,46,99,104,101,99,107,115,36,49],[98,108,117,101,108,105,110,101,47,115,104,101,101,116,46,99,104,101,99,107,115,36,50],[98,108,117,101,108,105,110,101,47,115,104,101,101,116,46,99,104,101,99,107,115,36,51],[98,108,117,101,108,105,110,101,47,115,104,101,101,116,46,99,104,101,99,107,115,36,52]] fsC h (W0H ..) (by kernel_rfl) (by kernel_rfl) Tryz.underlying264 (fld:=_) Tryz.underlying263 rfl Tryz.underlying262 (by kernel_rfl) (by kernel_rfl) (by kernel_rfl) rfl rfl rfl
 (λi s f hs hf=>by
  match i,hs,hf with
  |0,hs,hf=>cases hs;cases hf;exact ⟨_,_,rfl,by kernel_rfl⟩
  |1,hs,hf=>cases hs;cases hf;exact ⟨_,_,rfl,by kernel_rfl⟩
  |2,hs,hf=>cases hs;cases hf;exact ⟨_,_,rfl,by kernel_rfl⟩
  |3,hs,hf=>cases hs;cases hf;exact ⟨_,_,rfl,by kernel_rfl⟩
  |i+4,hs,_=>simp at hs)
set_option maxRecDepth 100000 in
def Zqd {W:World} (h:laidMetH prog laid7 W):TabB W 1 fsR :=
 Zq9 [[98,108,117,101,108,105,110,101,47,114,101,99,97,108,108,46,99,104,101,99,107,115,36,49],[98,108,117,101,108,105,110,101,47,114,101,99,97,108,108,46,99,104,101,99,107,115,36,50],[98,108,117,101,108,105,110,101,47,114,101,99,97,108,108,46,99,104,101,99,107,115,36,51],[98,108,117,101,108,105,110,101,47,114,101,99,97,108,108,46,99,104,101,99,107,115,36,52],[98,108,117,101,108,105,110,101,47,114,101,99,97,108,108,46,99,104,101,99,107,115,36,53]] fsR h (W0z _ (W0z _ (W0H ..))) (by kernel_rfl) (by kernel_rfl) Tryz.underlying245 (fld:=_) Tryz.underlying244 rfl Tryz.underlying242 (by kernel_rfl) (by kernel_rfl) (by kernel_rfl) rfl rfl rfl
 (λi s f hs hf=>by
  match i,hs,hf with
  |0,hs,hf=>cases hs;cases hf;exact ⟨_,_,rfl,by kernel_rfl⟩
  |1,hs,hf=>cases hs;cases hf;exact ⟨_,_,rfl,by kernel_rfl⟩
  |2,hs,hf=>cases hs;cases hf;exact ⟨_,_,rfl,by kernel_rfl⟩
  |3,hs,hf=>cases hs;cases hf;exact ⟨_,_,rfl,by kernel_rfl⟩
  |4,hs,hf=>cases hs;cases hf;exact ⟨_,_,rfl,by kernel_rfl⟩
  |i+5,hs,_=>simp at hs)
def G7:Nat->Option (List AV):=λg=>if g=2 then some (tabA fsC) else if g=0 then some (tabA fsN) else if g=1 then some (tabA fsR) else none
def Zqe:GC G7:=rfl
def Zqf:GN G7:=rfl
def Zqg:GP G7:=rfl
def Zqh {W:World} (h:laidMetH prog laid7 W):GR G7 noM W:=by
 intro g cs hg;simp only[G7]at hg
 split at hg
 . rename_i e;subst e;cases hg;exact Zqa (Zqc h)
 . split at hg
   . rename_i e;subst e;cases hg;exact Zqa (Zqb h)
   . split at hg
     . rename_i e;subst e;cases hg;exact Zqa (Zqd h)
     . cases hg
def nteK:List TY:=[.int .i64,.int .i64,.int .u8,.int .i64,.int .i64,.int .i64,.int .i64,.int .i64,.bool,.int .u8]
def hldK:List TY:=[.int .i64,.int .i64,.int .i64,.sl [.int .i64]]
def prtK:List TY:=[.int .i64,.int .i64,.int .i64,.int .i64,.int .i64,.int .i64,.int .u8]
def prsK:List TY:=[.sl isK2,.sl nteK,.sl hldK,.sl prtK]
def Zqi {xs:List AV} (h:TVs nteK xs):∃ x:Nte,xs=na x/\NOk7 x:=by
 obtain ⟨x0,_,rfl,h0,h⟩:=h.cons_inv;obtain ⟨x1,_,rfl,h1,h⟩:=h.cons_inv;obtain ⟨x2,_,rfl,h2,h⟩:=h.cons_inv;obtain ⟨x3,_,rfl,h3,h⟩:=h.cons_inv;obtain ⟨x4,_,rfl,h4,h⟩:=h.cons_inv;obtain ⟨x5,_,rfl,h5,h⟩:=h.cons_inv;obtain ⟨x6,_,rfl,h6,h⟩:=h.cons_inv;obtain ⟨x7,_,rfl,h7,h⟩:=h.cons_inv;obtain ⟨x8,_,rfl,h8,h⟩:=h.cons_inv;obtain ⟨x9,_,rfl,h9,h⟩:=h.cons_inv;obtain rfl:=h.nil_inv;obtain ⟨v0,rfl,-⟩:=h0.int_inv;obtain ⟨v1,rfl,-⟩:=h1.int_inv;obtain ⟨v2,rfl,k2⟩:=h2.int_inv;obtain ⟨v3,rfl,-⟩:=h3.int_inv;obtain ⟨v4,rfl,-⟩:=h4.int_inv;obtain ⟨v5,rfl,-⟩:=h5.int_inv;obtain ⟨v6,rfl,-⟩:=h6.int_inv;obtain ⟨v7,rfl,-⟩:=h7.int_inv;obtain ⟨v8,rfl⟩:=h8.bool_inv;obtain ⟨v9,rfl,k9⟩:=h9.int_inv;obtain ⟨a2,b2⟩:=bounds_u8 k2;obtain ⟨a9,b9⟩:=bounds_u8 k9;exact ⟨⟨v0,v1,v2,v3,v4,v5,v6,v7,v8,v9⟩,rfl,a2,b2,a9,b9⟩
def Zqj {xs:List AV} (h:TVs hldK xs):∃ x:Hld,xs=hoa x:=by
 obtain ⟨x0,_,rfl,h0,h⟩:=h.cons_inv;obtain ⟨x1,_,rfl,h1,h⟩:=h.cons_inv;obtain ⟨x2,_,rfl,h2,h⟩:=h.cons_inv;obtain ⟨x3,_,rfl,h3,h⟩:=h.cons_inv;obtain rfl:=h.nil_inv;obtain ⟨v0,rfl,-⟩:=h0.int_inv;obtain ⟨v1,rfl,-⟩:=h1.int_inv;obtain ⟨v2,rfl,-⟩:=h2.int_inv;obtain ⟨rows,rfl,-,g⟩:=h3.sl_inv;obtain ⟨ds,rfl⟩:=Zlw (f:=ia) λr hr=>Zq7 (g r hr)
 exact ⟨⟨v0,v1,v2,ds⟩,rfl⟩
def Zqk {xs:List AV} (h:TVs prtK xs):∃ x:Prt,xs=ptA x/\POk x:=by
 obtain ⟨x0,_,rfl,h0,h⟩:=h.cons_inv;obtain ⟨x1,_,rfl,h1,h⟩:=h.cons_inv;obtain ⟨x2,_,rfl,h2,h⟩:=h.cons_inv;obtain ⟨x3,_,rfl,h3,h⟩:=h.cons_inv;obtain ⟨x4,_,rfl,h4,h⟩:=h.cons_inv;obtain ⟨x5,_,rfl,h5,h⟩:=h.cons_inv;obtain ⟨x6,_,rfl,h6,h⟩:=h.cons_inv;obtain rfl:=h.nil_inv;obtain ⟨v0,rfl,-⟩:=h0.int_inv;obtain ⟨v1,rfl,-⟩:=h1.int_inv;obtain ⟨v2,rfl,-⟩:=h2.int_inv;obtain ⟨v3,rfl,-⟩:=h3.int_inv;obtain ⟨v4,rfl,-⟩:=h4.int_inv;obtain ⟨v5,rfl,-⟩:=h5.int_inv;obtain ⟨v6,rfl,k6⟩:=h6.int_inv;exact ⟨⟨v0,v1,v2,v3,v4,v5,v6⟩,rfl,bounds_u8 k6⟩
def Zql {xs:List AV} (h:TVs prsK xs):∃ (r:Jr) (l:Jl) (hs:Jh) (ps:Jp),AV.agg xs=prA r l hs ps/\(∀ x∈r,KOk x)/\(∀ x∈l,NOk7 x)/\∀ x∈ps,POk x:=by
 obtain ⟨x0,_,rfl,h0,h⟩:=h.cons_inv;obtain ⟨x1,_,rfl,h1,h⟩:=h.cons_inv;obtain ⟨x2,_,rfl,h2,h⟩:=h.cons_inv;obtain ⟨x3,_,rfl,h3,h⟩:=h.cons_inv;obtain rfl:=h.nil_inv;obtain ⟨rows,rfl,-,g⟩:=h0.sl_inv;obtain ⟨r,rfl,hr⟩:=ZlE (f:=isa) (p:=KOk) λr hr=>ZlD (g r hr)
 obtain ⟨rows,rfl,-,g⟩:=h1.sl_inv;obtain ⟨l,rfl,hl⟩:=ZlE (f:=na) (p:=NOk7) λr hr=>Zqi (g r hr)
 obtain ⟨rows,rfl,-,g⟩:=h2.sl_inv;obtain ⟨hs,rfl⟩:=Zlw (f:=hoa) λr hr=>Zqj (g r hr)
 obtain ⟨rows,rfl,-,g⟩:=h3.sl_inv;obtain ⟨ps,rfl,hp⟩:=ZlE (f:=ptA) (p:=POk) λr hr=>Zqk (g r hr)
 exact ⟨r,l,hs,ps,rfl,hr,hl,hp⟩
section
open Qq Go.Proofs.Tryz
def ZqA:RCode :=
 S [r 0 [b 3 0,n 6 (.bool false)],r 1 [c 31 44 [],m 7 31],S [r 2 [L 32 4 3,c 33 49 [32],t 34 33,m 35 34,g 35 false (f 36 3 3),g 35 false (l 37 36),g 35 false (e 38 37),g 35 false (k 39 .eql 38 O),u 40 35 39,m 41 40,g 41 false (m 42 7),g 41 false (t 43 42),u 44 41 43],K 44 3 [m 45 7,m 6 45]],R 4 [m 46 1,a [0] (c 47 50 [46]),m 48 2,a [2] (w 49 (.conv .i64 (.t 48))),f 50 3 3,a [4] (l 51 50),a [5] (e 52 51),a [3,6] (o 53 .rem 49 52),a [1,1,0,1] (m 8 47),a [7,8,0,1,2,3,4,5,6,7,8] (m 9 53)],r 5 [f 54 3 3,l 55 54,m 56 9,i 57 7 55 56,L 58 7 57,w 10 (.alloc [O,O,O,O,O,O,.int .u8 0]),s 7 10 58],S [r 6 [f 59 6 10,l 60 59,k 61 .neq 60 (.int .u8 1)],K 61 7 [m 62 7,m 6 62]],R 8 [L 63 4 3,a [0] (c 64 18 [63]),L 65 4 3,a [2,1] (c 66 18 [65]),w 11 (.alloc [.nils,.nils,.nils,.nils]),w 12 (.alloc [.nils,.nils,.nils,.nils]),a [4,1,3,0,1,4,5] (s 4 11 64),a [5,3,6,0,1,2,3,4,5,6] (s 4 12 66)],R 9 [f 67 3 11,a [0] (l 68 67),m 69 9,f 70 3 12,a [3] (l 71 70),m 72 9,a [1,2,0,1,2] (i 73 7 68 69),a [6,0,1,2] (f 74 6 73),a [7,0,1,2] (z (.store 1 (.t 74) (.c (.int .u8 2)))),a [4,5,0,1,2,3,4,5,6,7,8] (i 75 7 71 72),a [9,0,1,2,3,4,5,6,7,8] (f 76 6 75),a [10,8,0,1,2,3,4,5,6,7,8] (z (.store 1 (.t 76) (.c (.int .u8 0))))],r 10 [L 78 4 3,m 79 8,f 80 2 10,l 81 80,f 82 3 10,f 83 0 82,l 84 83,c 85 21 [78,79,81,84],m 77 85,x 86 0 77,x 87 1 77,m 13 86,m 14 87],r 11 [L 89 4 11,m 90 8,f 91 2 10,l 92 91,f 93 3 10,f 94 0 93,l 95 94,c 96 21 [89,90,92,95],m 88 96,x 97 0 88,x 98 1 88,m 15 97,m 16 98],r 12 [L 100 4 12,m 101 8,f 102 2 10,l 103 102,f 104 3 10,f 105 0 104,l 106 105,c 107 21 [100,101,103,106],m 99 107,x 108 0 99,x 109 1 99,m 17 108,m 18 109],r 13 [L 111 4 3,m 112 8,c 113 34 [111,112],m 110 113,x 114 0 110,x 115 1 110,m 19 114,m 20 115],r 14 [L 117 4 11,m 118 8,c 119 34 [117,118],m 116 119,x 120 0 116,x 121 1 116,m 21 120,m 22 121],r 15 [L 123 4 12,m 124 8,c 125 34 [123,124],m 122 125,x 126 0 122,x 127 1 122,m 23 126,m 24 127],S [r 16 [m 128 14,k 129 .neq 128 O,m 130 129,g 130 false (m 131 16),g 130 false (k 132 .neq 131 O),u 133 130 132,m 134 133,g 134 false (m 135 18),g 134 false (k 136 .neq 135 O),u 137 134 136,m 138 137,g 138 false (m 139 20),g 138 false (k 140 .neq 139 O),u 141 138 140,m 142 141,g 142 false (m 143 22),g 142 false (k 144 .neq 143 O),u 145 142 144,m 146 145,g 146 false (m 147 24),g 146 false (k 148 .neq 147 O),u 149 146 148],K 149 17 [n 6 (.bool false)]],S [r 18 [m 150 13,e 151 150,n 152 O],.block 0 (.loop (S [r 19 [o 153 .lss 152 151],.cond (.t 153) .skip (.exit 0),.block 1 (S [r 20 [i 154 1 150 152,l 155 154,m 26 155],r 21 [m 156 15,m 157 26,c 158 52 [156,157],t 159 158,m 160 159,g 160 true (m 161 17),g 160 true (m 162 26),g 160 true (c 163 52 [161,162]),g 160 true (t 164 163),v 165 160 164],K 165 22 [n 6 (.bool false)]]),r 23 [k 166 .add 152 I,m 152 166]]))],S [r 24 [w 167 (.bsl true 1 0 [] []),m 168 15,w 169 (.app 1 8 (.t 167) (.t 168)),m 170 17,w 171 (.app 1 8 (.t 169) (.t 170)),e 172 171,n 173 O],.block 2 (.loop (S [r 25 [o 174 .lss 173 172],.cond (.t 174) .skip (.exit 2),.block 3 (S [r 26 [i 175 1 171 173,l 176 175,m 28 176],r 27 [m 177 13,m 178 28,c 179 52 [177,178],t 180 179],K 180 28 [n 6 (.bool false)]]),r 29 [k 181 .add 173 I,m 173 181]]))],S [r 30 [m 182 21,f 183 0 10,l 184 183,c 185 52 [182,184],m 186 185,g 186 false (m 187 19),g 186 false (m 188 23),g 186 false (c 189 25 [187,188]),g 186 false (t 190 189),u 191 186 190],K 191 31 [n 6 (.bool false)]],S [r 32 [m 192 19,e 193 192,n 194 O],.block 4 (.loop (S [r 33 [o 195 .lss 194 193],.cond (.t 195) .skip (.exit 4),.block 5 (S [r 34 [i 196 1 192 194,l 197 196,m 30 197],r 35 [m 198 30,f 199 0 10,l 200 199,o 201 .neq 198 200,m 202 201,g 202 true (m 203 21),g 202 true (m 204 30),g 202 true (c 205 52 [203,204]),g 202 true (t 206 205),v 207 202 206],K 207 36 [n 6 (.bool false)]]),r 37 [k 208 .add 194 I,m 194 208]]))],r 38 [m 209 7,m 210 209,g 210 true (m 211 21),g 210 true (e 212 211),g 210 true (m 213 19),g 210 true (e 214 213),g 210 true (m 215 19),g 210 true (f 216 0 10),g 210 true (l 217 216),g 210 true (c 218 58 [215,217]),g 210 true (o 219 .sub 214 218),g 210 true (o 220 .eql 212 219),v 221 210 220,m 6 221],.ret]
def ZqB:List RRes:=[.t 6]
def ZqC:PCt prog 11 f11 ZqA ZqB:=pcT func11 rfl
def ZqD:RCode :=
 S [r 0 [n 4 O],r 1 [n 5 O],S [r 2 [m 8 0,e 9 8,n 10 O],.block 0 (.loop (S [r 3 [o 11 .lss 10 9],.cond (.t 11) .skip (.exit 0),.block 1 (S [r 4 [i 12 1 8 10,l 13 12,m 7 13],r 5 [m 14 7,m 15 1,o 16 .eql 14 15],.cond (.t 16) (r 6 [m 17 5,k 18 .add 17 I,m 5 18]) .skip]),r 7 [k 19 .add 10 I,m 10 19]]))],r 8 [m 20 5,m 4 20],.ret]
def ZqE:List RRes:=[.t 4]
def ZqF:PCt prog 58 f58 ZqD ZqE:=pcT func58 rfl
end
def twK:Nat->Bool:=λk=>decide (k<1000) && !(k == 9)
def tw9 (B:List AV) (I N:AV) (hs:Jh) (ps:Jp) (i:Nat):St :=
 ⟨[(4,.int .i64 i),(3,.ptr 3 0),(2,.ptr 2 0),(1,.ptr 1 0)],[(1,.box B),(2,.box [.nils,.nils,.nils,.nils]),(3,.box [I,N,hlV 35 (hs.take i),.osl 9 ps.length]),(9,.row 7 (ps.map ptA))]++hlO 35 (hs.take i)⟩
def ZqG (r:Jr) (l:Jl) (hs:Jh) (ps:Jp) (hr:SmlR r) (hl:Sml l) (hw:WfP hs ps) (p0:ps≠[]):PB prog G 18 [] [prA r l hs ps] (.agg [.vsl (r.map isa),.vsl (l.map na),Yg (hs.map hoa),.osl 9 ps.length]) [(9,.row 7 (ps.map ptA))]:=by
 have c1:=Zfl (G:=G) r l hr hl;have hhl:=hw.hl;have hpl:=hw.pl;have hdl:=hw.dl;have b2:ps.length*56<=70368744177664:=(by omega);have pr:((r.map isa).all λr=>r.all AV.pure)=true:=(by simp[isa,AV.pure]);have pN:((l.map na).all λr=>r.all AV.pure)=true:=by simp[na,AV.pure]
 have fP:∀ ok st,frzO ok st (.row 7 (ps.map ptA)) = .row 7 (ps.map ptA):=λok st=>by
  simp only[frzO,W10]
  congr 2
  funext p;simp[ptA,frzA,frz,AV.keys]
 obtain ⟨B,hB⟩ : ∃ B:List AV,B=[.vsl (r.map isa),.vsl (l.map na),.vsl (hs.map hoa),.vsl (ps.map ptA)]:=⟨_,rfl⟩;unfold prA;rw[<- hB];refine Z5i twK (by intro k hk;simp[twK]at hk;omega) Tryz.func18 rfl (by kernel_rfl) (rc:=Zl8) (by kernel_rfl) (rs:=Zl9) (by kernel_rfl) (W0C rfl) λR _ hG hrd=>?_
 subst hG;refine Qga ?_;simp -implicitDefEqProofs[Zl8,Zl9,hB];refine Qco (c1) ?_;simp -implicitDefEqProofs[p0,b2,ptA];refine ⟨rfl,?_⟩;rw[<- hB];refine Z8g (tw9 B (.vsl (r.map isa)) (.vsl (l.map na)) hs ps) (λ_=>True) hs.length ?_ trivial ?_ ?_
 . simp only[tw9,hlV,hlO,W1g,if_true,hB,W1G]
   ((try simp only[p0,ptA]);refine Ym.sub (by simp[lk,Ya,AV.keys,p0,ptA]) ?_;simp only[p0,ptA,Wkl,ZlI,and_true];(try simp[lk,Yc,Ya,AV.keys,p0,ptA]))
 . intro i hi _;have hdi:=hdl _ (W0e hi);obtain ⟨h,hhe⟩:=Qex (hs[i]);rw[<- hhe]at hdi;have hlx:hs[i]=h:=hhe.symm;have hho:hoa h=[.int .i64 h.id,.int .i64 h.fr,.int .i64 h.to,.vsl (h.ds.map ia)]:=rfl;have wi:i64.wrap ((i:Int)+1)=(i:Int)+1:=Yf;have tk:hs.take (i+1)=hs.take i++[h]:=(by rw[W08 hi,hlx]);have tl:(hs.take i).length=i:=(by simp;omega);have bb:(i+1)*48<=70368744177664:=(by omega);have b3:h.ds.length*8<=70368744177664:=(by omega);obtain ⟨H,hH⟩:=Qex (hs.take i);rw[<- hH]at tk tl;have em:(H++[h]).map hoa=H.map hoa++[hoa h]:=(by simp);have hne:¬H++[h]=[]:=(by simp);have hV2:hlV 35 (H++[h]) = .osl 35 (i+1):=(by unfold hlV;rw[if_neg hne];simp[tl]);have hO2:hlO 35 (H++[h])=[(35,.row 4 (H.map hoa++[hoa h]))]:=by unfold hlO;rw[if_neg hne,em]
   have pH:∀ ok st,(H.map hoa).map (λr=>r.map (frzA ok st))=H.map hoa:=λok st=>by
    rw[W10]
    congr 1
    funext x;simp[hoa,frzA,frz,AV.keys]
   have pP:∀ ok st,(ps.map ptA).map (λr=>r.map (frzA ok st))=ps.map ptA:=λok st=>by
    rw[W10]
    congr 1
    funext x;simp[ptA,frzA,frz,AV.keys]
   refine Yb mixed 15 ?_;by_cases cH:H=[]
   case' pos =>
    have hV:hlV 35 H = .nils:=(by simp[hlV,cH]);have hQ:hlO 35 H=[]:=by simp[hlO,cH]
   case' neg =>
    have hV:hlV 35 H = .osl 35 i:=(by simp[hlV,cH,tl]);have hQ:hlO 35 H=[(35,.row 4 (H.map hoa))]:=by simp[hlO,cH]
   all_goals
    by_cases d0:h.ds=[]
    case' pos=>simp -implicitDefEqProofs[tw9,<- hH,hV,hQ,hB,hi,hlx,hho,d0,wi,bb,tl]
    case' neg=>simp -implicitDefEqProofs[tw9,<- hH,hV,hQ,hB,hi,hlx,hho,d0,ia,wi,bb,b3,tl]
    all_goals
     refine GO0 (Z2Q (st':=⟨[(5,.ptr 5 0),(4,.int .i64 i),(3,.ptr 3 0),(2,.ptr 2 0),(1,.ptr 1 0)],[(1,.box [.vsl (r.map isa),.vsl (l.map na),.vsl (hs.map hoa),.vsl (ps.map ptA)]),(2,.box [.nils,.nils,.nils,.nils]),(3,.box [.vsl (r.map isa),.vsl (l.map na),hlV 35 H,.osl 9 ps.length]),(9,.row 7 (ps.map ptA)),(5,.box [.int .i64 h.id,.int .i64 h.fr,.int .i64 h.to,.vsl (h.ds.map ia)])]++hlO 35 H⟩) (Ym.trans (Ym.frz (λk=>k == 26) _) ?_) ?_)
     . simp only[hV,hQ]
       ((try simp only[Yi,frzA,fP,frzO,frz,Yh,Yj,St.get,pH,pP,d0,AV.pure,ia]);refine Ym.sub (by simp[lk,Ya,AV.keys,Yi,frzA,fP,frzO,frz,Yh,Yj,St.get,pH,pP,d0,AV.pure,ia]) ?_;simp only[Yi,frzA,fP,frzO,frz,Yh,Yj,St.get,pH,pP,d0,AV.pure,ia,Wkl,ZlH,ZlI,and_true];(try simp[lk,Yc,Ya,AV.keys,Yi,frzA,fP,frzO,frz,Yh,Yj,St.get,pH,pP,d0,AV.pure,ia]))
       all_goals (try exact p0)
     . refine Qga ?_;simp -implicitDefEqProofs[hV,hQ,wi,bb,tl];refine Qgr ?_;simp -implicitDefEqProofs[wi];simp only[tw9,tk,hV2,hO2,hB,hho];rw[<- hho,<- em]
       ((try simp only[hho,p0]);refine Ym.sub (by simp[lk,Ya,AV.keys,hho,p0]) ?_;simp only[hho,p0,Wkl,ZlH,ZlI,and_true];(try simp[lk,Yc,Ya,AV.keys,hho,p0]))
       all_goals exact ⟨by rw[<- tl,cH];rfl,cH⟩
 . intro _;have tl:hs.take hs.length=hs:=W0v;refine Qga ?_;by_cases cH:hs=[]
   . have hV:hlV 35 hs = .nils:=(by simp[hlV,cH]);have hQ:hlO 35 hs=[]:=(by simp[hlO,cH]);simp -implicitDefEqProofs[tw9,tl,hV,hQ,hB];refine Qgr ?_;simp -implicitDefEqProofs[];simp -implicitDefEqProofs[FinO,Yi,twK,fP,frzA,frz,AV.keys,pr,pN,Yg,cH]
   . have hV:hlV 35 hs = .osl 35 hs.length:=(by simp[hlV,cH]);have hQ:hlO 35 hs=[(35,.row 4 (hs.map hoa))]:=(by simp[hlO,cH]);simp -implicitDefEqProofs[tw9,tl,hV,hQ,hB];refine Qgr ?_;simp -implicitDefEqProofs[];simp -implicitDefEqProofs[FinO,Yi,twK,fP,frzA,frz,AV.keys,pr,pN,Yg,cH,hoa,AV.pure]
section
variable {r:Jr} {l:Jl} {hs:Jh} {A B:Jp} {x:Prt} {day:Int}
def ZqH (h:riP (A++x::B)) (k:Int):riP (A++Zg3 x k::B):=by
 unfold riP at *;rw[W28,W1l]at *;obtain ⟨h1,⟨h2,h3⟩,h4⟩:=h;refine ⟨h1,⟨λy hy=>h2 y hy,h3⟩,λa ha b hb=>?_⟩;rcases W0g.1 hb with rfl|hb
 . exact h4 a ha x (W0H ..)
 . exact h4 a ha b (W0z _ hb)
def ZqI (h1:x.lo=1) (h:ck7 r l hs (A++x::B)=0) {k:Int} (hk:k=0∨k=2):ck7 r l hs (A++Zg3 x k::B)=0:=by
 obtain ⟨g1,g2⟩:=ZjP.1 h;refine ZjP.2 ⟨g1,?_⟩;obtain ⟨q1,q2,q3,q4⟩:=ZiW.1 g2;refine ZiW.2 ⟨q1,by simpa using q2,ZqH q3 k,λy hy=>?_⟩;rcases Zg0.1 hy with rfl|hy
 . have:=q4 x (Zg0.2 (.inl rfl));have h10:¬x.lo=0:=(by omega);simp only[prB,W01,W0T,W0b,h10,and_false,or_false]at this;simp only[prB,Zg3,W01,W0T];refine ⟨⟨⟨this.1.1.1,?_⟩,this.1.2⟩,.inl (W0M this.2)⟩;rcases hk with rfl|rfl <;> rfl
 . exact q4 y (Zg0.2 (.inr hy))
def ZqJ (h:∀ y∈A++x::B,POk y) {k:Int} (hk:k=0∨k=2):∀ y∈A++Zg3 x k::B,POk y:=λy hy=>by
 rcases Zg0.1 hy with rfl|hy
 . unfold POk Zg3;simp only;omega
 . exact h y (Zg0.2 (.inr hy))
def ZqK (h:gr7 r l hs (A++x::B)=false) (k:Int):gr7 r l hs (A++Zg3 x k::B)=false:=by
 unfold gr7 at *;simpa using h
def noS (l:Jl) (hs:Jh) (ps:Jp) (day:Int):List Int:=(staL l hs ps day).map (·.no)
def ZqL (h1:x.lo=1):noS l hs (A++Zg3 x 0::B) day=noS l hs (A++x::B) day:=by
 unfold noS;rw[Zg7,Zg7,Zg6 h1]
 cases stB l hs day x <;> simp[Zg3]
def ZqM:noS l hs (A++Zg3 x 2::B) day=(staL l hs A day).map (·.no)++(staL l hs B day).map (·.no):=by
 unfold noS;rw[Zg7,Zg5];simp
def ZqN (h:riP (A++x::B)):x.no ∉ (staL l hs A day).map (·.no)++(staL l hs B day).map (·.no):=by
 unfold riP at h;rw[W28,W1l]at h;obtain ⟨-,⟨h2,-⟩,h4⟩:=h;intro hm;rcases W0h.1 hm with hm|hm
 . obtain ⟨y,hy,e⟩:=W0i.1 hm;have:=h4 y (W0G.1 hy).1 x (W0H ..);omega
 . obtain ⟨y,hy,e⟩:=W0i.1 hm;have:=h2 y (W0G.1 hy).1;omega
def ZqO:noS l hs (A++x::B) day=(staL l hs A day).map (·.no)++((if stB l hs day x=true then [x.no] else [])++(staL l hs B day).map (·.no)):=by
 unfold noS;rw[Zg7]
 cases stB l hs day x <;> simp
def ZqP {n:Int} (hn:n∈noS l hs (A++x::B) day) (h:n≠x.no):n∈noS l hs (A++Zg3 x 2::B) day:=by
 rw[ZqO]at hn;rw[ZqM];rcases W0h.1 hn with hn|hn
 . exact List.mem_append_left _ hn
 . rcases W0h.1 hn with hn|hn
   . split at hn
     . exact absurd (W0B.1 hn) h
     . cases hn
   . exact List.mem_append_right _ hn
def ZqQ (h:riP (A++x::B)):(noS l hs (A++Zg3 x 2::B) day).length+(noS l hs (A++x::B) day).count x.no=(noS l hs (A++x::B) day).length:=by
 have hn:=ZqN (l:=l) (hs:=hs) (day:=day) h;rw[W0h,not_or]at hn;rw[ZqM,ZqO,List.count_append,List.count_append,List.count_eq_zero.2 hn.1,List.count_eq_zero.2 hn.2]
 cases stB l hs day x <;> simp <;> omega
end
def coI (S:List Int) (n:Int) (i:Nat):Nat:=(S.take i).count n
def ZqR {S:List Int} {n:Int} {i:Nat} (h:i<S.length):coI S n (i+1)=if S[i]=n then coI S n i+1 else coI S n i:=by
 unfold coI;rw[W08 h,List.count_append];by_cases c:S[i]=n
 . rw[if_pos c,c];simp
 . have h0:[S[i]].count n=0:=List.count_eq_zero.2 (by simpa using Ne.symm c);rw[if_neg c,h0];rfl
def ZqS {S:List Int} {n:Int} {i:Nat}:coI S n i<=S.length:=by
 unfold coI;exact W0O List.count_le_length (by simp;omega)
def ZqT (S:List Int) (n:Int) (hS:Sml S):PC prog G 58 [.vsl (S.map ia),.int .i64 n] (.int .i64 (S.count n:Nat)):=by
 unfold Sml at hS
 (refine ZqF rfl λR hG hrd=>Qga ?_;subst hG)
 simp -implicitDefEqProofs[ZqD,ZqE];refine Z8g (λi=>⟨[(10,.int .i64 i),(9,.int .i64 S.length),(8,.vsl (S.map ia)),(5,.int .i64 (coI S n i:Nat)),(1,.int .i64 n)],[]⟩) (λ_=>True) S.length ?_ trivial ?_ ?_
 . have e:coI S n 0=0:=rfl;simp only[e]
   (refine Wkc ?_;simp only[Wkl,and_true];(try simp[lk,Yc,Ya,AV.keys]))
 . intro i hi _;have hc:=ZqS (S:=S) (n:=n) (i:=i);have wi:i64.wrap ((i:Int)+1)=(i:Int)+1:=Yf;have wc:i64.wrap ((coI S n i:Int)+1)=(coI S n i:Int)+1:=Yf;have sc:=ZqR (n:=n) hi;obtain ⟨y,hy⟩:=Qex (S[i]);have hly:S[i]=y:=hy.symm;rw[hly]at sc;refine Qga ?_;by_cases c:y=n
   . rw[if_pos c]at sc;have sc':((coI S n (i+1):Nat):Int)=(coI S n i:Int)+1:=(by omega);simp -implicitDefEqProofs[hi,hly,ia,c,wi,wc];simp only[sc']
     (refine Wkc ?_;simp only[Wkl,and_true];(try simp[lk,Yc,Ya,AV.keys]))
   . rw[if_neg c]at sc;simp -implicitDefEqProofs[hi,hly,ia,c,wi,wc];simp only[sc]
     (refine Wkc ?_;simp only[Wkl,and_true];(try simp[lk,Yc,Ya,AV.keys]))
 . intro _;have e:coI S n S.length=S.count n:=(by unfold coI;rw[W0v]);refine Qga ?_;rw[e];simp -implicitDefEqProofs[];refine Qgr ?_;simp -implicitDefEqProofs[]
def lo1 (L LA LB SS ST SU:List Int) (X:List AV) (i:Nat):St :=
 ⟨[(152,.int .i64 i),(151,.int .i64 L.length),(150,.vsl (L.map ia)),(23,.vsl (SU.map ia)),(21,.vsl (ST.map ia)),(19,.vsl (SS.map ia)),(17,.vsl (LB.map ia)),(15,.vsl (LA.map ia)),(13,.vsl (L.map ia)),(10,.ptr 10 0),(7,.bool true)],[(10,.box X)]⟩
def lo2 (L W SS ST SU:List Int) (X:List AV) (i:Nat):St :=
 ⟨[(173,.int .i64 i),(172,.int .i64 W.length),(171,.osl 167 W.length),(23,.vsl (SU.map ia)),(21,.vsl (ST.map ia)),(19,.vsl (SS.map ia)),(13,.vsl (L.map ia)),(10,.ptr 10 0),(7,.bool true)],[(167,.row 1 (W.map ia)),(10,.box X)]⟩
def lo3 (SS ST:List Int) (X:List AV) (i:Nat):St :=
 ⟨[(194,.int .i64 i),(193,.int .i64 SS.length),(192,.vsl (SS.map ia)),(21,.vsl (ST.map ia)),(19,.vsl (SS.map ia)),(10,.ptr 10 0),(7,.bool true)],[(10,.box X)]⟩
def ZqU (hG:GC G) (hN:GN G) (hP:GP G) (r:Jr) (l:Jl) (hs:Jh) (ps:Jp) (dd wh:Int) (hr:∀ x∈r,KOk x) (hl:∀ x∈l,NOk7 x) (hp:∀ x∈ps,POk x) (hdd:0<=dd/\dd<=65535) (hwh:0<=wh/\wh<=255) :
  PC prog G 11 [prA r l hs ps,.int .u16 dd,.int .u8 wh] (.bool true):=by
 have hA:=Zpo hG hN hP;have hR:=ZpD (G:=G) r l hs ps hl hr hp;have hD:=ZpC (G:=G) dd hdd.1 hdd.2
 cases hb:!gr7 r l hs ps&&decide (ck7 r l hs ps=0) with
 | false =>
   rw[hb]at hR;unfold prA at *
   (refine ZqC rfl λR hG hrd=>Qga ?_;subst hG)
   simp -implicitDefEqProofs[ZqA,ZqB];refine Qco (hA) ?_;simp -implicitDefEqProofs[];refine Qco (hR) ?_;simp -implicitDefEqProofs[]
 |true =>
 rw[hb]at hR;rw[W01,W1C,W0b]at hb;obtain ⟨hg,h0⟩:=hb;by_cases hps:ps=[]
 . have e0:ps.length=0:=(by rw[hps];rfl);unfold prA at *
   (refine ZqC rfl λR hG hrd=>Qga ?_;subst hG)
   simp -implicitDefEqProofs[ZqA,ZqB];refine Qco (hA) ?_;simp -implicitDefEqProofs[];refine Qco (hR) ?_;simp -implicitDefEqProofs[e0,hps]
 obtain ⟨wl,wr,wd,wp⟩:=ZlN hg hr hl hp;have hdy:=ZpB hdd.1;obtain ⟨day,hday⟩:=Qex (dy7 dd);rw[<- hday]at hD hdy;have hpl:=wp.pl;have hlp:0<ps.length:=List.length_pos_iff.2 hps;have q2:=Int.tmod_lt_of_pos wh (b:=ps.length) (by omega);have k0:¬(ps.length:Int)=0:=(by omega);have k0':¬ps.length=0:=(by omega);have w1:i64.wrap wh=wh:=Yf;obtain ⟨i0,hi0⟩ : ∃ i0:Nat,wh.tmod ps.length=i0:=⟨_,(Int.toNat_of_nonneg (Int.tmod_nonneg _ hwh.1)).symm⟩;have hi:i0<ps.length:=(by omega);obtain ⟨x,hx⟩:=Qex (ps[i0]);have hlx:ps[i0]=x:=hx.symm;have hxm:x∈ps:=(by rw[hx];exact W0e hi);have hpx:ptA x=[.int .i64 x.no,.int .i64 x.dy,.int .i64 x.ho,.int .i64 x.dw,.int .i64 x.lt,.int .i64 x.bk,.int .u8 x.lo]:=rfl;by_cases h1:x.lo=1
 case neg =>
  unfold prA at *
  (refine ZqC rfl λR hG hrd=>Qga ?_;subst hG)
  simp -implicitDefEqProofs[ZqA,ZqB];refine Qco (hA) ?_;simp -implicitDefEqProofs[];refine Qco (hR) ?_;simp -implicitDefEqProofs[hps];refine Qco (hD) ?_;simp -implicitDefEqProofs[k0,k0',w1,hi0,hi,hlx,hpx,h1];rfl
 obtain ⟨A,hAA⟩:=Qex (ps.take i0);obtain ⟨B,hBB⟩:=Qex (ps.drop (i0+1))
 have hsp:ps=A++x::B:=by
  rw[hAA,hBB,hx];simp
 have hAl:A.length=i0:=by rw[hAA,W15];omega
 have hset:∀ k,(ps.map ptA).set i0 (ptA (Zg3 x k))=(A++Zg3 x k::B).map ptA:=λk=>by
  rw[<- W2r]
  congr 1
  conv=>lhs;rw[hsp]
  rw[W24 _ _ (by omega),hAl,W2q];rfl
 obtain ⟨P2,hP2⟩:=Qex (A++Zg3 x 2::B);obtain ⟨P0,hP0⟩:=Qex (A++Zg3 x 0::B);have hrp:riP ps:=(ZiW.1 (ZjP.1 h0).2).2.2.1;have h02:ck7 r l hs P2=0:=(by rw[hP2];exact ZqI h1 (hsp ▸ h0) (.inr rfl));have h00:ck7 r l hs P0=0:=(by rw[hP0];exact ZqI h1 (hsp ▸ h0) (.inl rfl));have hp2:∀ y∈P2,POk y:=(by rw[hP2];exact ZqJ (hsp ▸ hp) (.inr rfl));have hp0:∀ y∈P0,POk y:=(by rw[hP0];exact ZqJ (hsp ▸ hp) (.inl rfl));have hg2:gr7 r l hs P2=false:=(by rw[hP2];exact ZqK (hsp ▸ hg) 2);have hg0:gr7 r l hs P0=false:=(by rw[hP0];exact ZqK (hsp ▸ hg) 0);obtain ⟨-,-,-,wp2⟩:=ZlN hg2 hr hl hp2;obtain ⟨-,-,-,wp0⟩:=ZlN hg0 hr hl hp0;obtain ⟨hho0,hdn⟩:=Zm3 h0 hxm;have hrng:inR day 0 14610=true:=(by simp[inR];omega);have a1:as7 r l hs ps day 1=0:=(by rw[as7,if_pos h0,if_pos ⟨hrng,rfl⟩]);have a2:as7 r l hs P2 day 1=0:=(by rw[as7,if_pos h02,if_pos ⟨hrng,rfl⟩]);have a0:as7 r l hs P0 day 1=0:=(by rw[as7,if_pos h00,if_pos ⟨hrng,rfl⟩]);have b1:ab7 r l hs ps day 1 x.ho [x.dw]=0:=(by rw[ab7,if_pos a1,if_pos ⟨hho0,by simp[hdn]⟩]);have b2:ab7 r l hs P2 day 1 x.ho [x.dw]=0:=(by rw[ab7,if_pos a2,if_pos ⟨hho0,by simp[hdn]⟩]);have b0:ab7 r l hs P0 day 1 x.ho [x.dw]=0:=(by rw[ab7,if_pos a0,if_pos ⟨hho0,by simp[hdn]⟩]);have c1:=Zlp hG hN hP r l hs ps day x.ho x.dw wl wr wd wp (λ_=>ZlM hp h0);have c2:=Zlp hG hN hP r l hs P2 day x.ho x.dw wl wr wd wp2 (λ_=>ZlM hp2 h02);have c3:=Zlp hG hN hP r l hs P0 day x.ho x.dw wl wr wd wp0 (λ_=>ZlM hp0 h00);rw[if_pos b1]at c1;rw[if_pos b2]at c2;rw[if_pos b0]at c3;have d1:=ZmD hG hN hP r l hs ps day wl wr wd wp;have d2:=ZmD hG hN hP r l hs P2 day wl wr wd wp2;have d3:=ZmD hG hN hP r l hs P0 day wl wr wd wp0;rw[stA7,sta7E,if_pos a1,a1]at d1;rw[stA7,sta7E,if_pos a2,a2]at d2;rw[stA7,sta7E,if_pos a0,a0]at d3;obtain ⟨L,hL⟩:=Qex (wkL ps day x.ho x.dw);obtain ⟨LA,hLA⟩ : ∃ L,L=wkL P2 day x.ho x.dw:=⟨_,rfl⟩;obtain ⟨LB,hLB⟩ : ∃ L,L=wkL P0 day x.ho x.dw:=⟨_,rfl⟩;obtain ⟨SS,hSS⟩ : ∃ L,L=(staL l hs ps day).map (·.no):=⟨_,rfl⟩;obtain ⟨ST,hST⟩ : ∃ L,L=(staL l hs P2 day).map (·.no):=⟨_,rfl⟩
 have hSU:(staL l hs P0 day).map (·.no)=SS:=by
  have:=ZqL (l:=l) (hs:=hs) (A:=A) (B:=B) (day:=day) h1;rw[<- hsp,<- hP0]at this;rw[hSS];exact this
 rw[<- hL]at c1;rw[<- hLA]at c2;rw[<- hLB]at c3;rw[<- hSS]at d1;rw[<- hST]at d2;rw[hSU]at d3;have d1:=PC.out (w:=.tup [.vsl (SS.map ia),.int .i64 0]) d1 (Nsub.tup ⟨.orNil _,.rfl',trivial⟩);have d2:=PC.out (w:=.tup [.vsl (ST.map ia),.int .i64 0]) d2 (Nsub.tup ⟨.orNil _,.rfl',trivial⟩);have d3:=PC.out (w:=.tup [.vsl (SS.map ia),.int .i64 0]) d3 (Nsub.tup ⟨.orNil _,.rfl',trivial⟩);have sL:L.length<=10:=(by rw[hL];exact Zm7);have sLA:LA.length<=10:=(by rw[hLA];exact Zm7);have sLB:LB.length<=10:=(by rw[hLB];exact Zm7);have sSS:SS.length<=41:=by rw[hSS];have:=ZmC (l:=l) (hs:=hs) (ps:=ps) (day:=day);rw[W0N];omega
 have hwk:∀ n,n∈L↔n∈LA∨n∈LB:=λn=>by
  have:=Zg4 (A:=A) (B:=B) (day:=day) (x:=x) (by rw[<- hsp];exact (ZlM hp h0).1) h1 n;rw[<- hsp,<- hP2,<- hP0]at this;rw[hL,hLA,hLB];exact this
 have hxT:x.no ∉ ST:=by
  have h2:=ZqM (l:=l) (hs:=hs) (A:=A) (B:=B) (x:=x) (day:=day);rw[<- hP2]at h2;rw[hST];show x.no ∉ noS l hs P2 day;rw[h2];exact ZqN (hsp ▸ hrp)
 have hinT:∀ n∈SS,n≠x.no->n∈ST:=λn hn hne=>by
  have:=ZqP (l:=l) (hs:=hs) (A:=A) (B:=B) (day:=day) (x:=x) (n:=n);rw[<- hsp,<- hP2]at this;rw[hST];rw[hSS]at hn;exact this hn hne
 have hlen:ST.length+SS.count x.no=SS.length:=by
  have:=ZqQ (l:=l) (hs:=hs) (A:=A) (B:=B) (day:=day) (x:=x) (hsp ▸ hrp);rw[<- hsp,<- hP2]at this;rw[hST,hSS];exact this
 have sST:ST.length<=41:=(by omega);have hT:=ZqG (G:=G) r l hs ps wr.1 wl.1 wp hps;have g1:=λn=>ZpE (G:=G) LA n (by unfold Sml;omega)
 have g2:=λn=>ZpE (G:=G) LB n (by unfold Sml;omega)
 have g3:=λn=>ZpE (G:=G) L n (by unfold Sml;omega)
 have g4:=λn=>ZpE (G:=G) ST n (by unfold Sml;omega)
 have g5:=Z8n (G:=G) SS SS (by unfold Sml;omega);have g6:=ZqT (G:=G) SS x.no (by unfold Sml;omega);obtain ⟨Q,hQ⟩ : ∃ Q:List AV,Q=[.vsl (r.map isa),.vsl (l.map na),.vsl (hs.map hoa),.vsl (ps.map ptA)]:=⟨_,rfl⟩;obtain ⟨X,hX⟩ : ∃ X:List AV,X=[.int .i64 x.no,.int .i64 x.dy,.int .i64 x.ho,.int .i64 x.dw,.int .i64 x.lt,.int .i64 x.bk,.int .u8 1]:=⟨_,rfl⟩;have kX:∀ o,Yc o (.box X)=true:=λo=>by rw[hX];simp[Yc,Ya,AV.keys]
 have X0:X[0]? = some (.int .i64 x.no):=(by rw[hX];rfl);have pI:∀ ρ,(AV.vsl (r.map isa)).ren ρ = .vsl (r.map isa):=λρ=>AV.ren_pure _ (by simp[AV.pure,isa])
 have pN:∀ ρ,(AV.vsl (l.map na)).ren ρ = .vsl (l.map na):=λρ=>AV.ren_pure _ (by simp[AV.pure,na])
 have pH:∀ ρ,(AV.vsl (hs.map hoa)).ren ρ = .vsl (hs.map hoa):=λρ=>AV.ren_pure _ (by simp[AV.pure,hoa,ia])
 have hhs:hs≠[]:=λe=>by rw[e]at hho0;exact absurd hho0 (by simp[hoI,fstOf])
 have eh:Yg (hs.map hoa) = .vsl (hs.map hoa):=(by unfold Yg;rw[if_neg (by simpa using hhs)]);rw[eh]at hT;unfold prA at *;have rD:=λρ=>Zmv ρ ps
 refine ZqC rfl λR hG hrd=>?_
 subst hG;refine Yb mixed 27 ?_;simp -implicitDefEqProofs[ZqA,ZqB];refine Qco (hA) ?_;simp -implicitDefEqProofs[];refine Qco (hR) ?_;simp -implicitDefEqProofs[hps];refine Qco (hD) ?_;simp -implicitDefEqProofs[k0,k0',w1,hi0,hi,hlx,hpx,h1];refine ⟨rfl,?_⟩;refine GO0 (ZkA mixed ?_)
 iterate 1 (rw[RE_op (by simp[wants]) (by simp[Z1y])];simp -implicitDefEqProofs[execE])
 rw[ZkC (by simp[wants])];simp -implicitDefEqProofs[];refine CallE.new (NewS.of hT (λk=>k+700) (by simp) (by simp[St.get,lk]) (by simp[AV.pure,isa,na,hoa,ptA,ia]) rfl) ?_;simp -implicitDefEqProofs[Yl,rD,AV.ren,pI,pN,pH]
 iterate 1 (rw[RE_op (by simp[wants]) (by simp[Z1y])];simp -implicitDefEqProofs[execE])
 rw[ZkC (by simp[wants])];simp -implicitDefEqProofs[];refine CallE.new (NewS.of hT (λk=>k+800) (by simp) (by simp[St.get,lk]) (by simp[AV.pure,isa,na,hoa,ptA,ia]) rfl) ?_;simp -implicitDefEqProofs[Yl,rD,AV.ren,pI,pN,pH]
 iterate 4 (rw[RE_op (by simp[wants]) (by simp[Z1y])];simp -implicitDefEqProofs[execE])
 refine ⟨rfl,?_⟩;refine Z2R mixed 4 ?_;simp -implicitDefEqProofs[hi,hlx,hpx];refine ⟨rfl,?_⟩;have hs2:(ps.map ptA).set i0 [.int .i64 x.no,.int .i64 x.dy,.int .i64 x.ho,.int .i64 x.dw,.int .i64 x.lt,.int .i64 x.bk,.int .u8 2]=P2.map ptA:=(by rw[hP2,<- hset 2];rfl);have hs0:(ps.map ptA).set i0 [.int .i64 x.no,.int .i64 x.dy,.int .i64 x.ho,.int .i64 x.dw,.int .i64 x.lt,.int .i64 x.bk,.int .u8 0]=P0.map ptA:=(by rw[hP0,<- hset 0];rfl);have hP2l:P2.length=ps.length:=(by rw[hP2,hsp];simp);have hP0l:P0.length=ps.length:=(by rw[hP0,hsp];simp);have pP2:((P2.map ptA).all λr=>r.all AV.pure)=true:=(by simp[ptA,AV.pure]);have pP0:((P0.map ptA).all λr=>r.all AV.pure)=true:=(by simp[ptA,AV.pure]);rw[hs2,hs0];refine GO0 (Z2Q (st':=⟨[(12,.ptr 12 0),(11,.ptr 11 0),(10,.ptr 10 0),(8,.int .i64 day),(7,.bool true),(3,.ptr 3 0)],[(12,.box [.vsl (r.map isa),.vsl (l.map na),.vsl (hs.map hoa),.vsl (P0.map ptA)]),(11,.box [.vsl (r.map isa),.vsl (l.map na),.vsl (hs.map hoa),.vsl (P2.map ptA)]),(10,.box [.int .i64 x.no,.int .i64 x.dy,.int .i64 x.ho,.int .i64 x.dw,.int .i64 x.lt,.int .i64 x.bk,.int .u8 1]),(3,.box [.vsl (r.map isa),.vsl (l.map na),.vsl (hs.map hoa),.vsl (ps.map ptA)])]⟩) (Ym.trans (Ym.frz (λk=>k == 709||k == 809) _) ?_) ?_)
 . ((try simp only[Yi,frzA,frzO,frz,Yh,Yj,St.get,AV.pure,pP2,pP0,hP2l,hP0l]);refine Ym.sub (by simp[lk,Ya,AV.keys,Yi,frzA,frzO,frz,Yh,Yj,St.get,AV.pure,pP2,pP0,hP2l,hP0l]) ?_;simp only[Yi,frzA,frzO,frz,Yh,Yj,St.get,AV.pure,pP2,pP0,hP2l,hP0l,Wkl,and_true];(try simp[lk,Yc,Ya,AV.keys,Yi,frzA,frzO,frz,Yh,Yj,St.get,AV.pure,pP2,pP0,hP2l,hP0l]))
 refine Qga ?_;simp -implicitDefEqProofs[];refine Qco (c1) ?_;simp -implicitDefEqProofs[];refine Qco (c2) ?_;simp -implicitDefEqProofs[];refine Qco (c3) ?_;simp -implicitDefEqProofs[];refine Qco (d1) ?_;simp -implicitDefEqProofs[];refine Qco (d2) ?_;simp -implicitDefEqProofs[];refine Qco (d3) ?_;simp -implicitDefEqProofs[];rw[<- hX];refine Z8g (lo1 L LA LB SS ST SS X) (λ_=>True) L.length ?_ trivial ?_ ?_
 . unfold lo1
   (refine Wkc ?_;simp only[kX,Wkl,and_true];(try simp[lk,Yc,Ya,AV.keys]))
 . intro i hi _;have wi:i64.wrap ((i:Int)+1)=(i:Int)+1:=Yf;obtain ⟨y,hy⟩:=Qex (L[i]);have hly:L[i]=y:=hy.symm;have hor:=(hwk y).1 (by rw[hy];exact W0e hi);have ca:=g1 y;have cb:=g2 y;refine Qga ?_;unfold lo1;by_cases c:y∈LA
   . rw[W0M c]at ca;simp -implicitDefEqProofs[hi,hly,ia];refine Qco (ca) ?_;simp -implicitDefEqProofs[wi]
     (refine Wkc ?_;simp only[kX,Wkl,and_true];(try simp[lk,Yc,Ya,AV.keys]))
   . rw[W0S c]at ca;rw[W0M (hor.resolve_left c)]at cb;simp -implicitDefEqProofs[hi,hly,ia];refine Qco (ca) ?_;simp -implicitDefEqProofs[];refine Qco (cb) ?_;simp -implicitDefEqProofs[wi]
     (refine Wkc ?_;simp only[kX,Wkl,and_true];(try simp[lk,Yc,Ya,AV.keys]))
 . intro _;refine Qga ?_;unfold lo1;simp -implicitDefEqProofs[];refine Qgr ?_;have nA:¬LA=[]:=(by rw[hLA,wkL];simp);have nB:¬LB=[]:=(by rw[hLB,wkL];simp);have bA:LA.length*8<=70368744177664:=(by omega);have bW:(LA.length+LB.length)*8<=70368744177664:=(by omega);have kA:∀ L:List Int,(L.map ia).all (λr=>r.length == 1)=true:=λL=>by simp[ia]
   have kA2:∀ L:List Int,(L.map ia).all (λr=>r.all AV.one)=true:=λL=>by simp[ia,AV.one]
   have kA3:∀ L:List Int,(L.map ia).all (λr=>r.all AV.pure)=true:=λL=>by simp[ia,AV.pure]
   simp -implicitDefEqProofs[nA,nB,bA,bW,kA,kA2,kA3];obtain ⟨W,hW⟩:=Qex (LA++LB);have hWm:W.map ia=LA.map ia++LB.map ia:=(by rw[hW,W0r]);have hWl:W.length=LA.length+LB.length:=(by rw[hW,W0s]);refine Z8g (lo2 L W SS ST SS X) (λ_=>True) W.length ?_ trivial ?_ ?_
   . unfold lo2;rw[hWm,hWl]
     ((try simp only[ia,Int.natCast_add]);refine Ym.sub (by simp[lk,Ya,AV.keys,ia,Int.natCast_add]) ?_;simp only[ia,Int.natCast_add,Wkl,kX,and_true];(try simp[lk,Yc,Ya,AV.keys,ia,Int.natCast_add]))
   . intro i hi _;have wi:i64.wrap ((i:Int)+1)=(i:Int)+1:=Yf;obtain ⟨y,hy⟩:=Qex (W[i]);have hly:W[i]=y:=hy.symm
     have hor:y∈L:=(hwk y).2 (by
      have:y∈W:=(by rw[hy];exact W0e hi);rw[hW]at this;exact W0h.1 this)
     have ca:=g3 y;rw[W0M hor]at ca;refine Qga ?_;unfold lo2;simp -implicitDefEqProofs[hi,hly,ia];refine Qco (ca) ?_;simp -implicitDefEqProofs[wi]
     (refine Wkc ?_;simp only[kX,Zem,Wkl,and_true];(try simp[lk,Yc,Ya,AV.keys]))
   . intro _;refine Qga ?_;unfold lo2;simp -implicitDefEqProofs[];refine Qgr ?_;have cx:=g4 x.no;rw[W0S hxT]at cx;rw[W0M rfl]at g5;simp -implicitDefEqProofs[X0];refine Qco (cx) ?_;simp -implicitDefEqProofs[];refine Qco (g5) ?_;simp -implicitDefEqProofs[];refine Z8g (lo3 SS ST X) (λ_=>True) SS.length ?_ trivial ?_ ?_
     . unfold lo3
       (refine Wkc ?_;simp only[kX,Wkl,and_true];(try simp[lk,Yc,Ya,AV.keys]))
     . intro i hi _;have wi:i64.wrap ((i:Int)+1)=(i:Int)+1:=Yf;obtain ⟨y,hy⟩:=Qex (SS[i]);have hly:SS[i]=y:=hy.symm;have ca:=g4 y;refine Qga ?_;unfold lo3;by_cases c:y=x.no
       . simp -implicitDefEqProofs[hi,hly,ia,X0,c,wi]
         (refine Wkc ?_;simp only[kX,Wkl,and_true];(try simp[lk,Yc,Ya,AV.keys]))
       . rw[W0M (hinT y (by rw[hy];exact W0e hi) c)]at ca;simp -implicitDefEqProofs[hi,hly,ia,X0,c];refine Qco (ca) ?_;simp -implicitDefEqProofs[wi]
         (refine Wkc ?_;simp only[kX,Wkl,and_true];(try simp[lk,Yc,Ya,AV.keys]))
     . intro _;have wl2:i64.wrap ((SS.length:Int)-(SS.count x.no:Nat))=(ST.length:Int):=(by rw[Yf (by omega) (by omega)];omega);refine Qga ?_;unfold lo3;simp -implicitDefEqProofs[];refine Qgr ?_;simp -implicitDefEqProofs[X0];refine Qco (g6) ?_;simp -implicitDefEqProofs[wl2];refine Qgr ?_;simp -implicitDefEqProofs[]
end Go.Proofs.YtcdlimgkliklhaaGreatDoor
