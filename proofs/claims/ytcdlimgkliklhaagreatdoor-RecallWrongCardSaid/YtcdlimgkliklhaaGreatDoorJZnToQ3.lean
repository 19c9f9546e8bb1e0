/-
  Plain: why a print is stale.
-/
import Derived.Test.YtcdlimgkliklhaaGreatDoorJP4ToQ0
set_option linter.all false
set_option maxHeartbeats 8000000
namespace Go.Proofs.YtcdlimgkliklhaaGreatDoor
open Go.Proofs.Tryz (prog)
open IntKind (i64)
variable {G:Jg}
def ZpX {ps:Jp} (h:ps.Pairwise λx y=>x.no<y.no) (p:Prt->Bool) {x:Prt} (hx:x∈ps):x.no∈(ps.filter p).map (·.no)↔p x=true:=by
 rw[W0i]
 constructor
 . rintro ⟨y,hy,e⟩;obtain ⟨h1,h2⟩:=W0G.1 hy
   have:y=x:=by
    obtain ⟨i,hi,rfl⟩:=W0k h1;obtain ⟨j,hj,rfl⟩:=W0k hx;rcases W0R i j with c|c|c
    . have:=W0Y.1 h i j hi hj c;omega
    . subst c;rfl
    . have:=W0Y.1 h j i hj hi c;omega
   rw[<- this];exact h2
 . intro q;exact ⟨x,W0G.2 ⟨hx,q⟩,rfl⟩
def no_lt {ps:Jp} (h:ps.Pairwise λx y=>x.no<y.no) (p:Prt->Bool):((ps.filter p).map (·.no)).Pairwise (· < ·):=W2o.2 (h.filter p)
def Zq7 {xs:List AV} (h:TVs [.int .i64] xs):∃ n:Int,xs=ia n:=by
 obtain ⟨x0,_,rfl,h0,h⟩:=h.cons_inv;obtain rfl:=h.nil_inv;obtain ⟨n,rfl,-⟩:=h0.int_inv;exact ⟨n,rfl⟩
open Go.ChangeShapes Go.WideShapes Go.ChangeAt Go.WideMaps Go.WideElems Go.RowKit Go.Deep
def laid7:List (String×DataW Unit):=[("blueline/sheet.checks",Rows.laid_blueline_sheet_checks),("blueline/note.checks",Rows.laid_blueline_note_checks),("blueline/recall.checks",Rows.laid_blueline_recall_checks)]
def Zq8 (os:Os) (args:Array Value):laidMetH prog laid7 ((World.doorLaid prog 41 os).forCall (λ_ _=>0) ⟨#[],args,[]⟩).memory :=
 laidMetH_of_parts3 (fuel:=8) (laidMet_of_run' 8 (by kernel_rfl) (by kernel_rfl)) (by kernel_rfl) (by kernel_rfl)
def cellF {W:World} {fuel:Nat} {c:Value} {y:DataW (List UInt8)×List MemPlace} {tE:Nat} {fld:Field} {ps rs:Array TypeId} {vd:Bool} {b:UInt8} {s:List UInt8} {f0:FuncId}
  (uE:prog.underlying tE=some (.struct #[fld])) (hfo:fld.offset=0) (uF:prog.underlying fld.type=some (.func ps rs vd)) (cF:prog.cellsOf fld.type=1)
  (hone:((List.range prog.funcs.size).filter λf=>(prog.funcs[f]?).any (·.name.toUTF8.data.toList == b::s))=[f0])
  (h:DataW.trod (funcToken prog) prog W 0 (λ_=>true) true fuel tE [c]=some y) (hy:y.1 = .agg [.held (b::s)]):c = .func (.func f0) #[] #[]:=by
 obtain ⟨y0,n,rfl,-,h0⟩:=trod_struct1 uE h;rw[hfo,W1P,cF]at h0;simp only[DataW.agg.injEq,W2f,and_true]at hy;exact func_of_trod (q:=y0.2) uF hone (by rw[<- hy];simpa using h0)
def Zq9 {W:World} {laid:List (String×DataW Unit)} {nm:String} {d:DataW Unit} {g tA tE:Nat} {fld:Field} {ps rs:Array TypeId} {vd:Bool} {n:Nat} (toks:List (List UInt8)) (fs:List FuncId)
  (h:laidMetH prog laid W) (hm:(nm,DataW.iface "func table" d)∈laid) (hg:prog.globalNamed nm=some g) (ht:(prog.globals[g]?).map (·.type)=some tA)
  (uA:prog.underlying tA=some (.array n tE)) (uE:prog.underlying tE=some (.struct #[fld])) (hfo:fld.offset=0) (uF:prog.underlying fld.type=some (.func ps rs vd))
  (cA:prog.cellsOf tA=n) (cE:prog.cellsOf tE=1) (cF:prog.cellsOf fld.type=1) (hl1:toks.length=n) (hl2:fs.length=n)
  (hd0:(d.funcsOut:DataW (List UInt8)) = .agg (toks.map λs=>.agg [.held s]))
  (hone:∀ (i:Nat) (s:List UInt8) (f:FuncId),toks[i]? = some s->fs[i]? = some f->∃ b r,s=b::r/\((List.range prog.funcs.size).filter λf=>(prog.funcs[f]?).any (·.name.toUTF8.data.toList == b::r))=[f]) :
  ∃ t fr,W.heap[g]? = some (.cells ((fs.map λf=>Value.func (.func f) #[] #[]).toArray) t fr):=by
 obtain ⟨g',t,cs,fuel,p,hg',ht',hv,hd⟩:=h.funcs hm;obtain rfl:=W1L (hg.symm.trans hg');obtain rfl:=W1L (ht.symm.trans ht');obtain ⟨xs,m,rfl,hx,hlen,hn,hel⟩:=DataW.trod_array uA hd;rw[cA]at hlen;rw[cE]at hel;rw[hd0,W06,DataW.agg.injEq]at hx;have hx:=hx.1
 have hcs:cs.toList=fs.map λf=>Value.func (.func f) #[] #[]:=by
  refine List.ext_getElem? λi=>?_
  by_cases hi:i<n
  . have e:=hel i hi;have h1:i<xs.length:=(by omega);have h2:i<toks.length:=(by omega);have h3:i<fs.length:=(by omega);have h4:i<cs.toList.length:=(by omega);obtain ⟨b,r,hb,ho⟩:=hone i _ _ (W07 h2) (W07 h3);rw[Nat.mul_one,W0x h4,W1Z,W1g,W07 h1]at e;have ey:=congrArg (λl=>l[i]?) hx;simp only[W09,W07 h2,W07 h1,W0m,W00]at ey;rw[hb]at ey;have:=cellF uE hfo uF cF ho e ey.symm;rw[W07 h4,W09,W07 h3,this];rfl
  . rw[W25 (by omega),W25 (by simp;omega)]
 simp only[World.var?,hg,W1o]at hv
 split at hv
 . rename_i cs' t fr heq;injection hv with hv
   have e:cs=(fs.map λf=>Value.func (.func f) #[] #[]).toArray:=(by rw[<- hcs]);exact ⟨t,fr,by rw[heq,hv,e]⟩
 . cases hv
def TabB (W:World) (g:Nat) (fs:List FuncId):Prop:=∃ t fr,W.heap[g]? = some (.cells ((fs.map λf=>Value.func (.func f) #[] #[]).toArray) t fr)
def tabA (fs:List FuncId):List AV:=fs.map λf=>.func (.func f) [] []
def Zqa {W:World} {g:Nat} {fs:List FuncId} (h:TabB W g fs):PV noM W (.vptr (tabA fs) 0) (.pointer (some ⟨g,0,none⟩)):=by
 obtain ⟨t,fr,hb⟩:=h;refine .vptr _ 0 g 0 (λj=>(((fs.map λf=>Value.func (.func f) #[] #[]).toArray)[j]?).getD undef) (W0c.1 hb).1 id ?_ ?_
 . intro j hj;have hj':j<fs.length:=(by simpa [tabA] using hj);simp[World.cell?,hb,hj']
 . intro j x hx;unfold tabA at hx;rw[W09,W04]at hx;obtain ⟨f,hf,rfl⟩:=hx;have hj':=(W02.1 hf).1;have e:((fs.map λf=>Value.func (.func f) #[] #[]).toArray)[j]? = some (.func (.func f) #[] #[]):=(by simp[hf]);rw[e];exact .func _ [] [] #[] #[] rfl rfl (by simp) (by simp)
def fsC:List FuncId:=[260,261,262,263]
def fsN:List FuncId:=[237,238,239,240,242,243,246,248]
def fsR:List FuncId:=[252,253,254,257,258]
set_option maxRecDepth 100000 in
def Zqb {W:World} (h:laidMetH prog laid7 W):TabB W 0 fsN :=
 Zq9 [[98,108,117,101,108,105,110,101,47,110,111,116,101,46,99,104,101,99,107,115,36,49],[98,108,117,101,108,105,110,101,47,110,111,116,101,46,99,104,101,99,107,115,36,50],[98,108,117,101,108,105,110,101,47,110,111,116,101,46,99,104,101,99,107,115,36,51],[98,108,117,101,108,105,110,101,47,110,111,116,101,46,99,104,101,99,107,115,36,52],[98,108,117,101,108,105,110,101,47,110,111,116,101,46,99,104,101,99,107,115,36,53],[98,108,117,101,108,105,110,101,47,110,111,116,101,46,99,104,101,99,107,115,36,54],[98,108,117,101,108,105,110,101,47,110,111,116,101,46,99,104,101,99,107,115,36,55],[98,108,117,101,108,105,110,101,47,110,111,116,101,46,99,104,101,99,107,115,36,56]] fsN h (W0z _ (W0H ..)) (by kernel_rfl) (by kernel_rfl) Tryz.underlying235 (fld:=_) Tryz.underlying234 rfl Tryz.underlying208 (by kernel_rfl) (by kernel_rfl) (by kernel_rfl) rfl rfl rfl
 (λi s f hs hf=>by
  match i,hs,hf with
  |0,hs,hf=>cases hs;cases hf;exact ⟨_,_,rfl,by kernel_rfl⟩
  |1,hs,hf=>cases hs;cases hf;exact ⟨_,_,rfl,by kernel_rfl⟩
  |2,hs,hf=>cases hs;cases hf;exact ⟨_,_,rfl,by kernel_rfl⟩
  |3,hs,hf=>cases hs;cases hf;exact ⟨_,_,rfl,by kernel_rfl⟩
  |4,hs,hf=>cases hs;cases hf;exact ⟨_,_,rfl,by kernel_rfl⟩
  |5,hs,hf=>cases hs;cases hf;exact ⟨_,_,rfl,by kernel_rfl⟩
  |6,hs,hf=>cases hs;cases hf;exact ⟨_,_,rfl,by kernel_rfl⟩
  |7,hs,hf=>cases hs;cases hf;exact ⟨_,_,rfl,by kernel_rfl⟩
  |i+8,hs,_=>simp at hs)
set_option maxRecDepth 100000 in
def Zqc {W:World} (h:laidMetH prog laid7 W):TabB W 2 fsC :=
 Zq9 [[98,108,117,101,108,105,110,101,47,115,104,101,101,116,46,99,104,101,99,107,115,36,49],[98,108,117,101,108,105,110,101,47,115,104,101,101,116,46,99,104,101,99,107,115,36,50],[98,108,117,101,108,105,110,101,47,115,104,101,101,116,46,99,104,101,99,107,115,36,51],[98,108,117,101,108,105,110,101,47,115,104,101,101,116,46,99,104,101,99,107,115,36,52]] fsC h (W0H ..) (by kernel_rfl) (by kernel_rfl) Tryz.underlying264 (fld:=_) Tryz.underlying263 rfl Tryz.underlying262 (by kernel_rfl) (by kernel_rfl) (by kernel_rfl) rfl rfl rfl
 (λi s f hs hf=>by
  match i,hs,hf with
  |0,hs,hf=>cases hs;cases hf;exact ⟨_,_,rfl,by kernel_rfl⟩
  |1,hs,hf=>cases hs;cases hf;exact ⟨_,_,rfl,by kernel_rfl⟩
  |2,hs,hf=>cases hs;cases hf;exact ⟨_,_,rfl,by kernel_rfl⟩
  |3,hs,hf=>cases hs;cases hf;exact ⟨_,_,rfl,by kernel_rfl⟩
  |i+4,hs,_=>simp at hs)
set_option maxRecDepth 100000 in
def Zqd {W:World} (h:laidMetH prog laid7 W):TabB W 1 fsR :=
 Zq9 [[98,108,117,101,108,105,110,101,47,114,101,99,97,108,108,46,99,104,101,99,107,115,36,49],[98,108,117,101,108,105,110,101,47,114,101,99,97,108,108,46,99,104,101,99,107,115,36,50],[98,108,117,101,108,105,110,101,47,114,101,99,97,108,108,46,99,104,101,99,107,115,36,51],[98,108,117,101,108,105,110,101,47,114,101,99,97,108,108,46,99,104,101,99,107,115,36,52],[98,108,117,101,108,105,110,101,47,114,101,99,97,108,108,46,99,104,101,99,107,115,36,53]] fsR h (W0z _ (W0z _ (W0H ..))) (by kernel_rfl) (by kernel_rfl) Tryz.underlying245 (fld:=_) Tryz.underlying244 rfl Tryz.underlying242 (by kernel_rfl) (by kernel_rfl) (by kernel_rfl) rfl rfl rfl
 (λi s f hs hf=>by
  match i,hs,hf with
  |0,hs,hf=>cases hs;cases hf;exact ⟨_,_,rfl,by kernel_rfl⟩
  |1,hs,hf=>cases hs;cases hf;exact ⟨_,_,rfl,by kernel_rfl⟩
  |2,hs,hf=>cases hs;cases hf;exact ⟨_,_,rfl,by kernel_rfl⟩
  |3,hs,hf=>cases hs;cases hf;exact ⟨_,_,rfl,by kernel_rfl⟩
  |4,hs,hf=>cases hs;cases hf;exact ⟨_,_,rfl,by kernel_rfl⟩
  |i+5,hs,_=>simp at hs)
def G7:Nat->Option (List AV):=λg=>if g=2 then some (tabA fsC) else if g=0 then some (tabA fsN) else if g=1 then some (tabA fsR) else none
def Zqe:GC G7:=rfl
def Zqf:GN G7:=rfl
def Zqg:GP G7:=rfl
def Zqh {W:World} (h:laidMetH prog laid7 W):GR G7 noM W:=by
 intro g cs hg;simp only[G7]at hg
 split at hg
 . rename_i e;subst e;cases hg;exact Zqa (Zqc h)
 . split at hg
   . rename_i e;subst e;cases hg;exact Zqa (Zqb h)
   . split at hg
     . rename_i e;subst e;cases hg;exact Zqa (Zqd h)
     . cases hg
def nteK:List TY:=[.int .i64,.int .i64,.int .u8,.int .i64,.int .i64,.int .i64,.int .i64,.int .i64,.bool,.int .u8]
def hldK:List TY:=[.int .i64,.int .i64,.int .i64,.sl [.int .i64]]
def prtK:List TY:=[.int .i64,.int .i64,.int .i64,.int .i64,.int .i64,.int .i64,.int .u8]
def prsK:List TY:=[.sl isK2,.sl nteK,.sl hldK,.sl prtK]
def Zqi {xs:List AV} (h:TVs nteK xs):∃ x:Nte,xs=na x/\NOk7 x:=by
 obtain ⟨x0,_,rfl,h0,h⟩:=h.cons_inv;obtain ⟨x1,_,rfl,h1,h⟩:=h.cons_inv;obtain ⟨x2,_,rfl,h2,h⟩:=h.cons_inv;obtain ⟨x3,_,rfl,h3,h⟩:=h.cons_inv;obtain ⟨x4,_,rfl,h4,h⟩:=h.cons_inv;obtain ⟨x5,_,rfl,h5,h⟩:=h.cons_inv;obtain ⟨x6,_,rfl,h6,h⟩:=h.cons_inv;obtain ⟨x7,_,rfl,h7,h⟩:=h.cons_inv;obtain ⟨x8,_,rfl,h8,h⟩:=h.cons_inv;obtain ⟨x9,_,rfl,h9,h⟩:=h.cons_inv;obtain rfl:=h.nil_inv;obtain ⟨v0,rfl,-⟩:=h0.int_inv;obtain ⟨v1,rfl,-⟩:=h1.int_inv;obtain ⟨v2,rfl,k2⟩:=h2.int_inv;obtain ⟨v3,rfl,-⟩:=h3.int_inv;obtain ⟨v4,rfl,-⟩:=h4.int_inv;obtain ⟨v5,rfl,-⟩:=h5.int_inv;obtain ⟨v6,rfl,-⟩:=h6.int_inv;obtain ⟨v7,rfl,-⟩:=h7.int_inv;obtain ⟨v8,rfl⟩:=h8.bool_inv;obtain ⟨v9,rfl,k9⟩:=h9.int_inv;obtain ⟨a2,b2⟩:=bounds_u8 k2;obtain ⟨a9,b9⟩:=bounds_u8 k9;exact ⟨⟨v0,v1,v2,v3,v4,v5,v6,v7,v8,v9⟩,rfl,a2,b2,a9,b9⟩
def Zqj {xs:List AV} (h:TVs hldK xs):∃ x:Hld,xs=hoa x:=by
 obtain ⟨x0,_,rfl,h0,h⟩:=h.cons_inv;obtain ⟨x1,_,rfl,h1,h⟩:=h.cons_inv;obtain ⟨x2,_,rfl,h2,h⟩:=h.cons_inv;obtain ⟨x3,_,rfl,h3,h⟩:=h.cons_inv;obtain rfl:=h.nil_inv;obtain ⟨v0,rfl,-⟩:=h0.int_inv;obtain ⟨v1,rfl,-⟩:=h1.int_inv;obtain ⟨v2,rfl,-⟩:=h2.int_inv;obtain ⟨rows,rfl,-,g⟩:=h3.sl_inv;obtain ⟨ds,rfl⟩:=Zlw (f:=ia) λr hr=>Zq7 (g r hr)
 exact ⟨⟨v0,v1,v2,ds⟩,rfl⟩
def Zqk {xs:List AV} (h:TVs prtK xs):∃ x:Prt,xs=ptA x/\POk x:=by
 obtain ⟨x0,_,rfl,h0,h⟩:=h.cons_inv;obtain ⟨x1,_,rfl,h1,h⟩:=h.cons_inv;obtain ⟨x2,_,rfl,h2,h⟩:=h.cons_inv;obtain ⟨x3,_,rfl,h3,h⟩:=h.cons_inv;obtain ⟨x4,_,rfl,h4,h⟩:=h.cons_inv;obtain ⟨x5,_,rfl,h5,h⟩:=h.cons_inv;obtain ⟨x6,_,rfl,h6,h⟩:=h.cons_inv;obtain rfl:=h.nil_inv;obtain ⟨v0,rfl,-⟩:=h0.int_inv;obtain ⟨v1,rfl,-⟩:=h1.int_inv;obtain ⟨v2,rfl,-⟩:=h2.int_inv;obtain ⟨v3,rfl,-⟩:=h3.int_inv;obtain ⟨v4,rfl,-⟩:=h4.int_inv;obtain ⟨v5,rfl,-⟩:=h5.int_inv;obtain ⟨v6,rfl,k6⟩:=h6.int_inv;exact ⟨⟨v0,v1,v2,v3,v4,v5,v6⟩,rfl,bounds_u8 k6⟩
def Zql {xs:List AV} (h:TVs prsK xs):∃ (r:Jr) (l:Jl) (hs:Jh) (ps:Jp),AV.agg xs=prA r l hs ps/\(∀ x∈r,KOk x)/\(∀ x∈l,NOk7 x)/\∀ x∈ps,POk x:=by
 obtain ⟨x0,_,rfl,h0,h⟩:=h.cons_inv;obtain ⟨x1,_,rfl,h1,h⟩:=h.cons_inv;obtain ⟨x2,_,rfl,h2,h⟩:=h.cons_inv;obtain ⟨x3,_,rfl,h3,h⟩:=h.cons_inv;obtain rfl:=h.nil_inv;obtain ⟨rows,rfl,-,g⟩:=h0.sl_inv;obtain ⟨r,rfl,hr⟩:=ZlE (f:=isa) (p:=KOk) λr hr=>ZlD (g r hr)
 obtain ⟨rows,rfl,-,g⟩:=h1.sl_inv;obtain ⟨l,rfl,hl⟩:=ZlE (f:=na) (p:=NOk7) λr hr=>Zqi (g r hr)
 obtain ⟨rows,rfl,-,g⟩:=h2.sl_inv;obtain ⟨hs,rfl⟩:=Zlw (f:=hoa) λr hr=>Zqj (g r hr)
 obtain ⟨rows,rfl,-,g⟩:=h3.sl_inv;obtain ⟨ps,rfl,hp⟩:=ZlE (f:=ptA) (p:=POk) λr hr=>Zqk (g r hr)
 exact ⟨r,l,hs,ps,rfl,hr,hl,hp⟩
section
open Qq Go.Proofs.Tryz
def Zqm:RCode :=
 S [r 0 [b 2 0,n 4 O],r 1 [L 6 1 2,c 7 54 [6],m 5 7],r 2 [m 8 5,m 9 1,w 10 (.conv .i64 (.t 9)),m 11 5,e 12 11,o 13 .rem 10 12,i 14 1 8 13,l 15 14,m 4 15],.ret]
def Zqn:List RRes:=[.t 4]
def Zqo:PCt prog 56 f56 Zqm Zqn:=pcT func56 rfl
def Zqp:RCode :=
 S [r 0 [b 5 0,n 10 (.bool false)],r 1 [c 25 44 [],m 11 25],S [r 2 [L 26 4 5,c 27 49 [26],t 28 27,m 29 28,g 29 false (f 30 2 5),g 29 false (l 31 30),g 29 false (e 32 31),g 29 false (k 33 .eql 32 O),u 34 29 33,m 35 34,g 35 false (m 36 11),g 35 false (t 37 36),u 38 35 37],K 38 3 [m 39 11,m 10 39]],R 4 [m 40 1,a [0] (c 41 50 [40]),f 42 2 5,a [2] (l 43 42),m 44 2,a [4] (w 45 (.conv .i64 (.t 44))),f 46 2 5,a [6] (l 47 46),a [7] (e 48 47),a [5,8] (o 49 .rem 45 48),a [3,9] (i 50 4 43 49),a [10] (f 51 0 50),a [11] (l 52 51),a [1,1,0,1] (m 12 41),a [12,13,0,1,2,3,4,5,6,7,8,9,10,11,12,13] (m 13 52)],r 5 [f 53 0 5,f 54 0 53,L 55 1 54,m 56 3,c 57 56 [55,56],m 14 57],r 6 [L 59 4 5,m 60 12,m 61 13,c 62 19 [59,60,61],m 58 62,x 63 0 58,x 64 1 58,x 65 2 58,m 15 63,m 16 64,m 17 65],r 7 [L 67 4 5,m 68 12,m 69 13,m 70 14,c 71 21 [67,68,69,70],m 66 71,x 72 0 66,x 73 1 66,m 18 72,m 19 73],S [r 8 [m 74 17,k 75 .neq 74 O,m 76 75,g 76 false (m 77 19),g 76 false (k 78 .neq 77 O),u 79 76 78,m 80 79,g 80 false (m 81 15),g 80 false (c 82 51 [81]),g 80 false (t 83 82),u 84 80 83,m 85 84,g 85 false (m 86 16),g 85 false (c 87 51 [86]),g 85 false (t 88 87),u 89 85 88,m 90 89,g 90 false (m 91 18),g 90 false (c 92 51 [91]),g 90 false (t 93 92),u 94 90 93,m 95 94,g 95 false (m 96 18),g 95 false (e 97 96),g 95 false (k 98 .eql 97 O),u 99 95 98],K 99 9 [n 10 (.bool false)]],r 10 [n 20 O,n 21 O],S [r 11 [f 100 3 5,l 101 100,e 102 101,n 103 O],.block 0 (.loop (S [r 12 [o 104 .lss 103 102],.cond (.t 104) .skip (.exit 0),.block 1 (S [r 13 [m 105 103,i 106 7 101 103,L 107 7 106,w 23 (.alloc [O,O,O,O,O,O,.int .u8 0]),m 22 105,s 7 23 107],r 14 [f 108 2 23,l 109 108,m 110 13,o 111 .eql 109 110,m 112 111,g 112 true (L 113 7 23),g 112 true (m 114 12),g 112 true (c 115 57 [113,114]),v 116 112 115,m 24 116],S [r 15 [m 117 15,f 118 0 23,l 119 118,c 120 52 [117,119],m 121 24,m 122 121,g 122 true (f 123 6 23),g 122 true (l 124 123),g 122 true (k 125 .eql 124 (.int .u8 0)),v 126 122 125,w 127 (.vop (.beq true) [(.t 120),(.t 126)]),m 128 127,g 128 false (m 129 16),g 128 false (f 130 0 23),g 128 false (l 131 130),g 128 false (c 132 52 [129,131]),g 128 false (m 133 24),g 128 false (m 134 133),g 134 true (f 135 6 23),g 134 true (l 136 135),g 134 true (k 137 .eql 136 (.int .u8 1)),g 128 false (v 138 134 137),g 128 false (w 139 (.vop (.beq true) [(.t 132),(.t 138)])),u 140 128 139],K 140 16 [n 10 (.bool false)]],S [r 17 [m 141 24,t 142 141,m 143 142,g 143 false (f 144 3 23),g 143 false (f 145 0 144),g 143 false (l 146 145),g 143 false (m 147 14),g 143 false (o 148 .neq 146 147),u 149 143 148],.cond (.t 149) (.exit 1) .skip],S [r 18 [f 150 6 23,l 151 150,k 152 .eql 151 (.int .u8 0)],.cond (.t 152) (r 19 [m 153 21,f 154 3 23,f 155 1 154,l 156 155,w 157 (.mx true (.t 153) [.t 156]),m 21 157]) .skip],r 20 [f 158 6 23,l 159 158,k 160 .eql 159 (.int .u8 0),m 161 160,g 161 false (m 162 4),g 161 false (m 163 22),g 161 false (w 164 (.vop (.sh false) [(.t 162),(.t 163)])),g 161 false (w 165 (.vop (.bits .and) [(.t 164),(.c (.int .u32 1))])),g 161 false (k 166 .eql 165 (.int .u32 0)),u 167 161 166],.cond (.t 167) (r 21 [m 168 20,f 169 3 23,f 170 1 169,l 171 170,w 172 (.mx true (.t 168) [.t 171]),m 20 172]) .skip]),r 22 [k 173 .add 103 I,m 103 173]]))],r 23 [m 174 11,m 175 174,g 175 true (m 176 18),g 175 true (m 177 20),g 175 true (c 178 52 [176,177]),v 179 175 178,m 180 179,g 180 true (m 181 18),g 180 true (w 182 (.iaddr 1 (.t 181) (.c O))),g 180 true (l 183 182),g 180 true (m 184 21),g 180 true (o 185 .eql 183 184),v 186 180 185,m 10 186],.ret]
def Zqq:List RRes:=[.t 10]
def Zqr:PCt prog 10 f10 Zqp Zqq:=pcT func10 rfl
end
def Zqs {r:Jr} (hL:Z8B r=true):nums r≠[]:=by
 have h:=Zav hL;have:=Z8O (Z8J hL) (show 0<r.length by omega);intro e;rw[e]at this;cases this
def gmK (P:Nat->Prt->Bool) (ps:Jp):Nat->Int
 |0=>0
 |k+1=>if P k (pAt ps k)=true then max (gmK P ps k) (pAt ps k).lt else gmK P ps k
def Zqt (P:Nat->Prt->Bool) (ps:Jp):∀ n,0<=gmK P ps n/\(∀ k,k<n->P k (pAt ps k)=true->(pAt ps k).lt<=gmK P ps n)/\(gmK P ps n=0∨∃ k,k<n/\P k (pAt ps k)=true/\(pAt ps k).lt=gmK P ps n)
 |0=>⟨W1Y _,λ_ h=>absurd h (by omega),.inl rfl⟩
 | n + 1 => by
   obtain ⟨h1,h2,h3⟩:=Zqt P ps n;rw[gmK]
   split
   . rename_i q;refine ⟨by omega,λk hk hp=>?_,?_⟩
     . by_cases e:k=n
       . subst e;omega
       . have:=h2 k (by omega) hp;omega
     . by_cases c:gmK P ps n<=(pAt ps n).lt
       . exact .inr ⟨n,by omega,q,by omega⟩
       . rcases h3 with h3 | ⟨k,k1,k2,k3⟩
         . left;omega
         . exact .inr ⟨k,by omega,k2,by omega⟩
   . rename_i q;refine ⟨h1,λk hk hp=>?_,?_⟩
     . by_cases e:k=n
       . subst e;exact absurd hp q
       . exact h2 k (by omega) hp
     . rcases h3 with h3 | ⟨k,k1,k2,k3⟩
       . exact .inl h3
       . exact .inr ⟨k,by omega,k2,k3⟩
def srP (id day d:Int) (x:Prt):Bool:=herB id day x&&decide (x.dw=d)&&decide (x.lo=0)
def kpP (id day d:Int) (bz:Nat->Bool) (k:Nat) (x:Prt):Bool:=herB id day x&&decide (x.dw=d)&&(decide (x.lo=0)||bz k)
section
variable {ps:Jp} {id day d:Int} {bz:Nat->Bool}
def Zqu {k:Nat} (h:k<ps.length):pAt ps k∈ps:=by rw[ZiS h];exact W0e h
def Zqv:gmK (λ_=>srP id day d) ps ps.length=sureM ps day id d:=by
 obtain ⟨h1,h2,h3⟩:=Zqt (λ_=>srP id day d) ps ps.length;obtain ⟨g1,g2,g3⟩:=ZfT ps day id d;refine Int.le_antisymm ?_ ?_
 . rcases h3 with h3 | ⟨k,k1,k2,k3⟩
   . omega
   . rw[<- k3];exact g2 _ (Zqu k1) k2
 . rcases g3 with g3 | ⟨x,x1,x2,x3⟩
   . omega
   . obtain ⟨k,hk,rfl⟩:=W0k x1;rw[<- x3];have:=h2 k hk (by rw[ZiS hk];exact x2)
     rwa [ZiS hk]at this
def Zqw (hl:∀ x∈ps,0<=x.lt/\x.lt<=8):gmK (kpP id day d bz) ps ps.length∈wkL ps day id d:=by
 obtain ⟨h1,h2,h3⟩:=Zqt (kpP id day d bz) ps ps.length;obtain ⟨g1,g2,g3⟩:=ZfT ps day id d;rw[ZfV hl]
 have hle:sureM ps day id d<=gmK (kpP id day d bz) ps ps.length:=by
  rcases g3 with g3 | ⟨x,x1,x2,x3⟩
  . omega
  . obtain ⟨k,hk,rfl⟩:=W0k x1
    have:=h2 k hk (by
     rw[ZiS hk];unfold kpP;simp only[W01]at x2;rw[x2.1.1,x2.1.2,x2.2];rfl)
    rw[ZiS hk]at this;omega
 by_cases e:gmK (kpP id day d bz) ps ps.length=sureM ps day id d
 . exact .inl e
 . right
   refine ⟨by omega,?_⟩;rcases h3 with h3 | ⟨k,k1,k2,k3⟩
   . omega
   . rw[ZfU];refine ⟨pAt ps k,Zqu k1,?_,k3⟩;unfold kpP at k2;simp only[W01]at k2;rw[k2.1.1,k2.1.2]
     have:¬(pAt ps k).lo=0:=λq=>by
      have:=g2 _ (Zqu k1) (by rw[k2.1.1,k2.1.2,W0M q];rfl);omega
     rw[W0S this];rfl
end
def drV7 (r:Jr) (n:Int):Int:=(nums r).getD (n.tmod (nums r).length).toNat 0
def Zqx (r:Jr) (n:Int) (hr:Sml r) (hne:r≠[]) (hnn:nums r≠[]) (hd:Sml (nums r)) (h0:0<=n) (h1:n<=255):PC prog G 56 [rega r,.int .u8 n] (.int .i64 (drV7 r n)):=by
 have hl:0<(nums r).length:=List.length_pos_iff.2 hnn;have hn:=Z8z (G:=G) r hr hne;rw[rega]at hn;have q1:=Int.tmod_nonneg (nums r).length h0;have q2:=Int.tmod_lt_of_pos n (b:=(nums r).length) (by omega);have hi:(n.tmod (nums r).length).toNat<(nums r).length:=(by omega);have k0:¬((nums r).length:Int)=0:=(by omega);have k0':¬(nums r).length=0:=(by omega);have w1:i64.wrap n=n:=Yf;have ev:drV7 r n=(nums r)[(n.tmod (nums r).length).toNat]:=by rw[drV7,W0j,W07 hi];rfl
 (refine Zqo rfl λR hG hrd=>Qga ?_;subst hG)
 simp -implicitDefEqProofs[Zqm,Zqn,rega];refine Qco (hn) ?_;simp -implicitDefEqProofs[w1,k0,k0',q1,hi,ia,ev]
def Zqy {r:Jr} (hnn:nums r≠[]) {n:Int} (h0:0<=n):drV7 r n∈nums r:=by
 have hl:0<(nums r).length:=List.length_pos_iff.2 hnn;have q1:=Int.tmod_nonneg (nums r).length h0;have q2:=Int.tmod_lt_of_pos n (b:=(nums r).length) (by omega);have hi:(n.tmod (nums r).length).toNat<(nums r).length:=(by omega);rw[drV7,W0j,W07 hi];exact W0e hi
def bz32 (n:Int) (k:Nat):Bool:=decide (IntKind.u32.wrap ((((n.fdiv (2 ^ min k IntKind.u32.bits)) % 2 ^ IntKind.u32.bits).toNat &&& 1 % 2 ^ IntKind.u32.bits:Nat):Int)=0)
def rhS (id day d n:Int) (a b w:List Int) (ps:Jp) (i:Nat):St :=
 ⟨[(103,.int .i64 i),(102,.int .i64 ps.length),(101,.vsl (ps.map ptA)),(21,.int .i64 (gmK (λ_=>srP id day d) ps i)),(20,.int .i64 (gmK (kpP id day d (bz32 n)) ps i)),(18,.vsl (w.map ia)),(16,.vsl (b.map ia)),(15,.vsl (a.map ia)),(14,.int .i64 d),(13,.int .i64 id),(12,.int .i64 day),(11,.bool true),(4,.int .u32 n)],[]⟩
def Zqz (hG:GC G) (hN:GN G) (hP:GP G) (r:Jr) (l:Jl) (hs:Jh) (ps:Jp) (dd wh f n:Int) (hr:∀ x∈r,KOk x) (hl:∀ x∈l,NOk7 x) (hp:∀ x∈ps,POk x) (hdd:0<=dd/\dd<=65535) (hwh:0<=wh/\wh<=255) (hf:0<=f/\f<=255) :
  PC prog G 10 [prA r l hs ps,.int .u16 dd,.int .u8 wh,.int .u8 f,.int .u32 n] (.bool true):=by
 have hA:=Zpo hG hN hP;have hR:=ZpD (G:=G) r l hs ps hl hr hp;have hD:=ZpC (G:=G) dd hdd.1 hdd.2
 cases hb:!gr7 r l hs ps&&decide (ck7 r l hs ps=0) with
 | false =>
   rw[hb]at hR;unfold prA at *
   (refine Zqr rfl λR hG hrd=>Qga ?_;subst hG)
   simp -implicitDefEqProofs[Zqp,Zqq];refine Qco (hA) ?_;simp -implicitDefEqProofs[];refine Qco (hR) ?_;simp -implicitDefEqProofs[]
 |true =>
 rw[hb]at hR;rw[W01,W1C,W0b]at hb;obtain ⟨hg,h0⟩:=hb;by_cases hhs:hs=[]
 . have e0:hs.length=0:=(by rw[hhs];rfl);unfold prA at *
   (refine Zqr rfl λR hG hrd=>Qga ?_;subst hG)
   simp -implicitDefEqProofs[Zqp,Zqq];refine Qco (hA) ?_;simp -implicitDefEqProofs[];refine Qco (hR) ?_;simp -implicitDefEqProofs[e0,hhs]
 obtain ⟨wl,wr,wd,wp⟩:=ZlN hg hr hl hp;have hdy:=ZpB hdd.1;obtain ⟨day,hday⟩:=Qex (dy7 dd);rw[<- hday]at hD hdy;have hrng:inR day 0 14610=true:=(by simp[inR];omega);have a1:as7 r l hs ps day 1=0:=(by rw[as7,if_pos h0,if_pos ⟨hrng,rfl⟩]);obtain ⟨h6,n60,hne,-,hnl⟩:=Znu h0;have hL:=ZiN (ZjQ (ZjP.1 h0).1);have hnn:=Zqs hL;have hlp:0<hs.length:=List.length_pos_iff.2 hhs;have q1:=Int.tmod_nonneg hs.length hwh.1;have q2:=Int.tmod_lt_of_pos wh (b:=hs.length) (by omega);have hi:(wh.tmod hs.length).toNat<hs.length:=(by omega);have k0:¬(hs.length:Int)=0:=(by omega);have k0':¬hs.length=0:=(by omega);have w1:i64.wrap wh=wh:=Yf;obtain ⟨h,hh⟩:=Qex (hs[(wh.tmod hs.length).toNat]);have hlx:hs[(wh.tmod hs.length).toNat]=h:=hh.symm;have hhm:h∈hs:=(by rw[hh];exact W0e hi);have hho:hoa h=[.int .i64 h.id,.int .i64 h.fr,.int .i64 h.to,.vsl (h.ds.map ia)]:=rfl;have hoi:0<=hoI hs h.id:=W0X (by rw[hoF_I];unfold hoF;rw[List.find?_isSome];exact ⟨h,hhm,by simp⟩);have hW:=Zqx (G:=G) r f wr.1.1 hne hnn wd hf.1 hf.2;have hdm:=Zqy hnn hf.1;obtain ⟨d,hdd2⟩:=Qex (drV7 r f);rw[<- hdd2]at hW hdm;rw[rega]at hW;have b1:ab7 r l hs ps day 1 h.id []=0:=(by rw[ab7,if_pos a1,if_pos ⟨hoi,rfl⟩]);have b2:ab7 r l hs ps day 1 h.id [d]=0:=(by rw[ab7,if_pos a1,if_pos ⟨hoi,by simp[hdm]⟩]);have hbd:(∀ x∈ps,0<=x.lt/\x.lt<=8)/\∀ x∈ps,0<=x.lo/\x.lo<=2:=ZlM hp h0;have hrp:riP ps:=(ZiW.1 (ZjP.1 h0).2).2.2.1;have c3:=Zlq hG hN hP r l hs ps day h.id wl wr wd wp (λ_=>hbd.2);have c4:=Zlp hG hN hP r l hs ps day h.id d wl wr wd wp (λ_=>hbd);rw[heA,heE,if_pos b1]at c3;rw[if_pos b2]at c4;obtain ⟨a,ha⟩:=Qex (helK h.id day 0 ps ps.length);obtain ⟨b,hbb⟩:=Qex (helK h.id day 1 ps ps.length);obtain ⟨w,hw⟩:=Qex (wkL ps day h.id d);rw[<- hw]at c4;have c3:=PC.out (w:=.tup [.vsl (a.map ia),.vsl (b.map ia),.int .i64 0]) (show PC prog G 19 [prA r l hs ps,.int .i64 day,.int .i64 h.id] (.tup [Yg (a.map ia),Yg (b.map ia),.int .i64 0]) by rw[ha,hbb];exact c3) (Nsub.tup ⟨.orNil _,.orNil _,.rfl',trivial⟩);have hpl:=wp.pl;have sa:Sml a:=(by rw[ha];have:=Zj9 (helP h.id day 0) (·.no) ps ps.length;unfold helK Sml;omega);have sb:Sml b:=(by rw[hbb];have:=Zj9 (helP h.id day 1) (·.no) ps ps.length;unfold helK Sml;omega);have sw:Sml w:=(by rw[hw];have:=Zm7 (ps:=ps) (day:=day) (id:=h.id) (d:=d);unfold Sml;omega);have aa:a=(ps.filter (helP h.id day 0)).map (·.no):=(by rw[ha,helK,Zjb]);have ab:b=(ps.filter (helP h.id day 1)).map (·.no):=(by rw[hbb,helK,Zjb]);have g1:=ZpF (G:=G) a sa (by rw[aa];exact no_lt hrp _);have g2:=ZpF (G:=G) b sb (by rw[ab];exact no_lt hrp _);have g3:=ZpF (G:=G) w sw (by rw[hw];exact ZfS ..);have hw0:∃ t,w=gmK (λ_=>srP h.id day d) ps ps.length::t:=(by rw[hw,Zqv,wkL];exact ⟨_,rfl⟩);have hwm:gmK (kpP h.id day d (bz32 n)) ps ps.length∈w:=(by rw[hw];exact Zqw hbd.1);have hwl:¬w.length=0:=(by obtain ⟨t,e⟩:=hw0;rw[e];simp);have hwli:¬(w.length:Int)=0:=(by omega);have ch:=ZpE (G:=G) w (gmK (kpP h.id day d (bz32 n)) ps ps.length) sw;rw[W0M hwm]at ch;unfold prA at *
 (refine Zqr rfl λR hG hrd=>Qga ?_;subst hG)
 simp -implicitDefEqProofs[Zqp,Zqq];refine Qco (hA) ?_;simp -implicitDefEqProofs[];refine Qco (hR) ?_;simp -implicitDefEqProofs[k0,k0',w1,q1,hi,hlx,hho,hhs];refine Qco (hD) ?_;simp -implicitDefEqProofs[k0,k0',w1,q1,hi,hlx,hho,hhs];refine ⟨rfl,?_⟩;refine Qco (hW) ?_;simp -implicitDefEqProofs[];refine Qco (c3) ?_;simp -implicitDefEqProofs[];refine Qco (c4) ?_;simp -implicitDefEqProofs[];refine Qco (g1) ?_;simp -implicitDefEqProofs[];refine Qco (g2) ?_;simp -implicitDefEqProofs[];refine Qco (g3) ?_;simp -implicitDefEqProofs[hwl,hwli];refine Z8g (rhS h.id day d n a b w ps) (λ_=>True) ps.length ?_ trivial ?_ ?_
 . unfold rhS
   ((try simp only[gmK]);refine Ym.sub (by simp[lk,Ya,AV.keys,gmK]) ?_;simp only[gmK,Wkl,and_true];(try simp[lk,Yc,Ya,AV.keys,gmK]))
 . intro i hi _;obtain ⟨x,hx⟩:=Qex (ps[i]);have hlx2:ps[i]=x:=hx.symm;have hxm:x∈ps:=(by rw[hx];exact W0e hi);have hpx:ptA x=[.int .i64 x.no,.int .i64 x.dy,.int .i64 x.ho,.int .i64 x.dw,.int .i64 x.lt,.int .i64 x.bk,.int .u8 x.lo]:=rfl;have hpa:pAt ps i=x:=(by rw[ZiS hi,hlx2]);have hlo:=hbd.2 x hxm;have wi:i64.wrap ((i:Int)+1)=(i:Int)+1:=Yf;have cO:=Zle (G:=R.G) x day;rw[hpx]at cO;have cA:=ZpE (G:=R.G) a x.no sa;have cB:=ZpE (G:=R.G) b x.no sb;have eA:decide (x.no∈a)=helP h.id day 0 x:=(by rw[aa,W2h,decide_eq_true_iff];exact ZpX hrp _ hxm);have eB:decide (x.no∈b)=helP h.id day 1 x:=(by rw[ab,W2h,decide_eq_true_iff];exact ZpX hrp _ hxm);rw[eA]at cA;rw[eB]at cB;unfold helP at cA cB;have s1:gmK (λ_=>srP h.id day d) ps (i+1)=if srP h.id day d x=true then max (gmK (λ_=>srP h.id day d) ps i) x.lt else gmK (λ_=>srP h.id day d) ps i:=by rw[gmK,hpa]
   have s2:gmK (kpP h.id day d (bz32 n)) ps (i+1)=if kpP h.id day d (bz32 n) i x=true then max (gmK (kpP h.id day d (bz32 n)) ps i) x.lt else gmK (kpP h.id day d (bz32 n)) ps i:=by rw[gmK,hpa]
   have e1:srP h.id day d x=(decide (x.ho=h.id)&&outB x day&&decide (x.dw=d)&&decide (x.lo=0)):=rfl;have e2:kpP h.id day d (bz32 n) i x=(decide (x.ho=h.id)&&outB x day&&decide (x.dw=d)&&(decide (x.lo=0)||bz32 n i)):=rfl;rw[e1]at s1;rw[e2]at s2;have hS:∀ u v,gmK (λ_=>srP h.id day d) ps (i+1)=u->gmK (kpP h.id day d (bz32 n)) ps (i+1)=v->rhS h.id day d n a b w ps (i+1)=⟨[(103,.int .i64 (i+1:Nat)),(102,.int .i64 ps.length),(101,.vsl (ps.map ptA)),(21,.int .i64 u),(20,.int .i64 v),(18,.vsl (w.map ia)),(16,.vsl (b.map ia)),(15,.vsl (a.map ia)),(14,.int .i64 d),(13,.int .i64 h.id),(12,.int .i64 day),(11,.bool true),(4,.int .u32 n)],[]⟩:=λu v hu hv=>by unfold rhS;rw[hu,hv]
   have hS0:rhS h.id day d n a b w ps i=⟨[(103,.int .i64 i),(102,.int .i64 ps.length),(101,.vsl (ps.map ptA)),(21,.int .i64 (gmK (λ_=>srP h.id day d) ps i)),(20,.int .i64 (gmK (kpP h.id day d (bz32 n)) ps i)),(18,.vsl (w.map ia)),(16,.vsl (b.map ia)),(15,.vsl (a.map ia)),(14,.int .i64 d),(13,.int .i64 h.id),(12,.int .i64 day),(11,.bool true),(4,.int .u32 n)],[]⟩:=rfl;generalize gmK (λ_=>srP h.id day d) ps i=u0 at *;generalize gmK (kpP h.id day d (bz32 n)) ps i=v0 at *;rw[hS0];refine Qga ?_;by_cases c1:x.ho=h.id
   case neg =>
    simp only[W0S c1,W1K,W05,if_false]at cA cB s1 s2;simp -implicitDefEqProofs[hi,hlx2,hpx,c1];refine Qco (cA) ?_;simp -implicitDefEqProofs[];refine Qco (cB) ?_;simp -implicitDefEqProofs[wi];rw[hS _ _ s1 s2]
    (refine Wkc ?_;simp only[Wkl,and_true];(try simp[lk,Yc,Ya,AV.keys]))
   simp only[W0M c1,W1k]at cA cB s1 s2
   cases c2:outB x day with
   | false =>
     rw[c2]at cO;simp only[c2,W1K,W05,if_false]at cA cB s1 s2;simp -implicitDefEqProofs[hi,hlx2,hpx,eq_true c1];refine Qco (cO) ?_;simp -implicitDefEqProofs[];refine Qco (cA) ?_;simp -implicitDefEqProofs[];refine Qco (cB) ?_;simp -implicitDefEqProofs[wi];rw[hS _ _ s1 s2]
     (refine Wkc ?_;simp only[Wkl,and_true];(try simp[lk,Yc,Ya,AV.keys]))
   |true =>
   rw[c2]at cO;simp only[c2,W1k]at cA cB s1 s2;have hlo2:¬x.lo=2:=λe=>by unfold outB at c2;rw[e]at c2;simp at c2
   by_cases c3:x.lo=0
   . have c31:¬x.lo=1:=(by omega);simp only[W0M c3,W0S c31,W2c,Bool.true_or]at cA cB s1 s2;by_cases c4:x.dw=d
     . simp only[W0M c4,if_true]at s1 s2;simp -implicitDefEqProofs[hi,hlx2,hpx,eq_true c1];refine Qco (cO) ?_;simp -implicitDefEqProofs[c3];refine Qco (cA) ?_;simp -implicitDefEqProofs[c3];refine Qco (cB) ?_;simp -implicitDefEqProofs[c3,c4,wi];rw[hS _ _ s1 s2]
       (refine Wkc ?_;simp only[Wkl,and_true];(try simp[lk,Yc,Ya,AV.keys]))
     . simp only[W0S c4,W05,if_false]at s1 s2;simp -implicitDefEqProofs[hi,hlx2,hpx,eq_true c1];refine Qco (cO) ?_;simp -implicitDefEqProofs[c3];refine Qco (cA) ?_;simp -implicitDefEqProofs[c3];refine Qco (cB) ?_;simp -implicitDefEqProofs[c3,c4,wi];rw[hS _ _ s1 s2]
       (refine Wkc ?_;simp only[Wkl,and_true];(try simp[lk,Yc,Ya,AV.keys]))
   . have c31:x.lo=1:=(by omega);simp only[W0S c3,W0M c31,W2a,W1O,W05,if_false]at cA cB s1 s2;by_cases c4:x.dw=d
     . simp only[W0M c4,W1k]at s1 s2;have hbz:bz32 n i=decide (IntKind.u32.wrap ((((n.fdiv (2 ^ min i IntKind.u32.bits)) % 2 ^ IntKind.u32.bits).toNat &&& 1 % 2 ^ IntKind.u32.bits:Nat):Int)=0):=rfl
       cases c5:bz32 n i with
       | true =>
         rw[c5]at hbz s2;simp only[if_true]at s2;have hbz:=W0X hbz.symm;simp -implicitDefEqProofs[hi,hlx2,hpx,eq_true c1];refine Qco (cO) ?_;simp -implicitDefEqProofs[c31];refine Qco (cA) ?_;simp -implicitDefEqProofs[c31];refine Qco (cB) ?_;simp -implicitDefEqProofs[c31,c4,wi,hbz];rw[hS _ _ s1 s2]
         (refine Wkc ?_;simp only[Wkl,and_true];(try simp[lk,Yc,Ya,AV.keys]))
       | false =>
         rw[c5]at hbz s2;simp only[W05,if_false]at s2;have hbz:=of_decide_eq_false hbz.symm;simp -implicitDefEqProofs[hi,hlx2,hpx,eq_true c1];refine Qco (cO) ?_;simp -implicitDefEqProofs[c31];refine Qco (cA) ?_;simp -implicitDefEqProofs[c31];refine Qco (cB) ?_;simp -implicitDefEqProofs[c31,c4,wi,hbz];rw[hS _ _ s1 s2]
         (refine Wkc ?_;simp only[Wkl,and_true];(try simp[lk,Yc,Ya,AV.keys]))
     . simp only[W0S c4,W1K,W05,if_false]at s1 s2;simp -implicitDefEqProofs[hi,hlx2,hpx,eq_true c1];refine Qco (cO) ?_;simp -implicitDefEqProofs[c31];refine Qco (cA) ?_;simp -implicitDefEqProofs[c31];refine Qco (cB) ?_;simp -implicitDefEqProofs[c31,c4,wi];rw[hS _ _ s1 s2]
       (refine Wkc ?_;simp only[Wkl,and_true];(try simp[lk,Yc,Ya,AV.keys]))
 . intro _;have hw00:0<w.length:=(by omega);have hwg:w[0]=gmK (λ_=>srP h.id day d) ps ps.length:=(by obtain ⟨t,e⟩:=hw0;simp[e]);refine Qga ?_;unfold rhS;simp -implicitDefEqProofs[];refine Qgr ?_;simp -implicitDefEqProofs[];refine Qco (ch) ?_;simp -implicitDefEqProofs[hw00,hwg,ia]
section
open Qq Go.Proofs.Tryz
def ZqV:RCode :=
 S [r 0 [n 2 O],r 1 [m 3 0,w 4 (.conv .i64 (.t 3)),k 5 .rem 4 (.int .i64 999),k 6 .add 5 I,m 2 6],.ret]
def ZqW:List RRes:=[.t 2]
def ZqX:PCt prog 60 f60 ZqV ZqW:=pcT func60 rfl
def ZqY:RCode :=
 S [r 0 [b 5 0,n 10 (.bool false)],r 1 [c 25 44 [],m 11 25],S [r 2 [L 26 4 5,c 27 49 [26],t 28 27,m 29 28,g 29 false (f 30 2 5),g 29 false (l 31 30),g 29 false (e 32 31),g 29 false (k 33 .eql 32 O),u 34 29 33,m 35 34,g 35 false (m 36 11),g 35 false (t 37 36),u 38 35 37],K 38 3 [m 39 11,m 10 39]],r 4 [m 40 1,c 41 50 [40],m 42 4,c 43 60 [42],m 12 41,m 13 43],R 5 [f 44 2 5,a [0] (l 45 44),m 46 2,a [2] (w 47 (.conv .i64 (.t 46))),f 48 2 5,a [4] (l 49 48),a [5] (e 50 49),a [3,6] (o 51 .rem 47 50),a [1,7] (i 52 4 45 51),a [8] (f 53 0 52),a [9] (l 54 53),f 55 0 5,a [11] (f 56 0 55),a [12] (L 57 1 56),m 58 3,a [13,14] (c 59 56 [57,58]),a [10,15,0,1,2,3,4,5,6,7,8,9,10] (m 14 54),a [15,16,0,1,2,3,4,5,6,7,8,9,10,11,12,13,14,15,16] (m 15 59)],r 6 [L 61 4 5,m 62 12,m 63 14,m 64 15,m 65 13,c 66 31 [61,62,63,64,65],m 60 66,x 67 0 60,x 68 1 60,m 16 67,m 17 68],r 7 [L 70 4 5,m 71 12,m 72 14,m 73 15,c 74 21 [70,71,72,73],m 69 74,x 75 0 69,x 76 1 69,m 18 75,m 19 76],r 8 [f 78 0 5,L 79 2 78,m 80 15,m 81 13,c 82 61 [79,80,81],m 77 82,x 83 0 77,x 84 1 77,m 20 83,m 21 84],S [r 9 [m 85 17,k 86 .neq 85 O,m 87 86,g 87 false (m 88 19),g 87 false (k 89 .neq 88 O),u 90 87 89,m 91 90,g 91 false (m 92 21),g 91 false (k 93 .neq 92 O),u 94 91 93,m 95 94,g 95 false (m 96 18),g 95 false (e 97 96),g 95 false (k 98 .eql 97 O),u 99 95 98,m 100 99,g 100 false (m 101 20),g 100 false (e 102 101),g 100 false (k 103 .eql 102 O),u 104 100 103,m 105 104,g 105 false (m 106 16),g 105 false (k 107 .gtr 106 (.int .u8 2)),u 108 105 107],K 108 10 [n 10 (.bool false)]],r 11 [n 22 (.bool false)],S [r 12 [m 109 18,e 110 109,n 111 O],.block 0 (.loop (S [r 13 [o 112 .lss 111 110],.cond (.t 112) .skip (.exit 0),.block 1 (S [r 14 [i 113 1 109 111,l 114 113,m 24 114],r 15 [m 115 22,m 116 115,g 116 false (m 117 20),g 116 false (m 118 24),g 116 false (c 119 52 [117,118]),u 120 116 119,m 22 120]]),r 16 [k 121 .add 111 I,m 111 121]]))],R 17 [m 122 11,a [0] (m 123 122),a [1] (g 123 true (m 124 16)),a [2,1] (g 123 true (k 125 .eql 124 (.int .u8 0))),a [1] (g 123 true (m 126 18)),a [4,1] (g 123 true (e 127 126)),a [5,1] (g 123 true (k 128 .eql 127 I)),a [6,1,1] (g 123 true (m 129 128)),a [7] (g 129 true (m 130 20)),a [8,7] (g 129 true (e 131 130)),a [9,7] (g 129 true (k 132 .eql 131 I)),a [7,10,1] (g 123 true (v 133 129 132)),a [11,7,1] (g 123 true (m 134 133)),a [12] (g 134 true (m 135 18)),a [13,12] (g 134 true (w 136 (.iaddr 1 (.t 135) (.c O)))),a [14,12] (g 134 true (l 137 136)),a [12] (g 134 true (m 138 20)),a [16,12] (g 134 true (w 139 (.iaddr 1 (.t 138) (.c O)))),a [17,12] (g 134 true (l 140 139)),a [15,18,12] (g 134 true (o 141 .eql 137 140)),a [12,19,1] (g 123 true (v 142 134 141)),a [3,20,1] (g 123 true (w 143 (.vop (.beq false) [(.t 125),(.t 142)]))),a [1,21] (v 144 123 143),a [22,12] (m 145 144),a [23] (g 145 true (m 146 16)),a [24,23] (g 145 true (k 147 .eql 146 (.int .u8 2))),a [23] (g 145 true (m 148 22)),a [26,23] (g 145 true (t 149 148)),a [25,27,23] (g 145 true (w 150 (.vop (.beq false) [(.t 147),(.t 149)]))),a [23,28] (v 151 145 150),a [29,23,0,1,2,3,4,5,6,7,8,9,10,11,12,13,14,15,16,17,18,19,20,21,22,23,24,25,26,27,28,29] (m 10 151)],.ret]
def ZqZ:List RRes:=[.t 10]
def Zr0:PCt prog 14 f14 ZqY ZqZ:=pcT func14 rfl
end
def mc7 (n:Int):Int:=n.tmod 999+1
def Zr1 {n:Int} (h:0<=n):1<=mc7 n/\mc7 n<=999:=by
 have h1:=Int.tmod_nonneg 999 h;have h2:=Int.tmod_lt_of_pos n (b:=999) (by omega);unfold mc7;omega
def Zr2 {a b:List Int}:(a.any λx=>b.any λy=>decide (x=y))=a.any λx=>decide (x∈b):=by
 congr 1;funext x
 rw[W2h,W14,decide_eq_true_iff]
 constructor
 . rintro ⟨y,hy,e⟩;rw[W0X e];exact hy
 . intro h;exact ⟨x,h,by simp⟩
def rw7S (w n:List Int) (k:Int) (i:Nat):St :=
 ⟨[(111,.int .i64 i),(110,.int .i64 w.length),(109,.vsl (w.map ia)),(22,.bool ((w.take i).any λx=>decide (x∈n))),(20,.vsl (n.map ia)),(18,.vsl (w.map ia)),(16,.int .u8 k),(11,.bool true)],[]⟩
def Zr3 (n:Int) (h0:0<=n) (h1:n<=65535):PC prog G 60 [.int .u16 n] (.int .i64 (mc7 n)):=by
 have q1:=Int.tmod_nonneg 999 h0;have q2:=Int.tmod_lt_of_pos n (b:=999) (by omega);have w1:i64.wrap n=n:=Yf;have w2:i64.wrap (n.tmod 999+1)=n.tmod 999+1:=Yf
 (refine ZqX rfl λR hG hrd=>Qga ?_;subst hG)
 simp -implicitDefEqProofs[ZqV,ZqW,w1,w2,mc7]
def Zr4 (hG:GC G) (hN:GN G) (hP:GP G) (r:Jr) (l:Jl) (hs:Jh) (ps:Jp) (dd wh f mm:Int) (hr:∀ x∈r,KOk x) (hl:∀ x∈l,NOk7 x) (hp:∀ x∈ps,POk x) (hdd:0<=dd/\dd<=65535) (hwh:0<=wh/\wh<=255) (hf:0<=f/\f<=255) (hmm:0<=mm/\mm<=65535) :
  PC prog G 14 [prA r l hs ps,.int .u16 dd,.int .u8 wh,.int .u8 f,.int .u16 mm] (.bool true):=by
 have hA:=Zpo hG hN hP;have hR:=ZpD (G:=G) r l hs ps hl hr hp;have hM:=Zr3 (G:=G) mm hmm.1 hmm.2;have hD:=ZpC (G:=G) dd hdd.1 hdd.2
 cases hb:!gr7 r l hs ps&&decide (ck7 r l hs ps=0) with
 | false =>
   rw[hb]at hR;unfold prA at *
   (refine Zr0 rfl λR hG hrd=>Qga ?_;subst hG)
   simp -implicitDefEqProofs[ZqY,ZqZ];refine Qco (hA) ?_;simp -implicitDefEqProofs[];refine Qco (hR) ?_;simp -implicitDefEqProofs[]
 |true =>
 rw[hb]at hR;rw[W01,W1C,W0b]at hb;obtain ⟨hg,h0⟩:=hb;by_cases hhs:hs=[]
 . have e0:hs.length=0:=(by rw[hhs];rfl);unfold prA at *
   (refine Zr0 rfl λR hG hrd=>Qga ?_;subst hG)
   simp -implicitDefEqProofs[ZqY,ZqZ];refine Qco (hA) ?_;simp -implicitDefEqProofs[];refine Qco (hR) ?_;simp -implicitDefEqProofs[e0,hhs]
 obtain ⟨wl,wr,wd,wp⟩:=ZlN hg hr hl hp;have hdy:=ZpB hdd.1;obtain ⟨day,hday⟩:=Qex (dy7 dd);rw[<- hday]at hD hdy;have hrng:inR day 0 14610=true:=(by simp[inR];omega);have hmy:=Zr1 hmm.1;obtain ⟨m,hmq⟩:=Qex (mc7 mm);rw[<- hmq]at hM hmy;have hrm:inR m 1 999=true:=(by simp[inR];omega);have a1:as7 r l hs ps day 1=0:=(by rw[as7,if_pos h0,if_pos ⟨hrng,rfl⟩]);obtain ⟨h6,n60,hne,-,hnl⟩:=Znu h0;have hL:=ZiN (ZjQ (ZjP.1 h0).1);have hnn:=Zqs hL;have hlp:0<hs.length:=List.length_pos_iff.2 hhs;have q1:=Int.tmod_nonneg hs.length hwh.1;have q2:=Int.tmod_lt_of_pos wh (b:=hs.length) (by omega);have hi:(wh.tmod hs.length).toNat<hs.length:=(by omega);have k0:¬(hs.length:Int)=0:=(by omega);have k0':¬hs.length=0:=(by omega);have w1:i64.wrap wh=wh:=Yf;obtain ⟨h,hh⟩:=Qex (hs[(wh.tmod hs.length).toNat]);have hlx:hs[(wh.tmod hs.length).toNat]=h:=hh.symm;have hhm:h∈hs:=(by rw[hh];exact W0e hi);have hho:hoa h=[.int .i64 h.id,.int .i64 h.fr,.int .i64 h.to,.vsl (h.ds.map ia)]:=rfl;have hoi:0<=hoI hs h.id:=W0X (by rw[hoF_I];unfold hoF;rw[List.find?_isSome];exact ⟨h,hhm,by simp⟩);have hW:=Zqx (G:=G) r f wr.1.1 hne hnn wd hf.1 hf.2;have hdm:=Zqy hnn hf.1;obtain ⟨d,hdd2⟩:=Qex (drV7 r f);rw[<- hdd2]at hW hdm;rw[rega]at hW;have b1:ab7 r l hs ps day 1 h.id []=0:=(by rw[ab7,if_pos a1,if_pos ⟨hoi,rfl⟩]);have b2:ab7 r l hs ps day 1 h.id [d]=0:=(by rw[ab7,if_pos a1,if_pos ⟨hoi,by simp[hdm]⟩]);have a3:as7 r l hs ps day m=0:=(by rw[as7,if_pos h0,if_pos ⟨hrng,hrm⟩]);have b3:ab7 r l hs ps day m h.id [d]=0:=(by rw[ab7,if_pos a3,if_pos ⟨hoi,by simp[hdm]⟩]);have hbd:=ZlM hp h0;have hop:=ZjQ (ZjP.1 h0).1;have hB:=Zfi (ZjP.1 h0).1
 have as0:asN r l [] m=0:=by
  unfold asN;rw[if_pos (ZjP.1 h0).1,if_pos (by simp[truB]),if_pos hrm]
 have c3:=Zma hG hN hP r l hs ps day h.id d m wl wr wd wp;have c4:=Zlp hG hN hP r l hs ps day h.id d wl wr wd wp (λ_=>hbd);have c5:=ZkG hG hN r l d m wl wr wd;unfold poA at c5;rw[if_pos ⟨as0,hdm⟩,if_pos as0,if_pos hdm]at c5;rw[if_pos b2]at c4;rw[wgA,wgE,if_pos b3,b3]at c3;have hz:=ZfX (ZfS ps day h.id d) (ZfH l d m) (by simp[wkL]) (ZfM λv=>ZiP hop hB hdm m v);have hwne:wkL ps day h.id d≠[]:=(by simp[wkL]);have hnne:posL l d m≠[]:=ZfM λv=>ZiP hop hB hdm m v
 have sw:Sml (wkL ps day h.id d):=(by have:=Zm7 (ps:=ps) (day:=day) (id:=h.id) (d:=d);unfold Sml;omega);have sn:Sml (posL l d m):=by have:=ZlX (l:=l) (d:=d) (m:=m);unfold Sml;omega
 have hk:∀ k,k=wrN (wkL ps day h.id d) (posL l d m)->(k=0/\(wkL ps day h.id d).length=1/\wkL ps day h.id d=posL l d m)∨(k=2/\((wkL ps day h.id d).any λx=>decide (x∈posL l d m))=false)∨(k=1/\((wkL ps day h.id d).any λx=>decide (x∈posL l d m))=true/\¬((wkL ps day h.id d).length=1/\wkL ps day h.id d=posL l d m)):=λk e=>by
  unfold wrN at e;rw[Zr2]at e
  split at e
  . rename_i q;exact .inl ⟨e,(hz.1 q).1,(hz.1 q).2⟩
  . rename_i q
    split at e
    . rename_i q2;exact .inr (.inl ⟨e,q2⟩)
    . rename_i q2;exact .inr (.inr ⟨e,by simpa using q2,λq3=>q (hz.2 q3)⟩)
 obtain ⟨k,hke⟩:=Qex (wrN (wkL ps day h.id d) (posL l d m));have hk:=hk k hke;rw[<- hke]at c3;generalize wkL ps day h.id d=w at *;generalize posL l d m=n at *;have hwl:¬w.length=0:=λe=>hwne (W0l.1 e)
 have hnl:¬n.length=0:=λe=>hnne (W0l.1 e)
 have hk2:¬k > 2:=by rcases hk with ⟨e,-⟩ | ⟨e,-⟩ | ⟨e,-⟩ <;> omega
 unfold prA at *
 (refine Zr0 rfl λR hG hrd=>Qga ?_;subst hG)
 simp -implicitDefEqProofs[ZqY,ZqZ];refine Qco (hA) ?_;simp -implicitDefEqProofs[];refine Qco (hR) ?_;simp -implicitDefEqProofs[k0,k0',w1,q1,hi,hlx,hho,hhs];refine Qco (hD) ?_;simp -implicitDefEqProofs[];refine Qco (hM) ?_;simp -implicitDefEqProofs[k0,k0',w1,q1,hi,hlx,hho,hhs];refine Qco (hW) ?_;simp -implicitDefEqProofs[];refine ⟨rfl,?_⟩;refine Qco (c3) ?_;simp -implicitDefEqProofs[];refine Qco (c4) ?_;simp -implicitDefEqProofs[];refine Qco (c5) ?_;simp -implicitDefEqProofs[hwl,hnl,hwne,hnne,hk2];refine Z8g (rw7S w n k) (λ_=>True) w.length ?_ trivial ?_ ?_
 . unfold rw7S
   ((try simp only[W1g,List.any_nil]);refine Ym.sub (by simp[lk,Ya,AV.keys,W1g,List.any_nil]) ?_;simp only[W1g,List.any_nil,Wkl,and_true];(try simp[lk,Yc,Ya,AV.keys,W1g,List.any_nil]))
 . intro i hi _;obtain ⟨x,hx⟩:=Qex (w[i]);have hlx2:w[i]=x:=hx.symm
   have tk:(w.take (i+1)).any (λx=>decide (x∈n))=((w.take i).any (λx=>decide (x∈n))||decide (x∈n)):=by
    rw[W08 hi,hlx2,W2g];simp
   have wi:i64.wrap ((i:Int)+1)=(i:Int)+1:=Yf (by omega) (by unfold Sml at sw;omega);have ch:=ZpE (G:=R.G) n x sn;have hS:∀ u,(w.take (i+1)).any (λx=>decide (x∈n))=u->rw7S w n k (i+1)=⟨[(111,.int .i64 (i+1:Nat)),(110,.int .i64 w.length),(109,.vsl (w.map ia)),(22,.bool u),(20,.vsl (n.map ia)),(18,.vsl (w.map ia)),(16,.int .u8 k),(11,.bool true)],[]⟩:=λu hu=>by unfold rw7S;rw[hu]
   have hS0:rw7S w n k i=⟨[(111,.int .i64 i),(110,.int .i64 w.length),(109,.vsl (w.map ia)),(22,.bool ((w.take i).any λx=>decide (x∈n))),(20,.vsl (n.map ia)),(18,.vsl (w.map ia)),(16,.int .u8 k),(11,.bool true)],[]⟩:=rfl;rw[hS0];refine Qga ?_
   cases hb:(w.take i).any λx=>decide (x∈n) with
   | true =>
     rw[hb,Bool.true_or]at tk;simp -implicitDefEqProofs[hi,hlx2,ia,wi];rw[hS _ tk]
     (refine Wkc ?_;simp only[Wkl,and_true];(try simp[lk,Yc,Ya,AV.keys]))
   | false =>
     rw[hb,W1O]at tk;simp -implicitDefEqProofs[hi,hlx2,ia,wi];refine Qco (ch) ?_;simp -implicitDefEqProofs[wi];rw[hS _ tk]
     (refine Wkc ?_;simp only[Wkl,and_true];(try simp[lk,Yc,Ya,AV.keys]))
 . intro _;have w0:0<w.length:=(by omega);have n0:0<n.length:=(by omega);refine Qga ?_;unfold rw7S;rw[W0v];rcases hk with ⟨e,h1,h2⟩ | ⟨e,h1⟩ | ⟨e,h1,h2⟩
   . subst h2;have hs1:(w.any λx=>decide (x∈w))=true:=(by rw[W14];exact ⟨w[0],W0e w0,by simp⟩);rw[hs1];simp -implicitDefEqProofs[];refine Qgr ?_;simp -implicitDefEqProofs[e,h1,w0,ia]
     first|rfl|exact ⟨rfl,rfl⟩
   all_goals
    have hw3:w.length=1->n.length=1->¬w[0]=n[0]:=λp1 p2 p3=>by
     have q:w=n:=W1I (by omega) λj q1 q2=>by
      obtain rfl:j=0:=(by omega);exact p3
     first
     |exact h2 ⟨p1,q⟩
     | have:(w.any λx=>decide (x∈n))=true:=by rw[W14];exact ⟨w[0],W0e w0,by rw[<- q];simp⟩
       rw[h1]at this;cases this
    rw[h1];simp -implicitDefEqProofs[];refine Qgr ?_;by_cases p1:w.length=1
    . by_cases p2:n.length=1
      . simp -implicitDefEqProofs[e,p1,p2,hw3 p1 p2,ia]
        first|rfl|exact ⟨rfl,rfl⟩
      . have p2i:¬(n.length:Int)=1:=(by omega);simp -implicitDefEqProofs[e,p1,p2,p2i,ia]
        first|rfl|exact ⟨rfl,rfl⟩
    . have p1i:¬(w.length:Int)=1:=(by omega);simp -implicitDefEqProofs[e,p1,p1i,ia]
      first|rfl|exact ⟨rfl,rfl⟩
end Go.Proofs.YtcdlimgkliklhaaGreatDoor
