/- Check04, Build, Bytes, Put04, RParse, BackSpec, Beside, Kept, Del04, Set04, SetsSpec, SplitFew, HopSpec, MsgSpec, Hex1, Split, Many, ManyS, TokLow, Hop04, Frm1, Atoi, MsgBack. -/
import Derived.Test.YtdbjnlkbhhebbaaGreatDoorK01
import Derived.Lib.FrozenHead2
import Derived.Lib.OthersKept
import Derived.Shelf.Strings.BuilderK
import Derived.Laws.BytesArg
import Derived.Lib.AppendStr
import Derived.Laws.OwnMore
import Derived.Deep.RegionHeld3
import Derived.Lib.ItoaNum
import Derived.Lib.ConvBytes
import Derived.Lib.AtoiErrMem
import Derived.Deep.OwnRows
import Derived.Shelf.Strconv.ErrVarAll
set_option maxRecDepth 100000
set_option maxHeartbeats 16000000
set_option linter.all false
namespace Go.Proofs.YtdbjnlkbhhebbaaGreatDoor
open Go.RowKit
variable {acc vs:List (List UInt8)}{s:List UInt8}{B T:Nat}{A:Option Addr}{w w':World}
def qj:List aU->Int
 | []=>0
 |f::r=>bif !mO f then 4 else bif g_ f then 3 else qj r
def bR(xs:List aU):Int:=bif decide (64<xs.length)then 3 else qj xs
theorem ER(xs:List aU)(k:Nat)(h:k<xs.length):qj (xs.drop k)=bif !mO xs[k]then 4 else bif g_ xs[k]then 3 else qj (xs.drop (k+1)):=by rw[tu h];rfl
theorem bq(l:List UInt8):(⟨l.toArray⟩:ByteArray).data.toList=l:=by simp
theorem aR(l:List UInt8):(⟨l.toArray⟩:ByteArray).size=l.length:=by rw[aY]
theorem oB(A:Option Addr)(n c:Nat)(xs:List aU)(w:World)(hr:Rd A n 2 (aJ xs) w)(hn:n<=1000000)(hs:aE xs<=2000000):Calls Tryz.prog 98 #[.slice A n c] w λe w'=>e=.returned (.int .i64 (bR xs))/\Below w.heap.size w w':=by
 obtain rfl:=hr.fld;have hB:=aO w.heap.size w;by_cases h64:xs.length<=64
 ·have hT:qj (xs.drop 0)=bR xs:=by unfold bR;rw[show decide (64<xs.length)=false from by simp;omega];rfl
  have hS:=λf(hf:f∈xs)=>bj (bM hf) hs
  have hD:=ER xs;generalize bR xs=OY at*;obtain⟨HR,HS,HD,To⟩:=bK hr hS hD hT;clear hr hs hS hT hD;go_enter Tryz.func98,Tryz.ntmps98
  go_wp2;go_loopw [10] (λi wr=>∃k:Nat,k<=xs.length/\i=.int .i64 k/\Below w.heap.size w wr/\Hid (qj (xs.drop k)=OY)) (λi _=>xs.length-(intOf i).toNat)
  case atStart=>exact⟨0,a_ _,rfl,hB,To⟩
  case round=>
   clear hB To;obtain⟨k,hk,rfl,M_,HT⟩:=hrel;by_cases Nc:k<xs.length
   ·obtain⟨b,o,rfl,hl,c1,c2⟩:=(HR.out.below M_).fld_at (k:=k) Nc;have hf:=HS.out xs[k] (bQ _);have ht:=HD.out k Nc;rw[HT.out]at ht;generalize xs[k]=f at*;obtain⟨f1,f2⟩:=f;simp only at c1 c2 hf
    have k1:=λw=>zv ⟨f1.toArray⟩ ⟨f2.toArray⟩ w (by rw[aR];omega) (by rw[aR];omega)
    have k2:=λw=>Ak ⟨f1.toArray⟩ ⟨f2.toArray⟩ w (by rw[aR];omega) (by rw[aR];omega)
    simp only at k1 k2
    have UX:g_ (f1,f2)=decide (2048<f1.length+2+f2.length):=rfl
    have SH:(⟨(f1++([58,32]++f2)).toArray⟩:ByteArray).size=f1.length+2+f2.length:=by rw[aR];simp;omega
    generalize (⟨(f1++([58,32]++f2)).toArray⟩:ByteArray)=ln at*;obtain⟨K1,K2⟩:=az k1 k2;clear k1 k2;have Pm:=M_.alloc M_.size (.cells #[.string ⟨f1.toArray⟩,.string ⟨f2.toArray⟩] 70)
    cases hm:mO (f1,f2)
    ·rw[hm]at ht K1;have P_:OY=4:=ht;subst P_;clear HT HD ht UX hm;go_wp2_with fail
     refine(K1.out _).mono ?_;rintro e w1 ⟨rfl,M8⟩;go_wp2;go_ret;exact⟨rfl,Pm.trans (M8.mono Pm.size)⟩
    ·rw[hm]at ht K1;have P_:OY=bif g_ (f1,f2)then 3 else qj (xs.drop (k+1)):=ht;obtain⟨SV,HL⟩:=az P_ UX;clear HT HD ht P_ hm UX;go_wp2_with fail
     refine(K1.out _).mono ?_;rintro e w1 ⟨rfl,M8⟩;have Ni:=Pm.trans (M8.mono Pm.size);have d0:w1.cell? ⟨wr.heap.size,0,none⟩=some (.string ⟨f1.toArray⟩):=(M8.cell (p:=⟨wr.heap.size,0,none⟩) (by simp)).trans (cK wr _ _ _ 0);have d1:w1.cell? ⟨wr.heap.size,1,none⟩=some (.string ⟨f2.toArray⟩):=(M8.cell (p:=⟨wr.heap.size,1,none⟩) (by simp)).trans (cK wr _ _ _ 1);clear M8 Pm;go_wp2_with fail
     refine(K2.out _).mono ?_;rintro e w2 ⟨rfl,M9⟩;have Nk:=bt Ni M9;by_cases Q5:ln.size<=2048
     ·have hz:g_ (f1,f2)=false:=by rw[HL.out];simp;omega
      have UE:=SV.out;rw[hz]at UE;have HT3:Hid (qj (xs.drop (k+1))=OY):=am UE.symm;clear UE hz SV HL;go_wp2_with fail
      go_roundw
      case rel=>exact⟨k+1,by omega,by go_num,Nk,HT3⟩
      case measure=>simp[intOf];omega
     ·have hz:g_ (f1,f2)=true:=by rw[HL.out];simp;omega
      have UE:=SV.out;rw[hz]at UE;have ht4:OY=3:=UE;subst ht4;clear UE hz SV HL;go_wp2_with fail
      go_ret;exact⟨rfl,Nk⟩
   ·have NI:k=xs.length:=by omega
    subst NI;have ht:=HT.out;rw[List.drop_length]at ht;have P_:OY=0:=ht.symm;subst P_;clear HT HD ht;go_wp2;go_ret;exact⟨rfl,M_⟩
 ·have hT:bR xs=3:=by unfold bR;rw[show decide (64<xs.length)=true from by simp;omega];rfl
  rw[hT];clear hT;go_enter Tryz.func98,Tryz.ntmps98
  go_wp2;go_ret;exact⟨rfl,hB⟩
theorem sr(A:Option Addr)(n c:Nat)(xs:List aU)(w:World)(hr:Rd A n 2 (aJ xs) w)(hn:n<=1000000)(hs:aE xs<=1000000):Calls Tryz.prog 98 #[.slice A n c] w λe w'=>e=.returned (.int .i64 (bR xs))/\Below w.heap.size w w':=oB A n c xs w hr hn (bj hs (by decide))
theorem Kz:(Tryz.prog.info? 251).map (·.size)=some 2:=by kernel_rfl
theorem Mh:liesAt Tryz.prog Tryz.prog.depth 251 (2 / Tryz.prog.cellsOf 251) 0 251 1=true:=by kernel_rfl
theorem Ll:(Tryz.prog.info? 5).map (λi=>(i.zero,i.size,i.bytes))=some (some (.int .u8 0),1,1):=by kernel_rfl
theorem sw(b:Nat)(w:World)(h0:w.cell? ⟨b,0,none⟩=some (.pointer (some ⟨b,0,none⟩))):Calls Tryz.prog 211 #[.pointer (some ⟨b,0,none⟩)] w λe w'=>e=.returned (.tuple #[])/\w=w':=by
 obtain⟨j,hj,_⟩:=Option.map_eq_some_iff.1 Kz;go_enter Tryz.func211,Tryz.ntmps211
 go_wp2;rw[Lib.run_neq_ptr_same w _ Tryz.underlying249 hj];go_wp2;go_end0
 exact⟨rfl,rfl⟩
theorem mu(b:Nat)(w:World)(h0:w.cell? ⟨b,0,none⟩=some (.pointer none))(XQ:w.shape? b=some (251,2))(hfz:w.frozen? ⟨b,0,none⟩=false):Calls Tryz.prog 211 #[.pointer (some ⟨b,0,none⟩)] w λe w'=>e=.returned (.tuple #[])/\w.setCell ⟨b,0,none⟩ (.pointer (some ⟨b,0,none⟩))=w':=by
 obtain⟨j,hj,ZP⟩:=Option.map_eq_some_iff.1 Kz;go_enter Tryz.func211,Tryz.ntmps211
 go_wp2;rw[Lib.run_to_unsafe w ⟨b,0,none⟩ Tryz.underlying249 Tryz.underlying378 hj (by rw[ZP];decide) XQ (Nat.zero_lt_succ 1)];simp only[Result.andThen];rw[Oper.upon_value];go_wp2;rw[run_callFunc_extern Tryz.func280 (by kernel_rfl) (by kernel_rfl) (by kernel_rfl) (e:=Extern.AbiNoEscape.same) (by kernel_rfl)];rw[Lib.run_noEscape];simp only[Result.andThen];rw[Oper.upon_value];go_wp2;rw[Lib.run_from_unsafe w ⟨b,0,none⟩ Tryz.underlying378 Tryz.underlying249 hj XQ Mh];simp only[Result.andThen];rw[Oper.upon_value];go_wp2;go_end0
 exact⟨rfl,rfl⟩
def lL(B b:Nat)(l:List UInt8)(w:World):Prop:=Lib.IsBuilderF 251 5 B b (Lib.byteCells l) w
theorem nO(B b:Nat)(bs:List Value)(w:World)(h:Lib.IsBuilderF 251 5 B b bs w):Calls Tryz.prog 211 #[.pointer (some ⟨b,0,none⟩)] w λe w'=>e=.returned (.tuple #[])/\Lib.BuilderAtF 251 5 B b (.pointer (some ⟨b,0,none⟩)) bs w'/\Below B w w'/\Lib.OthersKept 5 (some b) w w':=by
 rcases h with h|h
 ·refine(mu b w h.cell0 h.shape h.frozen0).mono ?_;rintro e w' ⟨rfl,rfl⟩;exact⟨rfl,h.used _,(aO B w).setCell (p:=⟨b,0,none⟩) h.1 _,(Lib.OthersKept.refl _ _ w).setCell ⟨b,0,none⟩ rfl _⟩
 ·refine(sw b w h.cell0).mono ?_;rintro e w' ⟨rfl,rfl⟩;exact⟨rfl,h,aO B _,Lib.OthersKept.refl _ _ _⟩
theorem lL.lt{b:Nat}{l:List UInt8}(h:lL B b l w):b<w.heap.size:=by rcases h with h|h<;>exact h.lt
theorem ge(B b:Nat)(l:List UInt8)(c:UInt8)(w:World)(h:lL B b l w)(hlen:l.length+1<=140737488355328)(Ph:B<=w.heap.size):Calls Tryz.prog 276 #[.pointer (some ⟨b,0,none⟩),.int .u8 c.toNat] w λe w'=>e=.returned .nilIface/\lL B b (l++[c]) w'/\Below B w w'/\Lib.OthersKept 5 (some b) w w':=by
 unfold lL at*;have Vq:=Lib.byteCells_length l;have hap:Lib.byteCells (l++[c])=Lib.byteCells l++[.int .u8 c.toNat]:=by rw[Lib.byteCells_append];rfl
 rw[hap];clear hap;generalize Lib.byteCells l=bs at*;obtain⟨n,hn⟩:∃n:Int,n=c.toNat:=⟨_,rfl⟩;rw[<-hn];clear hn;have Hlb:=ah Vq;clear Vq;obtain⟨i0,hi,N_,NZ,N6⟩:=info_parts Ll;go_enter Tryz.func276,Tryz.ntmps276
 go_wp2_with (go_at_call 211;refine(nO B b bs _ h).mono ?_)
 rintro e w1 ⟨rfl,h1,M8,QF⟩;obtain⟨hB,v,Np,Nj,Ng⟩:=h1;have c0:w1.cell? ⟨b,0,none⟩=some (.pointer (some ⟨b,0,none⟩)):=by rw[Lib.cell_of_heap Np];rfl
 have c1:w1.cell? ⟨b,1,none⟩=some v:=by rw[Lib.cell_of_heap Np];rfl
 go_wp2_with (at_builtin;refine wpList_append_ownF _ rfl _ _ 168 rfl B 5 i0 (.int .u8 0) 1 1 Tryz.underlying168 hi N_ NZ N6 rfl (by decide) _ _ _ rfl (Nj.alloc _) ⟨w1.heap.size,0,none⟩ 1 1 [.int .u8 n] rfl rfl ?c1 ?c2 ?c3 ?c4 ?c5 ?_)
 case c1=>
  intro j u hj
  match j,hj with
  |0,hj=>simp at hj;subst hj;simp[Addr.add]
 case c2=>intro u hu;simp at hu;subst hu;rfl
 case c3=>have:=Hlb.out;unfold maxLen;omega
 case c4=>have:=Hlb.out;omega
 case c5=>have:=M8.size;simp;omega
 intro v' w2 hown' NF _
 have Nc:b<w1.heap.size:=by
  rcases ef b w1.heap.size with h'|h'
  ·exact h'
  ·simp[fy h']at Np
 have M9:w2.heap[b]?=some (.cells #[.pointer (some ⟨b,0,none⟩),v] 251 (0,0)):=by rw[NF.block b (by simp;omega) (λe=>Ng e.symm),Lib.alloc_old w1 _ b Nc];exact Np
 have d0:w2.cell? ⟨b,0,none⟩=some (.pointer (some ⟨b,0,none⟩)):=by rw[Lib.cell_of_heap M9];rfl
 have d1:w2.cell? ⟨b,1,none⟩=some v:=by rw[Lib.cell_of_heap M9];rfl
 have f1:w2.frozen? ⟨b,1,none⟩=false:=Lib.frozen_of_heap M9 1
 obtain⟨g,cap,rfl⟩:∃g cap,v'=.slice (some ⟨g,0,none⟩) (bs.length+1) cap:=by
  rcases hown'.2 with⟨_,h0⟩|⟨g,cap,cur,fz,hv,_⟩
  ·omega
  ·exact⟨g,cap,hv⟩
 go_wp2;go_ret;refine⟨rfl,Or.inr ?_,?_,((QF.alloc _).grown NF (Lib.ownsRowF_kind (Nj.alloc _))).setCell ⟨b,1,none⟩ rfl _⟩
 ·exact Lib.BuilderAtF.put (T:=251) (e:=5) hB M9 (bs':=bs++[.int .u8 n]) (by simpa using hown') (by decide)
 ·exact((M8.alloc (by have:=M8.size;omega) _).grown NF (by have:=M8.size;simp;omega) (λk hk=>(Nj.lt k hk).1)).setCell (p:=⟨b,1,none⟩) hB _
theorem bV(B b:Nat)(l:List UInt8)(s:ByteArray)(w:World)(h:lL B b l w)(hlen:l.length+s.size<=140737488355328)(Ph:B<=w.heap.size):Calls Tryz.prog 156 #[.pointer (some ⟨b,0,none⟩),.string s] w λe w'=>e=.returned (.tuple #[.int .i64 s.size,.nilIface])/\lL B b (l++s.data.toList) w'/\Below B w w'/\Lib.OthersKept 5 (some b) w w':=by
 unfold lL at*;have Vq:=Lib.byteCells_length l;have hap:Lib.byteCells (l++s.data.toList)=Lib.byteCells l++Lib.strCells s:=by rw[Lib.byteCells_append];rfl
 rw[hap];clear hap;generalize Lib.byteCells l=bs at*;have Hlb:=ah Vq;clear Vq;obtain⟨i0,hi,N_,NZ,N6⟩:=info_parts Ll;go_enter Tryz.func156,Tryz.ntmps156
 go_wp2_with (go_at_call 211;refine(nO B b bs _ h).mono ?_)
 rintro e w1 ⟨rfl,h1,M8,QF⟩;obtain⟨hB,v,Np,Nj,Ng⟩:=h1;have c0:w1.cell? ⟨b,0,none⟩=some (.pointer (some ⟨b,0,none⟩)):=by rw[Lib.cell_of_heap Np];rfl
 have c1:w1.cell? ⟨b,1,none⟩=some v:=by rw[Lib.cell_of_heap Np];rfl
 go_wp2_with (at_builtin;refine Lib.wpList_append_own_stringF _ rfl _ _ 168 9 rfl B 5 i0 Tryz.underlying168 Tryz.underlying9 hi N_ NZ N6 _ _ _ rfl Nj s rfl ?c3 ?c4 ?c5 ?_)
 case c3=>have:=Hlb.out;unfold maxLen;omega
 case c4=>have:=Hlb.out;omega
 case c5=>have:=M8.size;omega
 intro v' w2 hown' NF _
 have Nc:b<w1.heap.size:=by
  rcases ef b w1.heap.size with h'|h'
  ·exact h'
  ·simp[fy h']at Np
 have M9:w2.heap[b]?=some (.cells #[.pointer (some ⟨b,0,none⟩),v] 251 (0,0)):=by rw[NF.block b Nc (λe=>Ng e.symm)];exact Np
 have d0:w2.cell? ⟨b,0,none⟩=some (.pointer (some ⟨b,0,none⟩)):=by rw[Lib.cell_of_heap M9];rfl
 have d1:w2.cell? ⟨b,1,none⟩=some v:=by rw[Lib.cell_of_heap M9];rfl
 have f1:w2.frozen? ⟨b,1,none⟩=false:=Lib.frozen_of_heap M9 1
 obtain⟨ao,n',cap,rfl⟩:∃ao n' cap,v'=.slice ao n' cap:=by
  rcases hown'.2 with⟨hv,_⟩|⟨g,cap,cur,fz,hv,_⟩
  ·exact⟨_,_,_,hv⟩
  ·exact⟨_,_,_,hv⟩
 go_wp2;go_ret2
 refine⟨rfl,Or.inr ?_,?_,(QF.grown NF (Lib.ownsRowF_kind Nj)).setCell ⟨b,1,none⟩ rfl _⟩
 ·exact Lib.BuilderAtF.put (T:=251) (e:=5) hB M9 (bs':=bs++Lib.strCells s) (by simpa[Lib.strCells_length]using hown') (by decide)
 ·exact(M8.grown NF (by have:=M8.size;omega) (λk hk=>(Nj.lt k hk).1)).setCell (p:=⟨b,1,none⟩) hB _
theorem tY(w:World):lL w.heap.size w.heap.size [] (w.alloc Ab):=Lib.IsBuilderF.of (Lib.fresh_isBuilder 251 5 w)
theorem lL.below{b:Nat}{l:List UInt8}(h:lL B b l w)(hb:Below w.heap.size w w'):lL B b l w':=by
 have key:∀p,Lib.BuilderAtF 251 5 B b p (Lib.byteCells l) w->Lib.BuilderAtF 251 5 B b p (Lib.byteCells l) w':=by
  rintro p ⟨hB,v,Np,Nj,Ng⟩
  have hl:∀(g:Nat)(o:Obj),w.heap[g]?=some o->g<w.heap.size:=by
   intro g o hg;rcases ef g w.heap.size with h'|h'
   ·exact h'
   ·simp[fy h']at hg
  refine⟨hB,v,by rw[hb.block b (hl _ _ Np)];exact Np,?_,Ng⟩;obtain⟨h1,h2⟩:=Nj;refine⟨h1,?_⟩;rcases h2 with h2|⟨g,cap,cur,fz,hv,hg,hh,r⟩
  ·exact Or.inl h2
  ·exact Or.inr ⟨g,cap,cur,fz,hv,hg,by rw[hb.block g (hl _ _ hh)];exact hh,r⟩
 rcases h with h|h
 ·exact Or.inl (key _ h)
 ·exact Or.inr (key _ h)
def B4(f:aU):List UInt8:=(f.1++([58,32]++f.2))++[13,10]
def cN(xs:List aU):List UInt8:=xs.flatMap B4
def gQ(xs:List aU):List UInt8:=bif bR xs !=0 then []else cN xs
theorem FG(xs:List aU)(k:Nat)(h:k<xs.length):cN (xs.take (k+1))=cN (xs.take k)++B4 xs[k]:=by unfold cN;rw[gL h,List.flatMap_append];simp
theorem zD(xs:List aU):(cN xs).length=aE xs+4*xs.length:=by
 unfold cN aE
 induction xs with
 |nil=>rfl
 |cons x r ih=>rw[jk,bP,ih,bw,dG,cg];unfold B4;simp;omega
theorem GU(w:World):lL w.heap.size w.heap.size [] (w.alloc Ab):=Lib.IsBuilderF.of (Lib.fresh_isBuilder 251 5 w)
theorem AP(A:Option Addr)(n c:Nat)(xs:List aU)(w:World)(hr:Rd A n 2 (aJ xs) w)(hn:n<=1000000)(hs:aE xs<=1000000):Calls Tryz.prog 99 #[.slice A n c] w λe w'=>e=.returned (.string ⟨(gQ xs).toArray⟩)/\Below w.heap.size w w':=by
 have k1:=sr A n c xs w hr hn hs;have QV:=hr.fld;by_cases hc:bR xs=0
 ·have hp:gQ xs=cN xs:=by unfold gQ;rw[hc];rfl
  rw[hp];rw[hc]at k1;have Oj:=FG xs
  have hlen:∀k,(cN (xs.take k)).length<=10000000:=by
   intro k;have h1:=zD (xs.take k);have h2:=lw xs k;have h3:(xs.take k).length<=xs.length:=by rw[dm];omega
   omega
  have hS:=λf(hf:f∈xs)=>bj (bM hf) hs
  obtain rfl:=QV;have hT:cN (xs.take xs.length)=cN xs:=by rw[eM]
  have S9:cN (xs.take 0)=[]:=rfl;obtain⟨HT,To,K1,HR⟩:=bK hT S9 k1 hr;obtain⟨HS,Su,HL⟩:=bu hS Oj hlen;clear k1 hr hs hc hp Oj hlen hS hT S9;generalize cN xs=OY at*;go_enter Tryz.func99,Tryz.ntmps99
  go_wp2_with fail
  refine K1.out.mono ?_;rintro e w1 ⟨rfl,M8⟩;have O_:=HR.out.below M8;have SP:=ah O_;clear O_ HR K1;have hI:=GU w1;have N5:=(aO w1.heap.size w1).alloc (aw _) Ab;have HI:=ah hI;clear hI;go_wp2_with fail
  go_loopw [11] (λi wr=>∃k:Nat,k<=xs.length/\i=.int .i64 k/\Below w1.heap.size w1 wr/\Hid (lL w1.heap.size w1.heap.size (cN (xs.take k)) wr)) (λi _=>xs.length-(intOf i).toNat)
  case atStart=>exact⟨0,a_ _,rfl,N5,by rw[To.out];exact HI⟩
  case round=>
   clear N5 HI To;obtain⟨k,hk,rfl,M_,HB⟩:=hrel;by_cases Nc:k<xs.length
   ·obtain⟨b,o,rfl,hl,c1,c2⟩:=(SP.out.below M_).fld_at (k:=k) Nc;have hf:=HS.out xs[k] (bQ _);have Oj:=Su.out k Nc;generalize xs[k]=f at*;obtain⟨f1,f2⟩:=f;simp only at c1 c2 hf
    have k2:=λw=>yl ⟨f1.toArray⟩ ⟨f2.toArray⟩ w (by rw[aR];omega) (by rw[aR];omega)
    simp only at k2
    have Q5:(f1++([58,32]++f2)).length<=1000002:=by simp;omega
    have SZ:cN (xs.take (k+1))=(cN (xs.take k)++(f1++([58,32]++f2)))++[13,10]:=by rw[Oj];unfold B4;simp
    generalize f1++([58,32]++f2)=ln at*;have hle:=HL.out k;obtain⟨Za,K2⟩:=az SZ k2;clear Oj SZ k2;have Pm:=M_.alloc M_.size (.cells #[.string ⟨f1.toArray⟩,.string ⟨f2.toArray⟩] 70);go_wp2_with fail
    refine(K2.out _).mono ?_;rintro e w2 ⟨rfl,M9⟩;have Nk:=Pm.trans (M9.mono Pm.size);have O7:=(HB.out.below ((aO wr.heap.size wr).alloc (aw _) (.cells #[.string ⟨f1.toArray⟩,.string ⟨f2.toArray⟩] 70))).below M9;have k3:=bV w1.heap.size w1.heap.size (cN (xs.take k)) ⟨ln.toArray⟩ w2 O7 (by rw[aR];omega) Nk.size;have K3:=ah k3;clear k3 O7 M9 Pm K2;go_wp2_with fail
    refine K3.out.mono ?_;rintro e w3 ⟨rfl,Qb,Na,-⟩;have Nu:=Nk.trans Na;have k4:=bV w1.heap.size w1.heap.size _ ij w3 Qb (by rw[bP,show(ij:ByteArray).size=2 from rfl];omega) Nu.size;have K4:=ah k4;clear k4 Qb Na K3;go_wp2_with fail
    refine K4.out.mono ?_;rintro e w4 ⟨rfl,SJ,Nf,-⟩;have Ny:=Nu.trans Nf;have WQ:Hid (lL w1.heap.size w1.heap.size (cN (xs.take (k+1))) w4):=by rw[Za.out];exact am SJ
    clear SJ Nf K4;go_wp2_with fail
    go_roundw
    case rel=>exact⟨k+1,by omega,by go_num,Ny,WQ⟩
    case measure=>simp[intOf];omega
   ·have NI:k=xs.length:=by omega
    subst NI;have hI:=HB.out;rw[HT.out]at hI;have k5:=Tryz.Builder_String_any_k w1.heap.size w1.heap.size OY wr hI M_.size;have K5:=ah k5;clear k5 hI;go_wp2_with fail
    refine K5.out.mono ?_;rintro e w5 ⟨rfl,-,Ns,-⟩;go_wp2;go_ret;exact⟨rfl,bt M8 (M_.trans Ns)⟩
 ·have hp:gQ xs=[]:=by
   unfold gQ;rw[show(bR xs !=0)=true from by simp[hc]];rfl
  rw[hp];have Ng:(bR xs !=0)=true:=by simp[hc]
  clear hc hp QV;generalize bR xs=ck at*;have K1:=ah k1;clear k1 hr hn hs;go_enter Tryz.func99,Tryz.ntmps99
  go_wp2_with fail
  refine K1.out.mono ?_;rintro e w1 ⟨rfl,M8⟩;go_wp2;go_ret;exact⟨rfl,M8⟩
theorem Mq(l:List UInt8)(a b:UInt8)(i:Nat):Lib.occAt l [a,b] i=(l[i]?==some a&&l[i+1]?==some b):=by
 have e0:l[i]?=(l.drop i)[0]?:=by rw[List.getElem?_drop];rfl
 have e1:l[i+1]?=(l.drop i)[1]?:=by rw[List.getElem?_drop]
 unfold Lib.occAt;rw[e0,e1];generalize l.drop i=d;rcases d with _|⟨x,_|⟨y,r⟩⟩
 ·rfl
 ·simp[List.isPrefixOf]
 ·simp[List.isPrefixOf]
  rw[jj];simp only[eA,beq_iff_eq];exact⟨λ⟨h1,h2⟩=>⟨h1.symm,h2.symm⟩,λ⟨h1,h2⟩=>⟨h1.symm,h2.symm⟩⟩
def fP(f:aU):Prop:=mO f=true/\g_ f=false
theorem uO:∀xs:List aU,qj xs=0<->∀f∈xs,fP f
 | []=>by simp[qj]
 |f::r=>by
  have ih:=uO r;rw[qj,List.forall_mem_cons,<-ih];unfold fP
  cases mO f<;>cases g_ f<;>simp
theorem kR(xs:List aU):bR xs=0<->xs.length<=64/\∀f∈xs,fP f:=by
 unfold bR;by_cases h:64<xs.length
 ·rw[decide_eq_true h,cond_true];constructor
  ·intro h;cases h
  ·intro⟨h1,_⟩;omega
 ·rw[decide_eq_false h,cond_false,uO];exact⟨λx=>⟨by omega,x⟩,λx=>x.2⟩
def FV(r:List aU × Int):Prop:=(∀f∈r.1,fP f)/\r.1.length<=64/\(r.2=0\/r.1=[])
theorem Fr{l:List UInt8}(h:nL l=0):fP (lA l):=by
 unfold nL at h;unfold fP
 cases h1:decide (2048<l.length)
 ·rw[h1,cond_false]at h
  cases h2:((!(Lib.cut l [58]).2.2)||!mO (lA l))
  ·rw[h2,cond_false]at h
   cases h3:g_ (lA l)
   ·simp at h2;exact⟨h2.2,rfl⟩
   ·rw[h3]at h;cases h
  ·rw[h2]at h;cases h
 ·rw[h1]at h;cases h
theorem we:∀(n:Nat)(s:List UInt8)(acc:List aU),(∀f∈acc,fP f)->acc.length<=64->FV (pW n s acc)
 |0,_,acc,h1,h2=>⟨h1,h2,Or.inl rfl⟩
 |n+1,s,acc,h1,h2=>by
  have hz:∀e,FV ([],e):=λe=>⟨λf hf=>by simp at hf,by simp,Or.inr rfl⟩
  unfold pW
  cases s.isEmpty<;>simp only[cond_true,cond_false]
  ·cases(Lib.cut s aK).2.2<;>simp only[di,iC,cond_true,cond_false]
   ·exact hz _
   ·cases h6:(acc.length==64)<;>simp only[cond_true,cond_false]
    ·cases h7:(nL (Lib.cut s aK).1 !=0)<;>simp only[cond_true,cond_false]
     ·refine we n _ _ (λf hf=>?_) (by simp at h6;simp;omega);rcases eB.1 hf with h|h
      ·exact h1 f h
      ·rw[cA.1 h];exact Fr (by simpa using h7)
     ·exact hz _
    ·exact hz _
  ·exact⟨h1,h2,Or.inl rfl⟩
theorem mQ(s:List UInt8):FV (bn s):=we _ _ _ (λf hf=>by simp at hf) (by simp)
theorem tF{c:UInt8}(h:fL c=true):c≠13/\c≠58:=by constructor<;>rintro rfl<;>exact absurd h (by decide)
theorem I4{c:UInt8}(h:jN c=true):c≠13:=by rintro rfl;exact absurd h (by decide)
theorem IH(a b:List UInt8)(h:∀c∈a,c≠58):Lib.cut (a++58::b) [58]=(a,b,true):=by
 have hi:Lib.index (a++58::b) [58]=a.length:=by refine Lib.index_first (by simp) (by rw[Ja];simp) (λj hj=>?_);rw[Ja,List.getElem?_append_left hj,lx hj,beq_eq_false_iff_ne];intro e;exact h _ (bQ hj) (by injection e)
 unfold Lib.cut;rw[hi,if_pos (by omega)];simp
theorem Am(a b:List UInt8)(h:∀c∈a,c≠13):Lib.cut (a++13::10::b) aK=(a,b,true):=by
 have hi:Lib.index (a++13::10::b) aK=a.length:=by
  refine Lib.index_first (by simp) (by rw[show aK=[13,10]from rfl,Mq];simp) (λj hj=>?_);rw[show aK=[13,10]from rfl,Mq,List.getElem?_append_left hj,lx hj]
  have:(some a[j]==some (13:UInt8))=false:=by rw[beq_eq_false_iff_ne];intro e;exact h _ (bQ hj) (by injection e)
  rw[this];rfl
 unfold Lib.cut;rw[hi,if_pos (by omega),show aK.length=2 from rfl];simp
theorem Cy(v:List UInt8)(h:bT v=v):bT (32::v)=v:=by
 rcases List.eq_nil_or_concat v with rfl|⟨r,c,rfl⟩
 ·decide
 ·rw[List.concat_eq_append]at*;have hc:=Fh h;unfold bT Lib.trimS Lib.trimLeftS Lib.trimRightS at*;have e1:(r++[c]).reverse=c::r.reverse:=by simp
  have e2:(32::(r++[c])).reverse=c::(r.reverse++[32]):=by simp
  have RZ:¬br.contains c=true:=by rw[hc];decide
  rw[e1,IR RZ]at h;rw[e2,IR RZ];have e3:(c::r.reverse).reverse=r++[c]:=by simp
  have e4:(c::(r.reverse++[32])).reverse=32::(r++[c]):=by simp
  rw[e3]at h;rw[e4,List.dropWhile_cons_of_pos (by decide)];exact h
theorem uX{f:aU}(h:mO f=true):be f.1=true/\f.2.all jN=true/\bT f.2=f.2:=by unfold mO kE at h;rw[eA,eA]at h;exact⟨h.1,h.2.1,beq_iff_eq.1 h.2.2⟩
theorem Gr(f:aU)(h:fP f):nL (f.1++([58,32]++f.2))=0/\lA (f.1++([58,32]++f.2))=f:=by
 obtain⟨h1,h2⟩:=h;obtain⟨ht,_,htr⟩:=uX h1;have hcut:Lib.cut (f.1++([58,32]++f.2)) [58]=(f.1,32::f.2,true):=IH f.1 (32::f.2) (λc hc=>(tF ((jw ht).1 c hc)).2)
 have hF:lA (f.1++([58,32]++f.2))=f:=by unfold lA;rw[hcut];simp only[Cy _ htr]
 refine⟨?_,hF⟩;unfold nL;rw[hF,hcut,h1,h2]
 have hl:decide (2048<(f.1++([58,32]++f.2)).length)=false:=by unfold g_ at h2;simp at h2 ⊢;omega
 rw[hl];rfl
theorem pE{f:aU}(h:mO f=true):∀c∈f.1++([58,32]++f.2),c≠13:=by
 obtain⟨ht,hv,_⟩:=uX h;intro c hc;rcases eB.1 hc with h|h
 ·exact(tF ((jw ht).1 c h)).1
 ·rcases eB.1 h with h|h
  ·simp at h;rcases h with rfl|rfl<;>decide
  ·exact I4 (dH.1 hv c h)
theorem Dz:∀(xs acc:List aU),(∀f∈xs,fP f)->acc.length+xs.length<=64->si (cN xs) acc=(acc++xs,0)
 | [],acc,_,_=>by rw[show cN []=[]from rfl,A4,e9]
 |f::r,acc,h,hl=>by
  have hf:=h f (by simp)
  have e:cN (f::r)=(f.1++([58,32]++f.2))++13::10::cN r:=by unfold cN;rw[jk];unfold B4;simp
  have Ng:(cN (f::r)).isEmpty=false:=by rw[e,List.isEmpty_eq_false_iff];simp
  obtain⟨h1,h2⟩:=Gr f hf;rw[vE _ _ Ng,e,Am _ _ (pE hf.1)];simp only[di,cond_false];rw[show(acc.length==64)=false from by rw[beq_eq_false_iff_ne];simp at hl;omega,cond_false,h1,h2];simp only[bne_self_eq_false,cond_false];rw[Dz r _ (λg hg=>h g (by simp[hg])) (by simp at hl ⊢;omega)];simp
theorem Az{xs:List aU}(h:bR xs=0):bn (gQ xs)=(xs,0):=by have h1:=(kR xs).1 h;unfold gQ;rw[h];exact Dz xs [] h1.2 (by simpa using h1.1)
theorem so(xs:List aU):(gQ xs).length<=aE xs+4*xs.length:=by
 unfold gQ
 cases(bR xs !=0)
 ·rw[cond_false,zD];exact aw _
 ·simp
def ap(T:Nat)(w w':World):Prop:=Below T w w'/\∀b,b<w.heap.size->b≠T->w'.heap[b]?=w.heap[b]?
theorem ap.of(h:Below w.heap.size w w')(hT:T<=w.heap.size):ap T w w':=⟨h.mono hT,λ_ hb _=>h.block _ hb⟩
theorem ap.trans{a b c:World}(h:ap T a b)(k:ap T b c):ap T a c:=⟨h.1.trans k.1,λi hi Ng=>(k.2 i (bE hi h.1.size) Ng).trans (h.2 i hi Ng)⟩
theorem ap.cell(h:ap T w w'){b:Nat}(j:Nat)(hb:b<w.heap.size)(Ng:b≠T):w'.cell? ⟨b,j,none⟩=w.cell? ⟨b,j,none⟩:=by simp only[World.cell?,h.2 b hb Ng]
theorem ap.setCell(T j:Nat)(w:World)(v:Value):ap T w (w.setCell ⟨T,j,none⟩ v):=⟨(aO T w).setCell (aw _) _,λ_ _ Ng=>fE _ _ _ _ Ng⟩
theorem bi{e:TypeId}{size:Nat}{v:Value}{n:Nat}{xs:List Value}{w1:World}(h:w.ownsRow B e size v n xs)(hb:ap T w w1)(hT:T<B):w1.ownsRow B e size v n xs:=by
 obtain⟨h1,h2⟩:=h;refine⟨h1,?_⟩;rcases h2 with h2|⟨g,cap,cur,hv,hg,hh,r⟩
 ·exact Or.inl h2
 ·refine Or.inr ⟨g,cap,cur,hv,hg,?_,r⟩
  have Nc:g<w.heap.size:=by
   rcases ef g w.heap.size with h'|h'
   ·exact h'
   ·simp[fy h']at hh
  rw[hb.2 g Nc (by omega)];exact hh
theorem ap.size(h:ap T w w'):w.heap.size<=w'.heap.size:=by exact h.1.size
theorem aM.beside{v:Value}{fs:List aU}{w1:World}(h:aM B v fs w)(hb:ap T w w1)(hT:T<B):aM B v fs w1:=bi h hb hT
theorem uF{fs:Nat->List aU}{xs:List aU}{p:Nat->Bool}(h0:fs 0=[])(hf:∀k(h:k<xs.length),fs (k+1)=bif p k then fs k++[xs[k]]else fs k):∀k,k<=xs.length->(fs k).length<=k
 |0,_=>by rw[h0];simp
 |k+1,h=>by
  have ih:=uF h0 hf k (by omega);rw[hf k (by omega)]
  cases p k
  ·rw[cond_false];omega
  ·rw[cond_true,bP,dM];omega
theorem yK(p1:Value)(T:Nat)(ws:World)(A:Option Addr)(n c:Nat)(xs:List aU)(w:World)(hr:Rd A n 2 (aJ xs) ws)(hn:n<=1000000)(hws:Below ws.heap.size ws w)(hT:ws.heap.size<=T)(Qs:T<w.heap.size)(Inv:Nat->World->Prop)(p:Nat->Bool)(fs:Nat->List aU)(h0:fs 0=[])(hf:∀k(h:k<xs.length),fs (k+1)=bif p k then fs k++[xs[k]]else fs k)(hI:Inv 0 w)(Nd:∀k W W',Inv k W->Below w.heap.size W W'->Inv k W')(hc:∀k(h:k<xs.length)W,Inv k W->w.heap.size<=W.heap.size->Calls Tryz.prog 80 #[.agg #[.string ⟨(xs[k]).1.toArray⟩,.string ⟨(xs[k]).2.toArray⟩],p1] W λe W'=>e=.returned (.bool (p k))/\Inv (k+1) W'/\ap T W W'):Calls Tryz.prog 79 #[.slice A n c,.func (.func 80) #[] #[p1]] w λe w'=>∃a cap,e=.returned (.slice a (fs xs.length).length cap)/\aM w.heap.size (.slice a (fs xs.length).length cap) (fs xs.length) w'/\Below T w w'/\Inv xs.length w':=by
 obtain rfl:=hr.fld;have hlen:=uF h0 hf;obtain⟨H0,HF,OJ,HC⟩:=bK h0 hf Nd hc;obtain⟨HR,HI,HL⟩:=bu hr hI hlen;have HWS:=ah hws;clear h0 hf Nd hc hr hI hlen hws;go_enter Tryz.func79,Tryz.ntmps79
 go_wp2;go_loopw [9,4] (λi out wr=>∃k:Nat,k<=xs.length/\i=.int .i64 k/\Hid (aM w.heap.size out (fs k) wr)/\Below T w wr/\Hid (Inv k wr)) (λi _ _=>xs.length-(intOf i).toNat)
 case atStart=>exact⟨0,a_ _,rfl,by rw[H0.out];exact am (aM.nil _ _),aO _ _,HI⟩
 case round=>
  clear HI H0;obtain⟨k,hk,rfl,HO,M_,HI⟩:=hrel;obtain⟨oa,oc,rfl⟩:=HO.out.shape;have ND:=M_.size;by_cases Nc:k<xs.length
  ·obtain⟨b,o,rfl,hl,c1,c2⟩:=(HR.out.below (HWS.out.trans (M_.mono hT))).fld_at (k:=k) Nc;have NR:=HF.out k Nc;have Q5:=HL.out k hk;have k1:=λW h=>HC.out k Nc W (OJ.out k wr W HI.out h)
   generalize xs[k]=f at*;obtain⟨f1,f2⟩:=f;simp only at c1 c2 k1
   have Pm:Below w.heap.size wr (wr.alloc (.cells #[.string ⟨f1.toArray⟩,.string ⟨f2.toArray⟩] 70)):=((aO wr.heap.size wr).alloc (aw _) _).mono ND;have Um:=HO.out.below ((aO wr.heap.size wr).alloc (aw _) (.cells #[.string ⟨f1.toArray⟩,.string ⟨f2.toArray⟩] 70));have OW:=ah Um;have O4:(fs k).length<=1000000000:=by omega
   generalize fs k=fk at*;obtain⟨K1,O1⟩:=az (k1 _ Pm (by simp;omega)) NR;clear k1 NR HO Um HI HF HC HL
   cases hp:p k
   ·rw[hp]at O1 K1;go_wp2_with fail
    refine K1.out.mono ?_;rintro e w1 ⟨rfl,NJ,M8⟩;have Ni:=(M_.trans (Pm.mono (by omega))).trans M8.1;obtain⟨NM,PP⟩:=az (OW.out.beside M8 Qs) NJ;clear NJ M8 Pm K1;go_wp2;go_roundw
    case rel=>exact⟨k+1,by omega,by go_num,by rw[O1.out];exact NM,Ni,PP⟩
    case measure=>simp[intOf];omega
   ·rw[hp]at O1 K1;go_wp2_with fail
    refine K1.out.mono ?_;rintro e w1 ⟨rfl,NJ,M8⟩;have Ni:=(M_.trans (Pm.mono (by omega))).trans M8.1;have d0:w1.cell? ⟨wr.heap.size,0,none⟩=some (.string ⟨f1.toArray⟩):=(M8.cell 0 (by simp) (by omega)).trans (cK wr _ _ _ 0);have d1:w1.cell? ⟨wr.heap.size,1,none⟩=some (.string ⟨f2.toArray⟩):=(M8.cell 1 (by simp) (by omega)).trans (cK wr _ _ _ 1);obtain⟨NM,PP⟩:=az (OW.out.beside M8 Qs) NJ;have P8:=M8.1.size;have QW:w.heap.size<=w1.heap.size:=by simp at P8;omega
    clear NJ M8 Pm K1 OW P8;go_wp2_with (at_builtin;refine mh w.heap.size (f1,f2) NM.out QW O4 rfl _ _ rfl rfl rfl ?_)
    intro v' w2 Po M9 _;have Ob:Hid (aM w.heap.size v' (fs (k+1)) w2):=by rw[O1.out];exact am Po
    have Xb:=ah (OJ.out (k+1) w1 w2 PP.out M9);have Nk:=Ni.trans (M9.mono (by omega));clear Po M9 PP d0 d1 O1;go_wp2;go_roundw
    case rel=>exact⟨k+1,by omega,by go_num,Ob,Nk,Xb⟩
    case measure=>simp[intOf];omega
  ·have NI:k=xs.length:=by omega
   subst NI;clear HF HC OJ HL;go_wp2;go_ret;exact⟨oa,oc,rfl,HO.out,M_,HI.out⟩
def DA(q:List UInt8->Bool)(ls:List (List UInt8))(w:World)(e:Ending)(w':World):Prop:=∃i:Int,e=.returned (.int .i64 i)/\decide (0<=i)=ls.any q/\Below w.heap.size w w'
theorem wE(p1:Value)(q:List UInt8->Bool)(A:Option Addr)(n c:Nat)(ls:List (List UInt8))(w:World)(hr:Rd A n 1 (aF ls) w)(hn:n<=1000000)(hc:∀l∈ls,∀W,Below w.heap.size w W->Calls Tryz.prog 82 #[.string ⟨l.toArray⟩,p1] W λe W'=>e=.returned (.bool (q l))/\Below W.heap.size W W'):Calls Tryz.prog 139 #[.slice A n c,.func (.func 82) #[] #[p1]] w (DA q ls w):=by
 obtain rfl:=hr.str;have hB:=aO w.heap.size w;obtain⟨HR,HC⟩:=az hr hc;clear hr hc;go_enter Tryz.func139,Tryz.ntmps139
 go_wp2;go_loopw [8] (λi wr=>∃k:Nat,k<=ls.length/\i=.int .i64 k/\Hid ((ls.take k).any q=false)/\Below w.heap.size w wr) (λi _=>ls.length-(intOf i).toNat)
 case atStart=>exact⟨0,a_ _,rfl,am rfl,hB⟩
 case round=>
  clear hB;obtain⟨k,hk,rfl,HA,M_⟩:=hrel;by_cases Nc:k<ls.length
  ·obtain⟨b,o,rfl,hl,c1⟩:=(HR.out.below M_).str_at (k:=k) Nc;have k1:=HC.out ls[k] (bQ _) wr M_
   have NB:q ls[k]=true->Hid (decide ((0:Int)<=(k:Int))=ls.any q):=by
    intro h;refine am ?_;have:ls.any q=true:=by rw[List.any_eq_true];exact⟨ls[k],bQ _,h⟩
    rw[this];simp
   have NA:q ls[k]=false->Hid ((ls.take (k+1)).any q=false):=by intro h;refine am ?_;rw[gL Nc,List.any_append,HA.out];simp[h]
   generalize ls[k]=p at*;obtain⟨OC,OS⟩:=az NB NA;clear NB NA HA
   cases hq:q p
   ·rw[hq]at k1;have hf:=OS.out hq;have K1:=ah k1;clear k1 hq;go_wp2_with fail
    refine K1.out.mono ?_;rintro e w1 ⟨rfl,M8⟩;go_wp2;go_roundw
    case rel=>exact⟨k+1,by omega,by go_num,hf,bt M_ M8⟩
    case measure=>simp[intOf];omega
   ·rw[hq]at k1;have hf:=OC.out hq;have K1:=ah k1;clear k1 hq;go_wp2_with fail
    refine K1.out.mono ?_;rintro e w1 ⟨rfl,M8⟩;go_wp2;go_ret;exact⟨k,rfl,hf.out,bt M_ M8⟩
  ·have NI:k=ls.length:=by omega
   subst NI;have ha:=HA.out;rw[eM]at ha;have VM:=ah ha;clear ha HA;go_wp2;go_ret;exact⟨-1,rfl,by rw[VM.out];rfl,M_⟩
theorem rk(p1:Value)(q:List UInt8->Bool)(A:Option Addr)(n c:Nat)(ls:List (List UInt8))(w:World)(hr:Rd A n 1 (aF ls) w)(hn:n<=1000000)(hc:∀l∈ls,∀W,Below w.heap.size w W->Calls Tryz.prog 82 #[.string ⟨l.toArray⟩,p1] W λe W'=>e=.returned (.bool (q l))/\Below W.heap.size W W'):Calls Tryz.prog 81 #[.slice A n c,.func (.func 82) #[] #[p1]] w λe w'=>e=.returned (.bool (ls.any q))/\Below w.heap.size w w':=by
 have k1:=wE p1 q A n c ls w hr hn hc;have K1:=ah k1;clear k1 hc;go_enter Tryz.func81,Tryz.ntmps81
 go_wp2_with fail
 refine K1.out.mono ?_;rintro e w1 ⟨i,rfl,hi,M8⟩;have HI:=ah hi;clear hi;go_wp2;go_ret;exact⟨by rw[<-HI.out];rfl,M8⟩
def jF(names:List (List UInt8))(nm:List UInt8):Bool:=names.any λn=>ai n==ai nm
def dL(xs:List aU)(names:List (List UInt8)):List aU:=xs.filter λf=>!jF names f.1
theorem eU(xs:List aU)(names:List (List UInt8)):(dL xs names).length<=xs.length:=List.length_filter_le _ _
def ML(q:aU->Bool)(xs:List aU)(k:Nat):Bool:=match xs[k]? with|some f=>q f|none=>false
theorem GF(q:aU->Bool)(xs:List aU)(k:Nat)(h:k<xs.length):ML q xs k=q xs[k]:=by unfold ML;rw[lx h]
theorem vY(l:List UInt8)(b:Nat)(f1:List UInt8)(w:World)(h:w.cell? ⟨b,0,none⟩=some (.string ⟨f1.toArray⟩))(h1:l.length<=2000000)(h2:f1.length<=2000000):Calls Tryz.prog 82 #[.string ⟨l.toArray⟩,.pointer (some ⟨b,0,none⟩)] w λe w'=>e=.returned (.bool (ai l==ai f1))/\Below w.heap.size w w':=by
 have k1:=jD ⟨l.toArray⟩ ⟨f1.toArray⟩ w (by rw[aY];show l.length<=_;omega) (by rw[aY];show f1.length<=_;omega);simp only at k1
 generalize (ai l==ai f1)=out at*;have K1:=ah k1;clear k1;go_enter Tryz.func82,Tryz.ntmps82
 go_wp2_with fail
 refine K1.out.mono ?_;rintro e w1 ⟨rfl,M8⟩;go_wp2;go_ret;exact⟨rfl,M8⟩
theorem Mb(l:List UInt8)(b:Nat)(f1:List UInt8)(w:World)(h:w.cell? ⟨b,0,none⟩=some (.string ⟨f1.toArray⟩))(h1:l.length<=1000000)(h2:f1.length<=1000000):Calls Tryz.prog 82 #[.string ⟨l.toArray⟩,.pointer (some ⟨b,0,none⟩)] w λe w'=>e=.returned (.bool (ai l==ai f1))/\Below w.heap.size w w':=vY l b f1 w h (bj h1 (by decide)) (bj h2 (by decide))
theorem zW(f:aU)(nb:Nat)(N:Option Addr)(nn nc:Nat)(names:List (List UInt8))(w:World)(h:w.cell? ⟨nb,0,none⟩=some (.slice N nn nc))(TJ:nb<w.heap.size)(hr:Rd N nn 1 (aF names) w)(hn:nn<=1000000)(hl:∀l∈names,l.length<=2000000)(hf:f.1.length<=2000000):Calls Tryz.prog 80 #[.agg #[.string ⟨f.1.toArray⟩,.string ⟨f.2.toArray⟩],.pointer (some ⟨nb,0,none⟩)] w λe w'=>e=.returned (.bool (!jF names f.1))/\Below w.heap.size w w':=by
 obtain⟨f1,f2⟩:=f;simp only at hf ⊢
 have Pm:=(aO w.heap.size w).alloc (aw _) (.cells #[.string ⟨f1.toArray⟩,.string ⟨f2.toArray⟩] 70)
 have k1:=rk (.pointer (some ⟨w.heap.size,0,none⟩)) (fun l=>ai l==ai f1) N nn nc names (w.alloc (.cells #[.string ⟨f1.toArray⟩,.string ⟨f2.toArray⟩] 70)) (hr.below Pm) (by omega) (by
  intro l ZI W hW;exact vY l w.heap.size f1 W ((hW.cell (p:=⟨w.heap.size,0,none⟩) (by simp)).trans (cK w _ _ _ 0)) (hl l ZI) hf)
 have he:(names.any λl=>ai l==ai f1)=jF names f1:=rfl;rw[he]at k1;generalize jF names f1=out at*;have c0:(w.alloc (.cells #[.string ⟨f1.toArray⟩,.string ⟨f2.toArray⟩] 70)).cell? ⟨nb,0,none⟩=some (.slice N nn nc):=(Pm.cell (p:=⟨nb,0,none⟩) TJ).trans h;have K1:=ah k1;clear k1 he hr hl;go_enter Tryz.func80,Tryz.ntmps80
 go_wp2_with fail
 refine K1.out.mono ?_;rintro e w1 ⟨rfl,M8⟩;go_wp2;go_ret;exact⟨rfl,Pm.trans (M8.mono (by simp))⟩
theorem Ml(f:aU)(nb:Nat)(N:Option Addr)(nn nc:Nat)(names:List (List UInt8))(w:World)(h:w.cell? ⟨nb,0,none⟩=some (.slice N nn nc))(TJ:nb<w.heap.size)(hr:Rd N nn 1 (aF names) w)(hn:nn<=1000000)(hl:∀l∈names,l.length<=1000000)(hf:f.1.length<=1000000):Calls Tryz.prog 80 #[.agg #[.string ⟨f.1.toArray⟩,.string ⟨f.2.toArray⟩],.pointer (some ⟨nb,0,none⟩)] w λe w'=>e=.returned (.bool (!jF names f.1))/\Below w.heap.size w w':=zW f nb N nn nc names w h TJ hr hn (λl q=>bj (hl l q) (by decide)) (bj hf (by decide))
theorem DB(A:Option Addr)(n c:Nat)(xs:List aU)(N:Option Addr)(nn nc:Nat)(names:List (List UInt8))(w:World)(hr:Rd A n 2 (aJ xs) w)(hn:n<=1000000)(hs:∀f∈xs,f.1.length<=2000000)(hR:Rd N nn 1 (aF names) w)(hnn:nn<=1000000)(hl:∀l∈names,l.length<=2000000):Calls Tryz.prog 32 #[.slice A n c,.slice N nn nc] w (eT w (dL xs names)):=by
 have Pm:=(aO w.heap.size w).alloc (aw _) (.cells #[.slice N nn nc] 30);have Sf:(xs.take xs.length).filter (λf=>!jF names f.1)=dL xs names:=by rw[eM];rfl
 have k1:=yK (.pointer (some ⟨w.heap.size,0,none⟩)) w.heap.size w A n c xs (w.alloc (.cells #[.slice N nn nc] 30)) hr hn Pm (aw _) (by simp)
  (λ_ W=>Below w.heap.size w W/\W.cell? ⟨w.heap.size,0,none⟩=some (.slice N nn nc)/\w.heap.size<W.heap.size) (ML (λf=>!jF names f.1) xs) (λk=>(xs.take k).filter λf=>!jF names f.1) rfl
  (by
   intro k hk;rw[GF _ _ _ hk,gL hk,List.filter_append]
   cases hq:(!jF names xs[k].1)<;>simp[hq])
  ⟨Pm,cK w _ _ _ 0,by simp⟩
  (by
   rintro k W W' ⟨h1,h2,h3⟩ hb;exact⟨h1.trans (hb.mono (by simp)),(hb.cell (p:=⟨w.heap.size,0,none⟩) (by simp)).trans h2,bE h3 hb.size⟩)
  (by
   rintro k hk W ⟨h1,h2,h3⟩ ND;rw[GF _ _ _ hk];refine(zW xs[k] w.heap.size N nn nc names W h2 h3 (hR.below h1) hnn hl (hs _ (bQ _))).mono ?_;rintro e W' ⟨rfl,hb⟩;exact⟨rfl,⟨h1.trans (hb.mono h1.size),(hb.cell (p:=⟨w.heap.size,0,none⟩) h3).trans h2,bE h3 hb.size⟩,ap.of hb (by omega)⟩)
 simp only[Sf]at k1;generalize dL xs names=fs at*;have K1:=ah k1;clear k1 hr hs hR hl Sf hn hnn;go_enter Tryz.func32,Tryz.ntmps32
 go_wp2_with fail
 refine K1.out.mono ?_;rintro e w1 ⟨a1,c1,rfl,Nr,M8,-⟩;have OW:=ah (Nr.base (B':=w.heap.size) (by simp));clear Nr;go_wp2;go_ret;exact⟨a1,c1,rfl,OW.out,Pm.trans M8⟩
theorem xG(A:Option Addr)(n c:Nat)(xs:List aU)(N:Option Addr)(nn nc:Nat)(names:List (List UInt8))(w:World)(hr:Rd A n 2 (aJ xs) w)(hn:n<=1000000)(hs:∀f∈xs,f.1.length<=1000000)(hR:Rd N nn 1 (aF names) w)(hnn:nn<=1000000)(hl:∀l∈names,l.length<=1000000):Calls Tryz.prog 32 #[.slice A n c,.slice N nn nc] w (eT w (dL xs names)):=DB A n c xs N nn nc names w hr hn (λf q=>bj (hs f q) (by decide)) hR hnn (λl q=>bj (hl l q) (by decide))
def rX(nm:List UInt8)(f:aU):Bool:=ai f.1==ai nm
theorem sD(a b:List aU)(nm:List UInt8):af (a++b) nm=af a nm++af b nm:=by unfold af;simp
theorem iW(f:aU)(r:List aU)(nm:List UInt8):af (f::r) nm=bif rX nm f then f.2::af r nm else af r nm:=by
 unfold af;rw[o8];show(if rX nm f=true then _ else _:List aU).map _=_
 cases rX nm f<;>simp
theorem jZ(xs:List aU)(names:List (List UInt8))(nm:List UInt8):af (dL xs names) nm=bif jF names nm then []else af xs nm:=by
 induction xs with
 |nil=>unfold dL af;cases jF names nm<;>rfl
 |cons f r ih=>
  have hd:dL (f::r) names=bif jF names f.1 then dL r names else f::dL r names:=by unfold dL;rw[o8];cases jF names f.1<;>simp
  rw[hd,iW]
  cases hs:rX nm f
  ·cases jF names f.1
   ·rw[cond_false,iW,hs,ih];rfl
   ·rw[cond_true,ih];rfl
  ·have he:jF names f.1=jF names nm:=by
    unfold rX at hs;unfold jF;rw[beq_iff_eq.1 hs]
   rw[he]
   cases hn:jF names nm
   ·rw[hn]at ih;rw[cond_false,iW,hs,ih];rfl
   ·rw[hn]at ih;rw[cond_true,ih];rfl
theorem gj(a b:List aU):aE (a++b)=aE a+aE b:=by unfold aE;simp
theorem fK(xs:List aU)(names:List (List UInt8)):aE (dL xs names)<=aE xs:=by
 unfold dL
 induction xs with
 |nil=>exact aw _
 |cons f r ih=>
  rw[o8];unfold aE at*
  cases(!jF names f.1)
  ·simp only[mt,if_false,bw,dG];omega
  ·simp only[if_true,bw,dG];omega
theorem iF(sep:UInt8)(l:List UInt8):(ax sep l).1.length<=64:=by
 unfold ax
 cases(sep.toNat==34||sep.toNat==92)
 ·cases ea sep false false [] [] l with
  |none=>simp[fG]
  |some ls=>
   simp only[fG,cond_false]
   cases h:decide (64<ls.length)
   ·simp at h ⊢;exact h
   ·simp
 ·simp
def mK:List UInt8:=[99,111,110,110,101,99,116,105,111,110]
def jV:List (List UInt8):=[[99,111,110,110,101,99,116,105,111,110],[107,101,101,112,45,97,108,105,118,101],[112,114,111,120,121,45,99,111,110,110,101,99,116,105,111,110],[116,101],[116,114,97,105,108,101,114],[116,114,97,110,115,102,101,114,45,101,110,99,111,100,105,110,103],[117,112,103,114,97,100,101],[112,114,111,120,121,45,97,117,116,104,101,110,116,105,99,97,116,101],[112,114,111,120,121,45,97,117,116,104,111,114,105,122,97,116,105,111,110]]
def fZ(acc:List (List UInt8))(p:List UInt8):List (List UInt8):=bif be (ai p)&&!acc.contains (ai p)then acc++[ai p]else acc
def Gh(acc:List (List UInt8))(v:List UInt8):List (List UInt8):=(ax 44 v).1.foldl fZ acc
def kK(acc:List (List UInt8))(vs:List (List UInt8)):List (List UInt8):=vs.foldl Gh acc
def jf(xs:List aU):List (List UInt8):=kK jV (af xs mK)
def dc(xs:List aU):List aU:=dL xs (jf xs)
theorem tx{α β:Type}(f:β->α->β)(a:β)(ls:List α)(k:Nat)(h:k<ls.length):(ls.take (k+1)).foldl f a=f ((ls.take k).foldl f a) ls[k]:=by rw[gL h,List.foldl_append];rfl
theorem Jj(acc:List (List UInt8))(p:List UInt8):(fZ acc p).length<=acc.length+1:=by
 unfold fZ
 cases(be (ai p)&&!acc.contains (ai p))<;>simp
theorem rQ:∀(ps acc:List (List UInt8)),(ps.foldl fZ acc).length<=acc.length+ps.length
 | [],_=>aw _
 |p::r,acc=>by
  have h1:=Jj acc p;have h2:=rQ r (fZ acc p);rw[List.foldl_cons,cg];omega
theorem tA:∀(vs acc:List (List UInt8)),(kK acc vs).length<=acc.length+64*vs.length
 | [],_=>aw _
 |v::r,acc=>by
  have h1:=rQ (ax 44 v).1 acc;have h2:=tA r (Gh acc v);have h3:=iF 44 v;unfold kK at*;unfold Gh at*;rw[List.foldl_cons,cg];omega
def fq:List UInt8->UInt8->Bool
 |a::b::r,c=>(decide (a.toNat<=c.toNat)&&decide (c.toNat<=b.toNat))||fq r c
 |_,_=>false
def aZ(p s:List UInt8):Bool:=s.all (fq p)
def fv:List UInt8:=[33,126]
def iO:List UInt8:=[9,9,32,126,128,255]
def nJ:List UInt8:=[48,57]
def jT:List UInt8:=[72,84,84,80,47]
def f_(c:UInt8):Bool:=decide (48<=c.toNat)&&decide (c.toNat<=57)
def jt(bad:Bool)(s:List UInt8):Int × Int:=
 bif bad||!jT.isPrefixOf s||(s.length !=8)||!f_ (s.getD 5 0)||(s.getD 6 0 !=46)||!f_ (s.getD 7 0)then(0,4)
 else bif s.getD 5 0 !=49 then(0,9)else(bif s.getD 7 0==48 then 0 else 1,0)
structure Mm where
 method:List UInt8
 path:List UInt8
 minor:Int
 err:Int
def wQ(s:List UInt8):Mm:=
 bif decide (2048<s.length)then⟨[],[],0,3⟩else
 let c1:=Lib.cut s [32]
 let c2:=Lib.cut c1.2.1 [32]
 let v:=jt (!c1.2.2||!c2.2.2||!aZ fv c2.1||!be c1.1||c2.1.isEmpty) c2.2.1
 let e:=bif v.2==0&&decide (1024<c2.1.length)then 3 else v.2
 bif e==0 then⟨c1.1,c2.1,v.1,0⟩else⟨[],[],0,e⟩
structure FP where
 status:Int
 words:List UInt8
 minor:Int
 err:Int
def cx(p:List UInt8):Nat:=p.foldl (λn c=>10*n+(c.toNat-48)) 0
def ce(s:List UInt8):FP:=
 bif decide (2048<s.length)then⟨0,[],0,3⟩else
 let c1:=Lib.cut s [32]
 let c2:=Lib.cut c1.2.1 [32]
 let v:=jt (!c1.2.2||!c2.2.2||!aZ iO c2.2.1||!aZ nJ c2.1||(c2.1.length !=3)||decide ((c2.1.getD 0 0).toNat<49)||decide (53<(c2.1.getD 0 0).toNat)) c1.1
 bif v.2==0 then⟨cx c2.1,c2.2.1,v.1,0⟩else⟨0,[],0,v.2⟩
def iu(minor:Int)(bad:Bool)(s:List UInt8):List UInt8 × Int:=bif bad||decide (minor<0)||decide (1<minor)then([],4)else bif decide (2048<s.length)then([],3)else(s,0)
def fO:List UInt8:=[72,84,84,80,47,49,46]
def cy(method path:List UInt8)(minor:Int):List UInt8 × Int:=
 let d:=iu minor (!be method||path.isEmpty||!aZ fv path) (method++([32]++(path++([32]++(fO++Lib.itoa minor)))))
 bif d.2==0&&decide (1024<path.length)then([],3)else d
def ee(status:Int)(words:List UInt8)(minor:Int):List UInt8 × Int:=iu minor (decide (status<100)||decide (599<status)||!aZ iO words) (fO++(Lib.itoa minor++([32]++(Lib.itoa status++([32]++words)))))
def fW:List UInt8:=[99,111,110,116,101,110,116,45,108,101,110,103,116,104]
def FN:List UInt8:=[67,111,110,116,101,110,116,45,76,101,110,103,116,104]
def je:List UInt8:=[116,114,97,110,115,102,101,114,45,101,110,99,111,100,105,110,103]
def Le:List UInt8:=[99,104,117,110,107,101,100]
def lQ:List (List UInt8)->List (List UInt8)->List (List UInt8) × Int
 |acc,[]=>bif acc.isEmpty then([],4)else(acc,0)
 |acc,v::r=>bif(ax 44 v).2==0 then lQ (acc++(ax 44 v).1) r else([],4)
def fF(vs:List (List UInt8)):List (List UInt8) × Int:=lQ [] vs
def iS(p:List UInt8):Bool:=decide (p.length<=18)&&p.all f_
def nM(vs:List (List UInt8)):Int × Int:=
 bif(fF vs).2 !=0 then(0,(fF vs).2)else bif !(fF vs).1.all iS then(0,4)else
 bif(fF vs).1.all (λp=>cx p==cx ((fF vs).1.headD []))then(cx ((fF vs).1.headD []),0)else(0,8)
structure JJ where
 kind:Int
 n:Int
 err:Int
def kX(xs:List aU)(other:Int):JJ:=
 bif decide (0<(af xs fW).length)&&decide (0<(af xs je).length)then⟨0,0,8⟩else
 bif decide (0<(af xs fW).length)then(bif(nM (af xs fW)).2==0 then⟨1,(nM (af xs fW)).1,0⟩else⟨0,0,(nM (af xs fW)).2⟩)else
 bif decide (0<(af xs je).length)then(bif(fF (af xs je)).2 !=0||((fF (af xs je)).1.length !=1)||(ai ((fF (af xs je)).1.headD [])!=ai Le)then⟨0,0,4⟩else⟨2,0,0⟩)else
 ⟨other,0,0⟩
def cM(xs:List aU):JJ:=bif decide (65536<(kX xs 0).n)then⟨0,0,3⟩else kX xs 0
def gV(status:Int):Bool:=(status.tdiv 100==1)||(status==204)||(status==304)
def cC(xs:List aU)(status:Int)(head:Bool):JJ:=bif(kX xs 3).err !=0 then⟨0,0,(kX xs 3).err⟩else bif head||gV status then⟨0,0,0⟩else bif decide (262144<(kX xs 3).n)then⟨0,0,3⟩else kX xs 3
def eO(c:UInt8):Bool:=(decide (48<=c.toNat)&&decide (c.toNat<=57))||(decide (97<=c.toNat)&&decide (c.toNat<=102))||(decide (65<=c.toNat)&&decide (c.toNat<=70))
def gE(c:UInt8):Nat:=bif decide (c.toNat<=57)then c.toNat-48 else bif decide (97<=c.toNat)then c.toNat-87 else c.toNat-55
def eZ(p:List UInt8):Nat:=p.foldl (λn c=>16*n+gE c) 0
def ow(c:UInt8):Bool:=(c.toNat==9)||(decide (32<=c.toNat)&&decide (c.toNat<=126))
def iU(s sep:List UInt8)(Nh:Nat):Int × Int:=bif decide (0<=Lib.index (s.take Nh) sep)then(Lib.index (s.take Nh) sep,0)else bif decide (Nh<=s.length)then(0,3)else(0,6)
def nU(s:List UInt8):Nat × Int:=
 let c:=Lib.cut s [59]
 bif c.1.isEmpty||decide (8<c.1.length)||!c.1.all eO then(0,4)else bif !c.2.1.all ow then(0,4)else(eZ c.1,0)
structure Ex where
 body:List UInt8
 used:Nat
 err:Int
def qT(r acc:List UInt8)(used:Nat):Ex:=
 bif aK.isPrefixOf r then⟨acc,used+2,0⟩else
 let l:=iU r (aK++aK) 8192
 bif l.2 !=0 then⟨[],0,l.2⟩else
 bif(bn (r.take l.1.toNat++aK)).2==0 then⟨acc,used+(l.1.toNat+4),0⟩else⟨[],0,(bn (r.take l.1.toNat++aK)).2⟩
def rm(Nh:Nat):Nat->List UInt8->List UInt8->Nat->Ex
 |0,_,_,_=>⟨[],0,0⟩
 |k+1,r,acc,used=>
  let l:=iU r aK 2050
  bif l.2 !=0 then⟨[],0,l.2⟩else
  let z:=nU (r.take l.1.toNat)
  bif z.2 !=0 then⟨[],0,z.2⟩else
  let r1:=r.drop (l.1.toNat+2)
  bif z.1==0 then qT r1 acc (used+(l.1.toNat+2))else
  bif decide (Nh-acc.length<z.1)then⟨[],0,3⟩else
  bif decide (r1.length<z.1)then⟨[],0,6⟩else
  let r2:=r1.drop z.1
  bif !aK.isPrefixOf r2 then⟨[],0,bif r2.isPrefixOf aK then 6 else 4⟩else
  rm Nh k (r2.drop 2) (acc++r1.take z.1) (used+(l.1.toNat+2)+z.1+2)
def ri(s:List UInt8)(Nh:Nat):Ex:=rm Nh (s.length+1) s [] 0
structure LN where
 start:List UInt8
 lines:List UInt8
 rest:List UInt8
 long:Nat
 err:Int
def aD(s:List UInt8):LN:=
 bif decide (Lib.index (s.take 8192) (aK++aK)<0)then⟨[],[],[],0,bif decide (8192<=s.length)then 3 else 6⟩else
 let k:=(Lib.index (s.take 8192) (aK++aK)).toNat
 ⟨(Lib.cut (s.take (k+2)) aK).1,(Lib.cut (s.take (k+2)) aK).2.1,s.drop (k+4),k+4,0⟩
def dB(rest:List UInt8)(long:Nat)(f:JJ)(Nh:Nat):Ex:=
 bif f.kind==1 then(bif decide ((rest.length:Int)<f.n)then⟨[],0,6⟩else⟨rest.take f.n.toNat,long+f.n.toNat,0⟩)else
 bif f.kind==2 then(bif(ri rest Nh).err==0 then⟨(ri rest Nh).body,long+(ri rest Nh).used,0⟩else⟨[],0,(ri rest Nh).err⟩)else
 bif f.kind==3 then(bif decide (Nh<rest.length)then⟨[],0,3⟩else⟨rest,long+rest.length,0⟩)else⟨[],long,0⟩
structure oV where
 method:List UInt8
 target:List UInt8
 minor:Int
 fields:List aU
 body:List UInt8
structure lu where
 status:Int
 reason:List UInt8
 minor:Int
 fields:List aU
 body:List UInt8
def oV.none:oV:=⟨[],[],0,[],[]⟩
def lu.none:lu:=⟨0,[],0,[],[]⟩
def rl(s:List UInt8):oV × Nat × Int:=
 let h:=aD s
 let l:=wQ h.start
 let p:=bn h.lines
 let f:=cM p.1
 let b:=dB h.rest h.long f 65536
 bif h.err !=0 then(oV.none,0,h.err)else bif l.err !=0 then(oV.none,0,l.err)else bif p.2 !=0 then(oV.none,0,p.2)else bif f.err !=0 then(oV.none,0,f.err)else
 bif b.err !=0 then(oV.none,0,b.err)else(⟨l.method,l.path,l.minor,p.1,b.body⟩,b.used,0)
def ep(s:List UInt8)(head:Bool):lu × Nat × Int:=
 let h:=aD s
 let l:=ce h.start
 let p:=bn h.lines
 let f:=cC p.1 l.status head
 let b:=dB h.rest h.long f 262144
 bif h.err !=0 then(lu.none,0,h.err)else bif l.err !=0 then(lu.none,0,l.err)else bif p.2 !=0 then(lu.none,0,p.2)else bif f.err !=0 then(lu.none,0,f.err)else
 bif b.err !=0 then(lu.none,0,b.err)else(⟨l.status,l.words,l.minor,p.1,b.body⟩,b.used,0)
def gU(len:Int):List aU:=bif decide (0<=len)then [(FN,Lib.itoa len)]else []
def jP(start:List UInt8)(xs:List aU)(len:Int)(body:List UInt8):List UInt8 × Int:=
 let l:=dL xs [fW,je]++gU len
 bif bR l !=0 then([],bR l)else
 bif decide (8192<(start++(aK++(gQ l++aK))).length)then([],3)else(start++(aK++(gQ l++aK))++body,0)
def mn:List (List UInt8):=[[80,79,83,84],[80,85,84],[80,65,84,67,72]]
def cm(r:oV):List UInt8 × Int:=
 let l:=cy r.method r.target r.minor
 bif l.2 !=0 then([],l.2)else bif decide (65536<r.body.length)then([],3)else
 jP l.1 r.fields (bif !r.body.isEmpty||mn.contains r.method then(r.body.length:Int)else -1) r.body
def co(r:lu)(head:Bool):List UInt8 × Int:=
 let l:=ee r.status r.reason r.minor
 bif l.2 !=0 then([],l.2)else bif gV r.status&&!r.body.isEmpty then([],2)else bif decide (262144<r.body.length)then([],3)else
 jP l.1 r.fields (bif gV r.status then -1 else(r.body.length:Int)) (bif head then []else r.body)
theorem JO:∀n:Fin 256,eO (UInt8.ofNat n.val)=true->gE (UInt8.ofNat n.val)<16/\(n.val<=57->48<=n.val/\gE (UInt8.ofNat n.val)=n.val-48)/\(57<n.val->bits .or .u8 (n.val:Int) 32=87+(gE (UInt8.ofNat n.val):Int)/\10<=gE (UInt8.ofNat n.val)):=by decide +kernel
theorem vz{c:UInt8}(h:eO c=true):gE c<16/\(c.toNat<=57->48<=c.toNat/\gE c=c.toNat-48)/\(57<c.toNat->bits .or .u8 (c.toNat:Int) 32=87+(gE c:Int)/\10<=gE c):=by have:=JO ⟨c.toNat,c.toNat_lt⟩;simp only[UInt8.ofNat_toNat]at this;exact this h
theorem rZ(l:List UInt8)(c:UInt8):eZ (l++[c])=16*eZ l+gE c:=by unfold eZ;rw[List.foldl_append];rfl
theorem oU(l:List UInt8)(h:l.all eO=true):eZ l<16 ^ l.length:=by
 rcases List.eq_nil_or_concat l with rfl|⟨r,c,rfl⟩
 ·decide
 ·rw[List.concat_eq_append]at*;rw[n7,eA]at h;have ih:=oU r h.1;have hc:=(vz (c:=c) (by simpa using h.2)).1;rw[rZ,bP,dM,Nat.pow_succ];omega
termination_by l.length
decreasing_by simp[*]
theorem CR(t:ByteArray)(bs mv:Int)(w:World)(Ng:t.size≠0)(hm:t.size<=8)(hh:t.data.toList.all eO=true)(hb:(bs=64/\mv=18446744073709551615)\/(bs=8/\mv=255/\t.size<=2)):Calls Tryz.prog 264 #[.string t,.int .i64 16,.int .i64 bs] w λe w'=>e=.returned (.tuple #[.int .u64 (eZ t.data.toList),.nilIface])/\Below w.heap.size w w':=by
 have Yn:t.toList.isEmpty=false:=by rw[dY];exact fh t (by omega)
 have hcv:=Lib.run_convert_string_bytes (P:=Tryz.prog) w 9 168 5 t (u:=.string) Tryz.underlying9 Tryz.underlying168 Tryz.underlying5;have hB:∀j,j<t.size->(Lib.bytesWorld w 5 t).cell? ⟨w.heap.size,j,none⟩=some (.int .u8 (t.data.toList.getD j 0).toNat):=λj hj=>Lib.bytesWorld_cell w 5 t j hj
 have Uo:=Lib.bytesWorld_below w 5 t;generalize Lib.bytesWorld w 5 t=W1 at*
 have QQ:∀k,k<=t.size->(eZ (t.data.toList.take k):Int)<=mv/\eZ (t.data.toList.take k)<4294967296:=by
  intro k hk;have hl:(t.data.toList.take k).length=k:=by rw[dm,<-aY];omega
  have h1:=oU (t.data.toList.take k) (by
   rw[dH]at hh ⊢;exact λc hc=>hh c (List.mem_of_mem_take hc))
  rw[hl]at h1;have h2:(16:Nat) ^ k<=16 ^ 8:=Nat.pow_le_pow_right (by decide) (by omega);have h3:(16:Nat) ^ 8=4294967296:=by decide
  rcases hb with⟨_,rfl⟩|⟨_,rfl,h4⟩
  ·omega
  ·have h5:(16:Nat) ^ k<=16 ^ 2:=Nat.pow_le_pow_right (by decide) (by omega);have h6:(16:Nat) ^ 2=256:=by decide
   omega
 have Nd:∀k(h:k<t.size),eZ (t.data.toList.take (k+1))=16*eZ (t.data.toList.take k)+gE t[k]:=λk h=>by rw[nF t k h,rZ]
 have hx:∀k(h:k<t.size),eO t[k]=true:=λk h=>dH.1 hh _ (by show t.data[k]∈_;simp)
 have hget:∀k(h:k<t.size),t.data.toList.getD k 0=t[k]:=λk h=>by rw[jm t k h];simp[List.getD,h]
 have Nn:eZ (t.data.toList.take t.size)=eZ t.data.toList:=by rw[eH t _ (aw _)]
 obtain⟨HB,R8,OJ,HX⟩:=bK hB QQ Nd hx;obtain⟨HG,HBl,PW⟩:=bu hget Uo Nn;clear hB QQ Nd hx hget Uo Nn hh;generalize eZ t.data.toList=OY at*
 have Zb:IntKind.u64.wrap (IntKind.u64.wrap 18446744073709551616-1)=18446744073709551615:=by rw[IntKind.wrap_u64,IntKind.wrap_u64];decide
 rcases hb with⟨rfl,rfl⟩|⟨rfl,rfl,h2⟩
 all_goals
  go_enter Tryz.func264,Tryz.ntmps264
  go_wp2_with fail
  go_loopw [12,13,101] (λvu vn vi wr=>∃(k:Nat) (a:Int),vu=.bool false/\vn=.int .u64 a/\vi=.int .i64 k/\k<=t.size/\Hid (a=(eZ (t.data.toList.take k):Int))/\wr=W1) (λ_ _ vi _=>t.size-(intOf vi).toNat)
  case atStart=>exact⟨0,0,rfl,rfl,rfl,a_ _,am rfl,rfl⟩
  case round=>
   obtain⟨k,a,rfl,rfl,rfl,hk,HA,rfl⟩:=hrel;have ha:=HA.out;have Np:=R8.out k hk;have a0:0<=a:=by omega
   have a1:a<4294967296:=by omega
   by_cases Vr:k<t.size
   ·have hc:=HB.out k Vr;have Nd:=OJ.out k Vr;have hx:=HX.out k Vr;have Ry:=R8.out (k+1) (by omega);rw[HG.out k Vr]at hc;rw[Nd]at Ry;obtain⟨f1,f2,f3⟩:=vz hx;generalize t[k]=c at*;have hu:=qI c;have kl:=λw=>Tryz.internal_strconv_lower (c.toNat:Int) w
    have hn:(16*eZ (t.data.toList.take k)+gE c:Nat)=eZ (t.data.toList.take (k+1)):=Nd.symm;generalize gE c=d at*;by_cases hc57:c.toNat<=57
    ·obtain⟨g1,g2⟩:=f2 hc57;have hD:(d:Int)=(c.toNat:Int)-48:=by omega
     have w1:IntKind.u8.wrap ((c.toNat:Int)-48)=(c.toNat:Int)-48:=by rw[IntKind.wrap_u8];omega
     have HN:Hid ((a*16+((c.toNat:Int)-48))=(eZ (t.data.toList.take (k+1)):Int)):=am (by rw[<-hn,ha];omega);have b1:a*16+((c.toNat:Int)-48)<4294967296:=by rw[ha];omega
     have b4:=Ry.1;rw[show((16*eZ (t.data.toList.take k)+d:Nat):Int)=a*16+((c.toNat:Int)-48)from by rw[ha];omega]at b4;have e1:IntKind.u64.wrap (a*16)=a*16:=by rw[IntKind.wrap_u64];omega
     have e2:IntKind.u64.wrap (a*16+((c.toNat:Int)-48))=a*16+((c.toNat:Int)-48):=by rw[IntKind.wrap_u64];omega
     have e3:IntKind.u64.wrap ((c.toNat:Int)-48)=((c.toNat:Int)-48):=by rw[IntKind.wrap_u64];omega
     have b5:((c.toNat:Int)-48)<16:=by omega
     have b6:0<=((c.toNat:Int)-48):=by omega
     have b7:¬(a*16+((c.toNat:Int)-48)<a*16):=by omega
     have b8:a<1152921504606846976:=by omega
     clear Np Ry Nd hn ha f2 f3 R8 OJ HX HG PW HA;go_wp2;go_roundw
     case rel=>exact⟨k+1,a*16+((c.toNat:Int)-48),rfl,by go_num,by go_num,by omega,HN,trivial⟩
     case measure=>simp[intOf];omega
    ·obtain⟨g1,g2⟩:=f3 (by omega);obtain⟨L,hL⟩:=aH (bits .or .u8 (c.toNat:Int) 32);rw[hL]at g1 kl;have hD:(d:Int)=L-97+10:=by omega
     have w1:IntKind.u8.wrap (L-97)=L-97:=by rw[IntKind.wrap_u8];omega
     have w2:IntKind.u8.wrap (L-97+10)=L-97+10:=by rw[IntKind.wrap_u8];omega
     have w3:(97:Int)<=L:=by omega
     have w4:L<=(122:Int):=by omega
     have w5:(c.toNat:Int)≠95:=by
      intro h;have:c.toNat=95:=by omega
      have PF:c=95:=by apply UInt8.toNat_inj.1;rw[this];rfl
      rw[PF]at hx;exact absurd hx (by decide)
     have w6:((c.toNat:Int)==95)=false:=by simpa using w5
     have w7:¬c.toNat=95:=by omega
     have HN:Hid ((a*16+(L-97+10))=(eZ (t.data.toList.take (k+1)):Int)):=am (by rw[<-hn,ha];omega);have b1:a*16+(L-97+10)<4294967296:=by rw[ha];omega
     have b4:=Ry.1;rw[show((16*eZ (t.data.toList.take k)+d:Nat):Int)=a*16+(L-97+10)from by rw[ha];omega]at b4;have e1:IntKind.u64.wrap (a*16)=a*16:=by rw[IntKind.wrap_u64];omega
     have e2:IntKind.u64.wrap (a*16+(L-97+10))=a*16+(L-97+10):=by rw[IntKind.wrap_u64];omega
     have e3:IntKind.u64.wrap (L-97+10)=(L-97+10):=by rw[IntKind.wrap_u64];omega
     have b5:(L-97+10)<16:=by omega
     have b6:0<=(L-97+10):=by omega
     have b7:¬(a*16+(L-97+10)<a*16):=by omega
     have b8:a<1152921504606846976:=by omega
     clear Np Ry Nd hn ha f2 f3 R8 OJ HX HG PW HA;have KL:=ah kl;have w8:48<=c.toNat:=by omega
     clear kl hL g1 hD;go_wp2_with fail
     go_wp2_with (go_at_call 344;refine(KL.out _).mono ?_;rintro e w9 ⟨rfl,rfl⟩)
     go_roundw
     case rel=>exact⟨k+1,a*16+(L-97+10),rfl,by go_num,by go_num,by omega,HN,trivial⟩
     case measure=>simp[intOf];omega
   ·have NI:k=t.size:=by omega
    subst NI;have hf:=PW.out;rw[hf]at ha;have HAF:=ah ha;clear HB R8 OJ HX HG PW HA hf Np ha;go_wp2;go_ret2
    exact⟨by rw[<-HAF.out];rfl,HBl.out⟩
structure xF(B:Nat)(s:ByteArray)(f:Nat)(ls:List (List UInt8))(w:World):Prop where
  text:w.heap[B]?=some (.cells #[.string s] 9 (0,0))
  list:∃v,w.heap[B+1]?=some (.cells #[v] 30 (0,0))/\aQ (B+3) v ls w
  start:w.heap[B+2]?=some (.cells #[.int .i64 f] 3 (0,0))
def iM(s:ByteArray)(f t:Nat):List UInt8:=bT ((s.data.toList.drop f).take (t-f))
theorem yq(B:Nat)(s:ByteArray)(f t:Nat)(ls:List (List UInt8))(w:World)(h:xF B s f ls w)(QT:f<=t)(ht:t<=s.size)(hs:s.size<=2000000)(hn:ls.length<=2000001):
    Calls Tryz.prog 108 #[.int .i64 t,.pointer (some ⟨B,0,none⟩),.pointer (some ⟨B+2,0,none⟩),.pointer (some ⟨B+1,0,none⟩)] w
      λe w'=>e=.returned (.tuple #[])/\xF B s (t+1) (jW ls (iM s f t)) w'/\Below B w w':=by
  obtain⟨h1,⟨v,h2,Nj⟩,h3⟩:=h;obtain⟨c1,z1,l1⟩:=ab h1 0;obtain⟨c2,z2,l2⟩:=ab h2 0;obtain⟨c3,z3,l3⟩:=ab h3 0;simp at c1 c2 c3
  have hex:(s.extract f t).data.toList=(s.data.toList.drop f).take (t-f):=eD s f t;have hexs:(s.extract f t).size<=2000000:=by rw[eu];omega
  have k1:=λw=>np (s.extract f t) w hexs
  rw[hex]at k1;have hp:bT ((s.data.toList.drop f).take (t-f))=iM s f t:=rfl;rw[hp]at k1
  have Oe:(iM s f t).length<=2000000:=by
    have h1:=lr ((s.data.toList.drop f).take (t-f));rw[hp]at h1;have h2:((s.data.toList.drop f).take (t-f)).length<=s.data.toList.length:=by rw[dm,gH];omega
    rw[<-aY]at h2;omega
  generalize iM s f t=p at*;obtain⟨K1,HO,H1,H2,H3⟩:=gB k1 Nj h1 h2 h3;clear k1 Nj h1 h2 h3 hex hp;obtain⟨i0,hi,N_,NZ,N6⟩:=info_parts IF
  cases he:p.isEmpty
  · have Qz:jW ls p=ls++[p]:=by unfold jW;rw[he];rfl
    have HA:=ah Qz;clear Qz;go_enter Tryz.func108,Tryz.ntmps108
    go_wp2_with (first|(go_at_call 109;refine(K1.out _).mono ?_;rintro e w1 ⟨rfl,M8⟩;have d2:=(M8.cell (p:=⟨B+1,0,none⟩) l2).trans c2;have d3:=(M8.cell (p:=⟨B+2,0,none⟩) l3).trans c3;have y2:=(M8.frozen (p:=⟨B+1,0,none⟩) l2).trans z2;have y3:=(M8.frozen (p:=⟨B+2,0,none⟩) l3).trans z3;have OW:=am (jz HO.out M8))|(at_builtin;refine wpList_append_own _ rfl _ _ 30 rfl (B+3) 9 i0 (.string ByteArray.empty) 1 16 Tryz.underlying30 hi N_ NZ N6 rfl (by decide) _ _ _ rfl (OW.out.alloc _) ⟨w1.heap.size,0,none⟩ 1 1 [.string ⟨p.toArray⟩] rfl rfl ?c1 ?c2 ?c3 ?c4 ?c5 ?_))
    case c1=>
      intro j u hj
      match j,hj with
      |0,hj=>simp at hj;subst hj;simp[Addr.add]
    case c2=>intro u hu;simp at hu;subst hu;rfl
    case c3=>unfold maxLen;omega
    case c4=>omega
    case c5=>have:=M8.size;simp;omega
    intro v' w2 hown' NF _
    have Ta:∀b,b<B+3->b<w.heap.size->w2.heap[b]?=w.heap[b]?:=by intro b Na M_;have h1:=M8.size;rw[NF.block b (by simp;omega) (λe=>by have:=(OW.out.lt b e.symm).1;omega),gG _ _ _ (by omega),M8.block b M_]
    have q1:=(Ta B (by omega) l1).trans H1.out;have q2:=(Ta (B+1) (by omega) l2).trans H2.out;have q3:=(Ta (B+2) (by omega) l3).trans H3.out;obtain⟨e2,f2,_⟩:=ab q2 0;obtain⟨e3,f3,_⟩:=ab q3 0;simp at e2 e3
    obtain⟨g,cap,rfl⟩:∃g cap,v'=.slice (some ⟨g,0,none⟩) (ls.length+1) cap:=by
      rcases hown'.2 with⟨_,h0⟩|⟨g,cap,cur,hv,_⟩
      · omega
      · exact⟨g,cap,hv⟩
    have Vf:Below B w w2:=((M8.mono (by omega)).alloc (by have:=M8.size;omega) _).grown NF (by have:=M8.size;simp;omega) (λk hk=>by have:=(OW.out.lt k hk).1;omega);obtain⟨HQ1,HQ2,ZH,HN,HB⟩:=gB q1 q2 q3 hown' Vf;clear q1 q2 q3 hown' Ta NF Vf M8 d2 d3 y2 y3 c1 c2 c3;go_wp2;go_end0
    refine⟨rfl,⟨?_,⟨_,EG (by omega) HQ2.out,?_⟩,?_⟩,(HB.out.setCell (p:=⟨B+1,0,none⟩) (by show B<=B+1;omega) _).setCell (p:=⟨B+2,0,none⟩) (by show B<=B+2;omega) _⟩
    · rw[fE _ _ _ _ (by show B≠B+2;omega),fE _ _ _ _ (by show B≠B+1;omega)];exact HQ1.out
    · rw[HA.out]
      refine ownsRow_setCell_below (ownsRow_setCell_below ?_ (by show B+1<B+3;omega) _) (by show B+2<B+3;omega) _;rw[bP,dM,cO];exact HN.out
    · exact lG (by rw[fE _ _ _ _ (by show B+2≠B+1;omega)];exact ZH.out)
  · have Qz:jW ls p=ls:=by unfold jW;rw[he];rfl
    have HA:=ah Qz;clear Qz;go_enter Tryz.func108,Tryz.ntmps108
    go_wp2_with (go_at_call 109;refine(K1.out _).mono ?_;rintro e w1 ⟨rfl,M8⟩;have d3:=(M8.cell (p:=⟨B+2,0,none⟩) l3).trans c3;have y3:=(M8.frozen (p:=⟨B+2,0,none⟩) l3).trans z3)
    go_end0
    refine⟨rfl,⟨?_,⟨v,?_,?_⟩,?_⟩,(M8.mono (by omega)).setCell (p:=⟨B+2,0,none⟩) (by show B<=B+2;omega) _⟩
    · rw[fE _ _ _ _ (by show B≠B+2;omega),M8.block B l1];exact H1.out
    · rw[fE _ _ _ _ (by show B+1≠B+2;omega),M8.block (B+1) l2];exact H2.out
    · rw[HA.out];exact ownsRow_setCell_below (jz HO.out M8) (by show B+2<B+3;omega) _
    · exact lG (by rw[M8.block (B+2) l3];exact H3.out)
def Kv(s:ByteArray)(f k:Nat):List UInt8:=(s.data.toList.drop f).take (k-f)
theorem GQ(s:ByteArray)(f k:Nat)(hf:f<=k)(h:k<s.size):Kv s f (k+1)=Kv s f k++[s[k]]:=by
  unfold Kv;rw[show k+1-f=(k-f)+1 from by omega,gL (by rw[gH,<-aY];omega)]
  congr 2
  rw[List.getElem_drop,jm s k h];congr 1;omega
theorem zV(s:ByteArray)(k:Nat):Kv s k k=[]:=by unfold Kv;rw[Nat.sub_self];rfl
theorem Ih(sep:UInt8)(o b:Bool)(cur:List UInt8)(ls:List (List UInt8))(c:UInt8)(r:List UInt8)(x92 x34 xs:Bool)(h1:((c.toNat:Int)==92)=x92)(h2:((c.toNat:Int)==34)=x34)(h3:((c.toNat:Int)==(sep.toNat:Int))=xs):
    ea sep o b cur ls (c::r)=bif b then ea sep o false (cur++[c]) ls r
    else bif o&&x92 then ea sep o true (cur++[c]) ls r
    else bif x34 then ea sep (!o) false (cur++[c]) ls r
    else bif xs&&!o then ea sep o false [] (jW ls (bT cur)) r
    else ea sep o false (cur++[c]) ls r:=by
  have e1:=(fH c.toNat 92).trans h1;have e2:=(fH c.toNat 34).trans h2;have e3:=(fH c.toNat sep.toNat).trans h3;rw[ea,e1,e2,e3]
def dW(w:World)(r:List (List UInt8) × Int)(e:Ending)(w':World):Prop:=∃a cap,e=.returned (.tuple #[.slice a r.1.length cap,.int .i64 r.2])/\aQ w.heap.size (.slice a r.1.length cap) r.1 w'/\Below w.heap.size w w'
theorem dW.none{n:Int}(h:Below w.heap.size w w'):dW w ([],n) (.returned (.tuple #[.slice none 0 0,.int .i64 n])) w':=⟨Option.none,0,rfl,World.ownsRow_nil _ _ _ _,h⟩
theorem tL(s:ByteArray)(sep:UInt8)(w:World)(hs:s.size<=2000000):
    Calls Tryz.prog 62 #[.string s,.int .u8 sep.toNat] w (dW w (ax sep s.data.toList)):=by
  cases q1:((sep.toNat:Int)==34)
  · cases q2:((sep.toNat:Int)==92)
    · have Vp:ax sep s.data.toList=fG (ea sep false false [] [] s.data.toList):=by
        unfold ax;rw[(fH sep.toNat 34).trans q1,(fH sep.toNat 92).trans q2];rfl
      rw[Vp];clear Vp;obtain⟨OY,OG⟩:=aH (ea sep false false [] [] s.data.toList);rw[OG]
      have Tx:∀ps,OY=some ps->ps.length<=2000001:=by intro ps e;have:=vW sep s.data.toList false false [] [] ps (OG.trans e);rw[<-aY]at this;simp at this;omega
      obtain⟨HT,HC⟩:=az OG Tx;clear OG Tx;have Nu:Below w.heap.size w (((w.alloc (.cells #[.string s] 9)).alloc Jv).alloc Ag):=(((aO _ w).alloc (aw _) _).alloc (by simp) _).alloc (by simp;omega) _
      have Nd:xF w.heap.size s 0 [] (((w.alloc (.cells #[.string s] 9)).alloc Jv).alloc Ag):=by
        refine⟨?_,⟨.slice none 0 0,?_,World.ownsRow_nil _ _ _ _⟩,?_⟩
        · rw[gG _ _ _ (by simp;omega),gG _ _ _ (by simp)];exact ay _ _ _ rfl
        · rw[gG _ _ _ (by simp)];exact ay _ _ _ (by simp)
        · exact ay _ _ _ (by simp)
      obtain⟨Og,OJ⟩:=az Nu Nd;clear Nu Nd;go_enter Tryz.func62,Tryz.ntmps62
      go_wp2;go_loopw [22,8,9] (λi o b wr=>∃(k:Nat) (oo bb:Bool) (f:Nat) (ls:List (List UInt8)),k<=s.size/\i=.int .i64 k/\o=.bool oo/\b=.bool bb/\f<=k/\(bb=true->oo=true)/\ls.length<=k/\xF w.heap.size s f ls wr/\Below w.heap.size w wr/\Hid (ea sep oo bb (Kv s f k) ls (s.data.toList.drop k)=OY)) (λi _ _ _=>s.size-(intOf i).toNat)
      case atStart=>exact⟨0,false,false,0,[],a_ _,rfl,rfl,rfl,aw _,(λh=>absurd h (by decide)),by simp,OJ.out,Og.out,by show _=_;rw[zV];exact HT.out⟩
      case round=>
        clear Og OJ;obtain⟨k,oo,bb,f,ls,hk,rfl,rfl,rfl,hfk,O9,P4,Nd,M_,Wt⟩:=hrel;obtain⟨ct,_,lt⟩:=ab Nd.text 0;simp at ct
        have OJ:=ah Nd;clear Nd;have Hbo:=ah O9;clear O9;by_cases Nc:k<s.size
        · have hd:=nE s k Nc
          have hsg:=GQ s f k hfk Nc
          cases x92:((s[k].toNat:Int)==92)<;>cases x34:((s[k].toNat:Int)==34)<;>cases xs:((s[k].toNat:Int)==(sep.toNat:Int))
          all_goals
            have No:=Wt.out;rw[hd,Ih sep oo bb _ ls s[k] _ _ _ _ x92 x34 xs,<-hsg]at No
          all_goals clear hd hsg
          all_goals try (exfalso;simp at x92 x34 xs q1 q2;omega;done)
          all_goals cases bb<;>cases oo
          all_goals try (exact absurd (Hbo.out rfl) (by decide))
          all_goals simp only[cond_true,cond_false,kN,jU,di,iC]at No
          all_goals first
            | (with_reducible (have HN0:ea sep _ _ (Kv s f (k+1)) ls (List.drop (k+1) s.data.toList)=OY:=No)
               have HN:=ah HN0;clear HN0 No;go_wp2;go_roundw
               case rel=>exact⟨k+1,_,_,f,ls,by omega,by go_num,rfl,rfl,by omega,(λh=>by first|rfl|exact absurd h (by decide)),by omega,OJ.out,M_,HN⟩
               case measure=>simp[intOf];omega)
            | (have hp:bT (Kv s f k)=iM s f k:=rfl
               rw[hp,<-zV s (k+1)]at No;have HN:=ah No;clear No hp;have N5:=ro ls (iM s f k);go_wp2_with (go_at_call 108;refine(yq w.heap.size s f k ls _ OJ.out hfk (by omega) hs (by omega)).mono ?_;rintro e w2 ⟨rfl,OM,M9⟩)
               have U0:=ah OM;clear OM;go_wp2;go_roundw
               case rel=>exact⟨k+1,_,_,k+1,jW ls (iM s f k),by omega,by go_num,rfl,rfl,by omega,(λh=>by first|rfl|exact absurd h (by decide)),by omega,U0.out,M_.trans M9,HN⟩
               case measure=>simp[intOf];omega)
        · have NI:k=s.size:=by omega
          subst NI;have PE:=Wt.out;rw[mP s s.size (aw _)]at PE
          cases oo
          · have hp:bT (Kv s f s.size)=iM s f s.size:=rfl
            simp only[ea,cond_false,hp]at PE;subst PE;have hcn:=HC.out _ rfl;have Hcn:=ah hcn;clear hcn;clear HT Wt;have N5:=ro ls (iM s f s.size);go_wp2_with fail
            refine(yq w.heap.size s f s.size ls _ OJ.out hfk (aw _) hs (by omega)).mono ?_;rintro e w2 ⟨rfl,OM,M9⟩;generalize jW ls (iM s f s.size)=ps at*;obtain⟨h1,⟨v,h2,Nj⟩,h3⟩:=OM;obtain⟨a,cap,rfl⟩:=Nj.shape;obtain⟨c2,_,l2⟩:=ab h2 0;simp at c2
            have hB:=M_.trans M9;have HO:=ah Nj;clear Nj h1 h2 h3 M9
            cases hlen:decide (64<ps.length)
            · have Ug:fG (some ps)=(ps,0):=by unfold fG;simp only[hlen,cond_false]
              have HSE:=ah Ug;have t1:decide ((64:Int)<(ps.length:Int))=false:=by simp at hlen ⊢;omega
              clear hlen Ug;go_wp2;go_ret2
              rw[HSE.out]
              exact⟨a,cap,rfl,⟨HO.out.1,by
                rcases HO.out.2 with h|⟨g,cp,cur,hv,hg,r⟩
                · exact Or.inl h
                · exact Or.inr ⟨g,cp,cur,hv,by omega,r⟩⟩,hB⟩
            · have Ug:fG (some ps)=([],3):=by unfold fG;simp only[hlen,cond_true]
              have HSE:=ah Ug;have t1:decide ((64:Int)<(ps.length:Int))=true:=by simp at hlen ⊢;omega
              clear hlen Ug;go_wp2;go_ret2
              rw[HSE.out];exact dW.none hB
          · simp only[ea,cond_true]at PE
            subst PE;clear HT Wt HC;go_wp2;go_ret2
            exact dW.none M_
    · have Vp:ax sep s.data.toList=([],2):=by unfold ax;rw[(fH sep.toNat 34).trans q1,(fH sep.toNat 92).trans q2];rfl
      rw[Vp];clear Vp;go_enter Tryz.func62,Tryz.ntmps62
      go_wp2;go_ret2
      exact dW.none ((aO _ w).alloc (aw _) _)
  · have Vp:ax sep s.data.toList=([],2):=by unfold ax;rw[(fH sep.toNat 34).trans q1];rfl
    rw[Vp];clear Vp;go_enter Tryz.func62,Tryz.ntmps62
    go_wp2;go_ret2
    exact dW.none ((aO _ w).alloc (aw _) _)
theorem iJ(s:ByteArray)(sep:UInt8)(w:World)(hs:s.size<=1000000):Calls Tryz.prog 62 #[.string s,.int .u8 sep.toNat] w (dW w (ax sep s.data.toList)):=tL s sep w (by omega)
theorem jp{P:Program}(w:World)(base:Nat)(t ty e:TypeId)(i:TypeInfo)(size c:Nat)(ht:P.underlying t=some (.slice e))(hi:P.info? e=some i)(v:Value)(n:Nat)(xs:List Value)(Nj:w.ownsRow base e size v n xs):(Builtin.append_ #[t,t] ty #[v,.slice none 0 c]).run P w=.ok v w:=by
 rcases Nj.2 with⟨rfl,rfl⟩|⟨g,cap,cur,rfl,_,_,ZY,_⟩
 ·simp[Builtin.append_,run_underlying ht,sizeOf,typeInfo,hi,Builtin.lenOf,Builtin.firstCells]
 ·simp[Builtin.append_,run_underlying ht,sizeOf,typeInfo,hi,Builtin.lenOf,Builtin.firstCells,ZY,storeCells]
theorem pY(ys:List aU):∀u∈aJ ys,u.oneCell'=true:=by
 intro u hu;unfold aJ at hu;obtain⟨f,_,h⟩:=List.mem_flatMap.1 hu;simp[ss]at h
 rcases h with rfl|rfl<;>rfl
theorem vU(xs ys:List aU):aJ (xs++ys)=aJ xs++aJ ys:=by unfold aJ;simp
theorem tr{ops:Array Oper}{rest:List Oper}{o:Oper}{a:Act}{Q:Exit->Act->World->Prop}(B:Nat){w:World}{v:Value}{fs:List aU}(Nj:aM B v fs w)(hB:B<=w.heap.size){A:Option Addr}{n c:Nat}{ys:List aU}(hr:Rd A n 2 (aJ ys) w)(hn:fs.length+n<=1000000000)(Ot:o.guard=none)(s x:Operand)(ho:o.op=.call { callee:=.builtin .append,args:=#[s,x],argTypes:=#[36,36] })(hs:a.eval s=v)(hx:a.eval x=.slice A n c)(hK:∀v' w1,aM B v' (fs++ys) w1->Below B w w1->pD w w1 v v'->wpList Tryz.prog ops Q rest (a.put o.dst v') w1):wpList Tryz.prog ops Q (o::rest) a w:=by
 obtain rfl:=hr.fld;obtain⟨i0,hi,N_,NZ,N6⟩:=info_parts Jm
 have key:∃v' w1,(Builtin.append_ #[36,36] o.type #[v,.slice A ys.length c]).run Tryz.prog w=.ok v' w1/\aM B v' (fs++ys) w1/\Below B w w1/\pD w w1 v v':=by
  by_cases h0:A=none
  ·subst h0
   have hy:ys.length=0:=by
    rcases mw ys.length with h|h
    ·exact h
    ·obtain⟨b,o',e,_⟩:=hr.2 h;cases e
   have RH:ys=[]:=mz hy;subst RH;refine⟨v,w,jp w B _ _ 70 i0 2 c Tryz.underlying36 hi v _ _ Nj,by rw[e9];exact Nj,aO _ _,⟨⟨rfl,rfl,rfl,aw _,λ_ _ _=>rfl⟩,Or.inl rfl⟩⟩
  ·obtain⟨ad,rfl⟩:=Option.ne_none_iff_exists'.1 h0
   obtain⟨v',w',NQ,h2,h3,_,h5⟩:=run_append_own_at (P:=Tryz.prog) w B 36 o.type 70 i0 (.agg #[.string ByteArray.empty,.string ByteArray.empty]) 2 32 Tryz.underlying36 hi N_ NZ N6 rfl (by decide) v fs.length (aJ fs) Nj ad ys.length c (aJ ys) (by rw[eI]) (by
    intro j u hj;have Qd:j<ys.length*2:=by have:=(mj.1 hj).1;rwa [eI]at this
    obtain⟨b,o',e,_,hc⟩:=hr.2 (by omega)
    cases e
    have e2:(⟨b,o',none⟩:Addr).add j=⟨b,o'+j,none⟩:=by unfold Addr.add;split<;>simp_all
    rw[e2];exact hc j u hj) (pY ys) (by unfold maxLen;omega) (by omega) hB
   refine⟨v',w',NQ,?_,(aO B w).grown h3 hB (λk hk=>(World.ownsRow.lt Nj k hk).1),⟨h3,?_⟩⟩
   ·unfold aM;rw[bP,vU];exact h2
   ·rcases h5 with h|h
    ·exact Or.inl h
    ·refine Or.inr λg hg=>?_
     rw[h]at hg;have:=lv hg;omega
 obtain⟨v',w1,NQ,h1,h2,h3⟩:=key;refine wpList_plain Ot λ_ UI=>?_
 unfold Oper.wp execOp;simp only[ho,resolve,invoke,builtin,Sem.run_bind,Sem.run_pure,Result.andThen_ok,List.map_toArray,bw,List.map_nil,hs,hx,NQ];exact UI _ _ (hK v' w1 h1 h2 h3)
theorem fI(xs:List (List UInt8)):(aF xs).length=xs.length:=by unfold aF;simp
theorem ox(ys:List (List UInt8)):∀u∈aF ys,u.oneCell'=true:=by intro u hu;unfold aF at hu;obtain⟨f,_,rfl⟩:=eY.1 hu;rfl
theorem sW{ops:Array Oper}{rest:List Oper}{o:Oper}{a:Act}{Q:Exit->Act->World->Prop}(B:Nat){w:World}{v:Value}{fs:List (List UInt8)}(Nj:aQ B v fs w)(hB:B<=w.heap.size){A:Option Addr}{n c:Nat}{ys:List (List UInt8)}(hr:Rd A n 1 (aF ys) w)(hn:fs.length+n<=1000000000)(Ot:o.guard=none)(s x:Operand)(ho:o.op=.call { callee:=.builtin .append,args:=#[s,x],argTypes:=#[30,30] })(hs:a.eval s=v)(hx:a.eval x=.slice A n c)(hK:∀v' w1,aQ B v' (fs++ys) w1->Below B w w1->pD w w1 v v'->wpList Tryz.prog ops Q rest (a.put o.dst v') w1):wpList Tryz.prog ops Q (o::rest) a w:=by
 obtain rfl:=hr.str;obtain⟨i0,hi,N_,NZ,N6⟩:=info_parts IF
 have key:∃v' w1,(Builtin.append_ #[30,30] o.type #[v,.slice A ys.length c]).run Tryz.prog w=.ok v' w1/\aQ B v' (fs++ys) w1/\Below B w w1/\pD w w1 v v':=by
  by_cases h0:A=none
  ·subst h0
   have hy:ys.length=0:=by
    rcases mw ys.length with h|h
    ·exact h
    ·obtain⟨b,o',e,_⟩:=hr.2 h;cases e
   have RH:ys=[]:=mz hy;subst RH;refine⟨v,w,jp w B _ _ 9 i0 1 c Tryz.underlying30 hi v _ _ Nj,by rw[e9];exact Nj,aO _ _,⟨⟨rfl,rfl,rfl,aw _,λ_ _ _=>rfl⟩,Or.inl rfl⟩⟩
  ·obtain⟨ad,rfl⟩:=Option.ne_none_iff_exists'.1 h0
   obtain⟨v',w',NQ,h2,h3,_,h5⟩:=run_append_own_at (P:=Tryz.prog) w B 30 o.type 9 i0 (.string ByteArray.empty) 1 16 Tryz.underlying30 hi N_ NZ N6 rfl (by decide) v fs.length (aF fs) Nj ad ys.length c (aF ys) (by rw[fI,Nat.mul_one]) (by
    intro j u hj;have Qd:j<ys.length:=by have:=(mj.1 hj).1;rwa [fI]at this
    obtain⟨b,o',e,_,hc⟩:=hr.2 (by omega)
    cases e
    have e2:(⟨b,o',none⟩:Addr).add j=⟨b,o'+j,none⟩:=by unfold Addr.add;split<;>simp_all
    rw[e2];exact hc j u hj) (ox ys) (by unfold maxLen;omega) (by omega) hB
   refine⟨v',w',NQ,?_,(aO B w).grown h3 hB (λk hk=>(World.ownsRow.lt Nj k hk).1),⟨h3,?_⟩⟩
   ·unfold aQ;rw[bP,cO];exact h2
   ·rcases h5 with h|h
    ·exact Or.inl h
    ·refine Or.inr λg hg=>?_
     rw[h]at hg;have:=lv hg;omega
 obtain⟨v',w1,NQ,h1,h2,h3⟩:=key;refine wpList_plain Ot λ_ UI=>?_
 unfold Oper.wp execOp;simp only[ho,resolve,invoke,builtin,Sem.run_bind,Sem.run_pure,Result.andThen_ok,List.map_toArray,bw,List.map_nil,hs,hx,NQ];exact UI _ _ (hK v' w1 h1 h2 h3)
theorem Gs(c:UInt8):fL (jc c)=fL c:=by
 by_cases h:(decide (65<=c.toNat)&&decide (c.toNat<=90))=true
 ·have h1:jc c=c+32:=by unfold jc;rw[h];rfl
  have h2:(c+32).toNat=c.toNat+32:=by simp at h;rw[UInt8.toNat_add];simp;omega
  simp at h
  have h3:kO c=true:=by unfold kO;simp;omega
  have h4:kO (c+32)=true:=by unfold kO;rw[h2];simp;omega
  rw[h1];unfold fL;rw[h3,h4];rfl
 ·have h':(decide (65<=c.toNat)&&decide (c.toNat<=90))=false:=by simpa using h
  have h1:jc c=c:=by unfold jc;rw[h'];rfl
  rw[h1]
theorem EX(l:List UInt8):be (ai l)=be l:=by
 unfold be ai;rw[List.all_map]
 congr 1
 ·congr 1;funext c;exact Gs c
 ·cases l<;>rfl
theorem aQ.new(w:World)(ls:List (List UInt8))(h:ls.length<=1000000):aQ w.heap.size (.slice (some ⟨w.heap.size,0,none⟩) ls.length ls.length) ls (w.alloc (.cells (aF ls).toArray 9)):=by
 refine⟨by simp,Or.inr ⟨w.heap.size,ls.length,(aF ls).toArray,rfl,aw _,?_,aw _,?_,?_,?_⟩⟩
 ·exact ay _ _ _ rfl
 ·unfold maxLen;omega
 ·simp[aF]
 ·exact jJ (by simp[aF])
theorem El(A:Option Addr)(n c:Nat)(ls:List (List UInt8))(nm:List UInt8)(w:World)(hr:Rd A n 1 (aF ls) w)(hn:n<=1000000):Calls Tryz.prog 95 #[.slice A n c,.string ⟨nm.toArray⟩] w λe w'=>(∃i:Int,e=.returned (.int .i64 i)/\decide (0<=i)=ls.contains nm)/\w=w':=by
 obtain rfl:=hr.str
 have hY:∀k(h:k<ls.length),(ls[k]==nm)=true->ls.contains nm=true:=by intro k h e;rw[List.contains_iff_mem,<-beq_iff_eq.1 e];exact bQ _
 have hN:∀k,ls.length<=k->(ls.take k).contains nm=false->ls.contains nm=false:=by intro k h e;rwa [jJ h]at e
 have hS:∀k(h:k<ls.length),(ls.take k).contains nm=false->(ls[k]==nm)=false->(ls.take (k+1)).contains nm=false:=by
  intro k h e n;have n2:nm≠ls[k]:=λx=>(beq_eq_false_iff_ne.1 n) x.symm
  have e2:nm ∉ ls.take k:=by simpa using e
  rw[gL h,List.contains_eq_mem,decide_eq_false_iff_not,eB];rintro(x|x)
  ·exact e2 x
  ·exact n2 (cA.1 x)
 obtain⟨HY,HN,HS,HR⟩:=bK hY hN hS hr;clear hY hN hS hr;generalize ls.contains nm=out at*;go_enter Tryz.func95,Tryz.ntmps95
 go_wp2;go_loop [8] (λi=>∃k:Nat,k<=ls.length/\i=.int .i64 k/\Hid ((ls.take k).contains nm=false)) (λi=>ls.length-(intOf i).toNat)
 case atStart=>exact⟨0,a_ _,rfl,by show _=_;simp⟩
 case round=>
  obtain⟨k,hk,rfl,Py⟩:=hrel;by_cases Nc:k<ls.length
  ·obtain⟨b,o,rfl,hl,c1⟩:=HR.out.str_at (k:=k) Nc;have hy:=HY.out k Nc;have hs:=HS.out k Nc Py.out;generalize ls[k]=l at*;obtain⟨Hy,Hs⟩:=az hy hs;clear hy hs;have hsw:∀b,(l==nm)=b->(nm==l)=b:=by intro b h;rw[<-h,jj,beq_iff_eq,beq_iff_eq];exact eq_comm
   cases hq:(l==nm)
   ·have hf:=Hs.out hq;have Hf:=ah hf;clear hf;have q2:=hsw _ hq;clear hsw;go_wp2;go_round
    case rel=>exact⟨k+1,by omega,by go_num,Hf⟩
    case measure=>simp[intOf];omega
   ·have hf:=Hy.out hq;have Hf:=ah hf;clear hf;have q2:=hsw _ hq;clear hsw;go_wp2;go_ret;exact⟨⟨k,rfl,by rw[Hf.out];simp⟩,rfl⟩
  ·have hf:=HN.out k (by omega) Py.out;have Hf:=ah hf;clear hf;go_wp2;go_ret;exact⟨⟨-1,rfl,by rw[Hf.out];rfl⟩,rfl⟩
theorem oJ(A:Option Addr)(n c:Nat)(ls:List (List UInt8))(nm:List UInt8)(w:World)(hr:Rd A n 1 (aF ls) w)(hn:n<=1000000):Calls Tryz.prog 42 #[.slice A n c,.string ⟨nm.toArray⟩] w λe w'=>e=.returned (.bool (ls.contains nm))/\w=w':=by
 have k1:=El A n c ls nm w hr hn;have K1:=ah k1;clear k1;generalize ls.contains nm=out at*;go_enter Tryz.func42,Tryz.ntmps42
 go_wp2_with fail
 refine K1.out.mono ?_;rintro e w1 ⟨⟨i,rfl,hi⟩,rfl⟩;have HI:=ah hi;clear hi;go_wp2;go_ret;exact⟨by rw[<-HI.out];rfl,rfl⟩
def fV(B:Nat)(out:Value)(acc:List (List UInt8))(A:Option Addr)(vs:List (List UInt8))(w:World):Prop:=aQ B out acc w/\Rd A vs.length 1 (aF vs) w/\xM out A vs.length
theorem fV.below{out:Value}{w1:World}(h:fV B out acc A vs w)(hb:Below w.heap.size w w1):fV B out acc A vs w1:=⟨h.1.below hb,h.2.1.below hb,h.2.2⟩
theorem fV.far{out v':Value}{RX:List (List UInt8)}{w1:World}(h:fV B out acc A vs w)(ho:aQ B v' RX w1)(hf:pD w w1 out v'):fV B v' RX A vs w1:=⟨ho,h.2.1.far hf h.2.2⟩
theorem fV.beside{out:Value}{A2:Option Addr}{ps:List (List UInt8)}{w1:World}{c:Nat}(h:fV B out acc A vs w)(hb:Below w.heap.size w w1)(hp:aQ w.heap.size (.slice A2 ps.length c) ps w1):fV B out acc A2 ps w1:=⟨h.1.below hb,hp.rd.2,xM.new h.1 (mf hp)⟩
theorem Do(A:Option Addr)(n c:Nat)(xs:List aU)(w:World)(hr:Rd A n 2 (aJ xs) w)(hn:n<=10000)(hs:aE xs<=1000000):Calls Tryz.prog 33 #[.slice A n c] w (fi w (jf xs)):=by
 have QV:=hr.fld;obtain⟨W1,Ne⟩:=bg w (.cells (aF jV).toArray 9);have Ni:=bm Ne;have hO0:aQ w.heap.size (.slice (some ⟨w.heap.size,0,none⟩) 9 9) jV W1:=by rw[<-Ne];exact aQ.new w jV (by decide)
 have Nw:w.alloc (.cells #[.string ⟨#[99,111,110,110,101,99,116,105,111,110]⟩,.string ⟨#[107,101,101,112,45,97,108,105,118,101]⟩,.string ⟨#[112,114,111,120,121,45,99,111,110,110,101,99,116,105,111,110]⟩,.string ⟨#[116,101]⟩,.string ⟨#[116,114,97,105,108,101,114]⟩,.string Da,.string ⟨#[117,112,103,114,97,100,101]⟩,.string ⟨#[112,114,111,120,121,45,97,117,116,104,101,110,116,105,99,97,116,101]⟩,.string ⟨#[112,114,111,120,121,45,97,117,116,104,111,114,105,122,97,116,105,111,110]⟩] 9)=W1:=Ne;have k1:=cX A n c xs ⟨mK.toArray⟩ W1 (hr.below Ni) (by omega) (λf hf=>by have:=bM hf;omega) (by decide);have QS:=cD xs mK;have hvt:=ik xs mK;have hH:kK jV ((af xs mK).take (af xs mK).length)=jf xs:=by rw[eM];rfl
 simp only at k1
 have Uv:(⟨mK.toArray⟩:ByteArray)=⟨#[99,111,110,110,101,99,116,105,111,110]⟩:=rfl;rw[Uv]at k1;generalize jf xs=OY at*;generalize af xs mK=vs at*
 have hlen:∀k,(kK jV (vs.take k)).length<=9+64*10000:=by
  intro k;have h2:=tA (vs.take k) jV;have h4:jV.length=9:=rfl;have h5:(vs.take k).length<=vs.length:=by rw[dm];omega
  omega
 have SN:∀v∈vs,v.length<=1000000:=λv hv=>by have:=cG hv;omega
 have No:∀k(h:k<vs.length),kK jV (vs.take (k+1))=(ax 44 vs[k]).1.foldl fZ (kK jV (vs.take k)):=λk h=>tx Gh jV vs k h
 have Tq:kK jV (vs.take 0)=jV:=rfl;have Vy:vs.length<=10000:=by omega
 obtain⟨Of,Wq,K1,Ox,TX,OR⟩:=eN Nw hO0 k1 hlen SN No;obtain⟨HH,TV⟩:=az hH Tq;clear Ne Nw hO0 k1 QS hvt hlen SN No hH hr hs QV Uv Tq;go_enter Tryz.func33,Tryz.ntmps33
 go_wp2_with fail
 rw[Of.out];refine K1.out.mono ?_;rintro e w2 ⟨a2,c2,rfl,Nz,M9⟩;have hS:fV w.heap.size (.slice (some ⟨w.heap.size,0,none⟩) 9 9) jV a2 vs w2:=⟨Wq.out.below M9,Nz.rd.2,xM.new Wq.out (mf Nz)⟩;have HS:=ah hS;have Nk:=bt Ni M9;clear hS Nz M9 K1 Wq Of;go_wp2_with fail
 go_loopw [14,3] (λi out wr=>∃k:Nat,k<=vs.length/\i=.int .i64 k/\Hid (fV w.heap.size out (kK jV (vs.take k)) a2 vs wr)/\Below w.heap.size w wr) (λi _ _=>vs.length-(intOf i).toNat)
 case atStart=>exact⟨0,a_ _,rfl,by rw[TV.out];exact HS,Nk⟩
 case round=>
  clear HS Nk TV;obtain⟨k,hk,rfl,HO,M_⟩:=hrel;obtain⟨oa,oc,rfl⟩:=HO.out.1.shape;have N5:=Ox.out k;by_cases Nc:k<vs.length
  ·obtain⟨b,o,rfl,hl,c1⟩:=HO.out.2.1.str_at (k:=k) Nc;have Nd:=OR.out k Nc;have hv:=TX.out vs[k] (bQ _);generalize vs[k]=v at*;have k2:=λw=>iJ ⟨v.toArray⟩ 44 w (by rw[aY];exact hv)
   simp only at k2
   have PV:=iF 44 v;have Rw:=ci 44 v;generalize ax 44 v=r at*;obtain⟨ps,er⟩:=r;simp only at Nd PV Rw
   generalize kK jV (vs.take k)=acc at*;have Pb:∀p∈ps,p.length<=1000000:=λp hp=>by have:=cG hp;omega
   have QT:∀m(h:m<ps.length),(ps.take (m+1)).foldl fZ acc=fZ ((ps.take m).foldl fZ acc) ps[m]:=λm h=>tx fZ acc ps m h
   have O4:∀m,((ps.take m).foldl fZ acc).length<=1000000:=by
    intro m;have h1:=rQ (ps.take m) acc;have h2:(ps.take m).length<=ps.length:=by rw[dm];omega
    omega
   have Nn:kK jV (vs.take (k+1))=(ps.take ps.length).foldl fZ acc:=by rw[eM];exact Nd
   have h0:(ps.take 0).foldl fZ acc=acc:=rfl;obtain⟨K2,Wr,Wn,ZW,PW,H0⟩:=eN k2 Pb QT O4 Nn h0;clear k2 Nd hv Rw Pb QT O4 Nn h0 OR TX Ox;go_wp2_with fail
   refine(K2.out _).mono ?_;rintro e w3 ⟨a3,c3,rfl,NN,Na⟩;simp only at NN ⊢
   have Nu:=M_.trans (Na.mono M_.size);have Ob:=ah (HO.out.below Na);have Sx:=ah (HO.out.beside Na NN);clear NN Na M_ HO c1 K2;go_wp2_with fail
   obtain⟨wo,rfl⟩:∃wo:World,wo=wr:=⟨_,rfl⟩;go_loopw [25,3] (λj out wi=>∃m:Nat,m<=ps.length/\j=.int .i64 m/\Hid (fV w.heap.size out ((ps.take m).foldl fZ acc) (some ⟨b,o,none⟩) vs wi)/\Hid (fV w.heap.size out ((ps.take m).foldl fZ acc) a3 ps wi)/\Below w.heap.size w wi) (λj _ _=>ps.length-(intOf j).toNat)
   case atStart=>exact⟨0,a_ _,rfl,by rw[H0.out];exact Ob,by rw[H0.out];exact Sx,Nu⟩
   case round=>
    clear Ob Sx Nu H0;obtain⟨m,hm,rfl,HO,HP,Ql⟩:=hrel;obtain⟨pa,pc,rfl⟩:=HO.out.1.shape;have TU:=ZW.out m;by_cases Qm:m<ps.length
    ·obtain⟨b2,o2,rfl,Nq,c2⟩:=HP.out.2.1.str_at (k:=m) Qm;have Ss:=Wr.out ps[m] (bQ _);have QT:=Wn.out m Qm;generalize ps[m]=p at*;have Q5:(ai p).length<=1000000:=by rw[d_];exact Ss
     have k4:=λw=>ju ⟨p.toArray⟩ w (by rw[aY];exact Ss)
     simp only at k4
     have PT:(ps.take (m+1)).foldl fZ acc=bif be (ai p)&&!((ps.take m).foldl fZ acc).contains (ai p)then(ps.take m).foldl fZ acc++[ai p]else(ps.take m).foldl fZ acc:=QT;clear QT;generalize ai p=q at*;have k5:=λw=>fR ⟨q.toArray⟩ w (by rw[aY];exact Q5)
     simp only at k5
     have UP:∀x,(ps.take (m+1)).foldl fZ acc=x->Hid ((ps.take (m+1)).foldl fZ acc=x):=λx h=>am h
     generalize (ps.take m).foldl fZ acc=ac at*;have Sd:ac.length<=1000000000:=by omega
     have k6:=λ(a:Option Addr)(c:Nat)w h=>oJ a ac.length c ac q w h (by omega)
     cases PK:be q
     ·rw[PK,gN,cond_false]at PT;rw[PK]at k5;obtain⟨HN,K4,K5⟩:=bu PT k4 k5;clear PT k4 k5 k6 UP PK Ss Q5;go_wp2_with fail
      refine(K4.out _).mono ?_;rintro e w4 ⟨rfl,Nf⟩;have Ny:=Ql.trans (Nf.mono Ql.size);have Pj:Hid (fV w.heap.size (.slice pa ac.length pc) ((ps.take (m+1)).foldl fZ acc) (some ⟨b,o,none⟩) vs w4):=by rw[HN.out];exact am (HO.out.below Nf)
      have We:Hid (fV w.heap.size (.slice pa ac.length pc) ((ps.take (m+1)).foldl fZ acc) (some ⟨b2,o2,none⟩) ps w4):=by rw[HN.out];exact am (HP.out.below Nf)
      clear HO HP Nf c2;go_wp2_with fail
      refine(K5.out _).mono ?_;rintro e w5 ⟨rfl,rfl⟩;go_wp2;go_roundw
      case rel=>exact⟨m+1,by omega,by go_num,Pj,We,Ny⟩
      case measure=>simp[intOf];omega
     ·rw[PK]at k5;rw[PK,eJ]at PT
      cases PO:ac.contains q
      ·rw[PO]at k6;rw[PO,iC,cond_true]at PT;obtain⟨HN,K4,K5,K6⟩:=bK PT k4 k5 k6;clear PT k4 k5 k6 UP PK PO Ss Q5;go_wp2_with fail
       refine(K4.out _).mono ?_;rintro e w4 ⟨rfl,Nf⟩;have Ny:=Ql.trans (Nf.mono Ql.size);have Pj:=ah (HO.out.below Nf);have We:=ah (HP.out.below Nf);clear HO HP Nf c2;go_wp2_with fail
       refine(K5.out _).mono ?_;rintro e w5 ⟨rfl,rfl⟩;go_wp2_with fail
       refine(K6.out _ _ _ Pj.out.1.rd.2).mono ?_;rintro e w6 ⟨rfl,rfl⟩;go_wp2_with (at_builtin;refine gq w.heap.size q Pj.out.1 Ny.size Sd rfl _ _ rfl rfl rfl ?_)
       intro v' w7 hO7 NG hfar7;have OE:=Ny.trans NG;have O6:Hid (fV w.heap.size v' ((ps.take (m+1)).foldl fZ acc) (some ⟨b,o,none⟩) vs w7):=by rw[HN.out];exact am (Pj.out.far hO7 hfar7)
       have Zi:Hid (fV w.heap.size v' ((ps.take (m+1)).foldl fZ acc) (some ⟨b2,o2,none⟩) ps w7):=by rw[HN.out];exact am (We.out.far hO7 hfar7)
       clear hO7 NG hfar7 Pj We;go_wp2;go_roundw
       case rel=>exact⟨m+1,by omega,by go_num,O6,Zi,OE⟩
       case measure=>simp[intOf];omega
      ·rw[PO]at k6;rw[PO,di,cond_false]at PT;obtain⟨HN,K4,K5,K6⟩:=bK PT k4 k5 k6;clear PT k4 k5 k6 UP PK PO Ss Q5;go_wp2_with fail
       refine(K4.out _).mono ?_;rintro e w4 ⟨rfl,Nf⟩;have Ny:=Ql.trans (Nf.mono Ql.size);have UQ:=(HO.out.below Nf).1.rd.2;have Pj:Hid (fV w.heap.size (.slice pa ac.length pc) ((ps.take (m+1)).foldl fZ acc) (some ⟨b,o,none⟩) vs w4):=by rw[HN.out];exact am (HO.out.below Nf)
       have We:Hid (fV w.heap.size (.slice pa ac.length pc) ((ps.take (m+1)).foldl fZ acc) (some ⟨b2,o2,none⟩) ps w4):=by rw[HN.out];exact am (HP.out.below Nf)
       clear HO HP Nf c2;go_wp2_with fail
       refine(K5.out _).mono ?_;rintro e w5 ⟨rfl,rfl⟩;go_wp2_with fail
       refine(K6.out _ _ _ UQ).mono ?_;rintro e w6 ⟨rfl,rfl⟩;go_wp2;go_roundw
       case rel=>exact⟨m+1,by omega,by go_num,Pj,We,Ny⟩
       case measure=>simp[intOf];omega
    ·have Sm:m=ps.length:=by omega
     subst Sm;have HN:Hid (fV w.heap.size (.slice pa ((ps.take ps.length).foldl fZ acc).length pc) (kK jV (vs.take (k+1))) (some ⟨b,o,none⟩) vs wr):=by rw[PW.out];exact HO
     clear HO HP Wn ZW PW Wr;go_wp2;go_roundw
     case rel=>exact⟨k+1,by omega,by go_num,HN,Ql⟩
     case measure=>simp[intOf];omega
  ·have NI:k=vs.length:=by omega
   subst NI;have Nn:=HH.out;clear OR TX Ox HH;generalize kK jV (vs.take vs.length)=q at*;subst Nn;go_wp2;go_ret;exact⟨oa,oc,rfl,HO.out.1,M_⟩
theorem DW(acc:List (List UInt8))(vs:List (List UInt8))(k:Nat)(h:k<vs.length):lQ acc (vs.drop k)=bif(ax 44 vs[k]).2==0 then lQ (acc++(ax 44 vs[k]).1) (vs.drop (k+1))else([],4):=by rw[tu h,lQ]
def mS(w:World)(r:List (List UInt8) × Int)(e:Ending)(w':World):Prop:=∃a cap,e=.returned (.tuple #[.slice a r.1.length cap,.int .i64 r.2])/\aQ w.heap.size (.slice a r.1.length cap) r.1 w'/\Below w.heap.size w w'
theorem mS.none{n:Int}(h:Below w.heap.size w w'):mS w ([],n) (.returned (.tuple #[.slice Option.none 0 0,.int .i64 n])) w':=⟨Option.none,0,rfl,aQ.nil _ _,h⟩
theorem wM:∀(vs acc:List (List UInt8)),(lQ acc vs).1.length<=acc.length+64*vs.length/\aT (lQ acc vs).1<=aT acc+aT vs
 | [],acc=>by
  unfold lQ
  cases acc.isEmpty<;>simp[aT]
 |v::r,acc=>by
  have h1:=iF 44 v;have h2:=ci 44 v;unfold lQ
  cases(ax 44 v).2==0
  ·simp[aT]
  ·obtain⟨h3,h4⟩:=wM r (acc++(ax 44 v).1);rw[cond_true];unfold aT at*;simp only[bP,cO,List.sum_append,bw,dG,cg]at*;omega
theorem Dw(A:Option Addr)(n c:Nat)(vs:List (List UInt8))(w:World)(hr:Rd A n 1 (aF vs) w)(hn:n<=100)(hs:∀v∈vs,v.length<=1000000):Calls Tryz.prog 162 #[.slice A n c] w (mS w (fF vs)):=by
 obtain rfl:=hr.str;have hB:=aO w.heap.size w;have hT:lQ [] (vs.drop 0)=fF vs:=rfl;generalize fF vs=OY at*;have Nd:=λacc k h=>DW acc vs k h
 have WI:fV w.heap.size (.slice none 0 0) [] A vs w:=⟨aQ.nil _ _,hr,λ_ g o e x=>by cases x⟩;obtain⟨HS0,OJ,To,XI⟩:=bK WI Nd hT hs;clear hr hs hT Nd WI;go_enter Tryz.func162,Tryz.ntmps162
 go_wp2_with fail
 go_loopw [10,2] (λi out wr=>∃(k:Nat) (acc:List (List UInt8)),k<=vs.length/\i=.int .i64 k/\acc.length<=64*k/\Hid (fV w.heap.size out acc A vs wr)/\Below w.heap.size w wr/\Hid (lQ acc (vs.drop k)=OY)) (λi _ _=>vs.length-(intOf i).toNat)
 case atStart=>exact⟨0,[],a_ _,rfl,by simp,HS0,hB,To⟩
 case round=>
  clear HS0 hB To;obtain⟨k,acc,hk,rfl,Rx,HO,M_,HT⟩:=hrel;obtain⟨oa,oc,rfl⟩:=HO.out.1.shape;by_cases Nc:k<vs.length
  ·obtain⟨b,o,rfl,hl,c1⟩:=HO.out.2.1.str_at (k:=k) Nc;have Nd:=OJ.out acc k Nc;rw[HT.out]at Nd;have hv:=XI.out vs[k] (bQ _);generalize vs[k]=v at*;have k2:=λw=>iJ ⟨v.toArray⟩ 44 w (by rw[aY];exact hv)
   simp only at k2
   have PV:=iF 44 v;generalize ax 44 v=r at*;obtain⟨ps,er⟩:=r;simp only at Nd PV
   obtain⟨K2,U0⟩:=az k2 Nd;clear k2 Nd hv OJ XI HT;go_wp2_with fail
   refine(K2.out _).mono ?_;rintro e w3 ⟨a3,c3,rfl,NN,Na⟩;simp only at NN ⊢
   have Nu:=M_.trans (Na.mono M_.size);have Ob:=ah (HO.out.below Na);have RE:=ah NN.rd.2;have HSep:=ah (HO.out.beside Na NN);clear NN Na M_ HO c1 K2
   cases he:(er==0)
   ·have n1:(er !=0)=true:=by simp[bne,he]
    have ht:=U0.out;rw[he,cond_false]at ht;subst ht;go_wp2;go_ret2
    exact mS.none Nu
   ·have n1:(er !=0)=false:=by simp[bne,he]
    have ht:=U0.out;rw[he,cond_true]at ht;have SV:=ah ht.symm;have N5:acc.length+ps.length<=1000000000:=by omega
    have OW:=ah Ob.out.1;clear U0 ht he;go_wp2_with (at_builtin;refine sW w.heap.size OW.out Nu.size RE.out N5 rfl _ _ rfl rfl rfl ?_)
    intro v' w4 Sw Nf Qj;have WX:=Ob.out.far Sw Qj;have Ny:=Nu.trans Nf;have HS4:=ah WX;have hac4:(acc++ps).length<=64*(k+1):=by rw[bP];omega
    clear WX Sw Nf Qj OW Ob RE HSep;go_wp2;go_roundw
    case rel=>exact⟨k+1,acc++ps,by omega,by go_num,hac4,HS4,Ny,SV⟩
    case measure=>simp[intOf];omega
  ·have NI:k=vs.length:=by omega
   have ht:=HT.out;rw[NI,List.drop_length,lQ]at ht;have NX:=ah ht;have OW:=ah HO.out.1;clear ht HT OJ XI HO NI;by_cases h0:acc=[]
   ·subst h0;have ht:=NX.out;rw[show([]:List (List UInt8)).isEmpty=true from rfl,cond_true]at ht;subst ht;go_wp2;go_ret2
    exact mS.none M_
   ·have hp:0<acc.length:=List.length_pos_iff.2 h0;have t1:((acc.length:Int)==0)=false:=by simp;omega
    have ht:=NX.out;have hie:acc.isEmpty=false:=by cases acc with|nil=>exact absurd rfl h0|cons _ _=>rfl
    rw[hie,cond_false]at ht;subst ht;clear NX hie h0;go_wp2;go_ret2
    exact⟨oa,oc,rfl,OW.out,M_⟩
def gD(w:World):Prop:=(∃tp p,w.var? Tryz.prog "strconv.ErrSyntax"=some #[.iface tp p])/\∃tp p,w.var? Tryz.prog "strconv.ErrRange"=some #[.iface tp p]
theorem vB{P:Program}{name:String}{v:Array Value}(hb:Below w.heap.size w w')(h:w.var? P name=some v):w'.var? P name=some v:=by
 unfold World.var? at*
 cases hg:P.globalNamed name with
 |none=>rw[hg]at h;exact h
 |some g=>
  rw[hg]at h;rcases ef g w.heap.size with h'|h'
  ·show(match w'.heap[g]? with|some (.cells cs _ _)=>some cs|_=>_)=_
   rw[hb.block g h'];exact h
  ·simp[fy h']at h
theorem gD.below(h:gD w)(hb:Below w.heap.size w w'):gD w':=by obtain⟨⟨a,b,h1⟩,c,d,h2⟩:=h;exact⟨⟨a,b,vB hb h1⟩,c,d,vB hb h2⟩
def mB(l:List UInt8):Int:=match Lib.atoiAll l with|.ok n=>n|.range=>Lib.atoiSat l|_=>0
def Ik(l:List UInt8):Bool:=match Lib.atoiAll l with|.ok _=>true|_=>false
def LL(ok:Bool)(v:Value):Prop:=if ok=true then v=.nilIface else ∃t N,v=.iface t (.pointer (some ⟨N,0,none⟩))
theorem sG(s:ByteArray)(w:World)(hE:gD w)(hs:s.size<=1000000):Calls Tryz.prog 85 #[.string s] w λe w'=>∃v,e=.returned (.tuple #[.int .i64 (mB s.data.toList),v])/\LL (Ik s.data.toList) v/\Below w.heap.size w w':=by
 obtain⟨⟨t1,p1,h1⟩,t2,p2,h2⟩:=hE;unfold mB Ik
 cases h:Lib.atoiAll s.data.toList
 ·rename_i n;refine(Tryz.strconv_Atoi_ok s (by omega) n h w).mono ?_;rintro e w' ⟨rfl,hw⟩;refine⟨_,rfl,rfl,?_⟩;rcases hw with rfl|⟨t,rfl⟩
  ·exact aO _ _
  ·exact Lib.bytesWorld_below _ _ _
 ·refine(Tryz.strconv_Atoi_syntax_var s (by omega) h t1 p1 w h1).mono ?_;rintro e w' ⟨N,rfl,_,_,hb⟩;exact⟨_,rfl,⟨_,_,rfl⟩,hb⟩
 ·refine(Tryz.strconv_Atoi_range_var s (by omega) h t2 p2 w h2).mono ?_;rintro e w' ⟨N,rfl,_,_,hb⟩;exact⟨_,rfl,⟨_,_,rfl⟩,hb⟩
def xN:List UInt8:=[13,10,13,10]
theorem Lw:aK++aK=xN:=rfl
theorem sh(c:UInt8)(l:List UInt8)(hp:xN.isPrefixOf (c::l)=false)(h:0<=Lib.index l xN):Lib.index (c::l) xN=Lib.index l xN+1:=by
 conv=>lhs;unfold Lib.index
 rw[if_neg (by rw[hp];decide),if_neg (by rw[beq_iff_eq];omega)]
theorem Ho(a r:List UInt8)(ha:∀c∈a,c≠13)(hr:0<=Lib.index r xN):Lib.index (a++r) xN=a.length+Lib.index r xN:=by
 induction a with
 |nil=>simp
 |cons c a ih=>
  have h1:=ih (λx hx=>ha x (by simp[hx]));have hc:c≠13:=ha c (by simp);rw[mr,sh _ _ (by unfold xN;simp[List.isPrefixOf];intro e;exact absurd e.symm hc) (by omega),h1,cg];omega
theorem Jk(f:aU):∃c r,f.1++([58,32]++f.2)=c::r:=by
 cases h:f.1++([58,32]++f.2)with
 |nil=>simp at h
 |cons c r=>exact⟨c,r,rfl⟩
theorem yv(rest:List UInt8):∀(xs:List aU)(a:List UInt8),(∀f∈xs,fP f)->(∀c∈a,c≠13)->Lib.index (a++(13::10::(cN xs++(13::10::rest)))) xN=a.length+(cN xs).length
 | [],a,_,ha=>by
  have h0:Lib.index (13::10::13::10::rest) xN=0:=by unfold Lib.index;rw[if_pos (by simp[xN,List.isPrefixOf])]
  have e:cN []++(13::10::rest)=13::10::rest:=rfl;rw[e,Ho a _ ha (by rw[h0];decide),h0];simp[cN]
 |f::r,a,hx,ha=>by
  have hf:=(hx f (by simp)).1;have ih:=yv rest r (f.1++([58,32]++f.2)) (λg hg=>hx g (by simp[hg])) (pE hf)
  have e:cN (f::r)++(13::10::rest)=(f.1++([58,32]++f.2))++(13::10::(cN r++(13::10::rest))):=by unfold cN;rw[jk];unfold B4;simp
  have el:(cN (f::r)).length=(f.1++([58,32]++f.2)).length+2+(cN r).length:=by unfold cN;rw[jk];unfold B4;simp;omega
  rw[e];generalize (13::10::(cN r++(13::10::rest)))=X at*;have hn:=pE hf;obtain⟨c,q,hl⟩:=Jk f;rw[hl]at ih el hn ⊢;have hc:c≠13:=hn c (by simp);have h1:Lib.index (10::(c::q++X)) xN=Lib.index (c::q++X) xN+1:=sh _ _ (by simp[xN,List.isPrefixOf]) (by omega);have h2:Lib.index (13::10::(c::q++X)) xN=Lib.index (10::(c::q++X)) xN+1:=sh _ _ (by simp[xN,List.isPrefixOf];intro e;exact absurd e.symm hc) (by omega);rw[Ho a _ ha (by omega)];omega
theorem vR(start body:List UInt8)(xs:List aU)(hs:∀c∈start,c≠13)(hx:bR xs=0)(hl:(start++(aK++(gQ xs++aK))).length<=8192):aD (start++(aK++(gQ xs++aK))++body)=⟨start,gQ xs,body,(start++(aK++(gQ xs++aK))).length,0⟩:=by
 have hg:=((kR xs).1 hx).2;have hp:gQ xs=cN xs:=by unfold gQ;rw[hx];rfl
 rw[hp]at hl ⊢;have e1:start++(aK++(cN xs++aK))++body=start++(13::10::(cN xs++(13::10::body))):=by simp[aK]
 have hlen:(start++(aK++(cN xs++aK))).length=start.length+(cN xs).length+4:=by simp[aK];omega
 rw[hlen]at hl ⊢;rw[e1];obtain⟨m,hm⟩:∃m,8192=start.length+((cN xs).length+(4+m)):=⟨8192-(start.length+(cN xs).length+4),by omega⟩
 have ht:(start++(13::10::(cN xs++(13::10::body)))).take (start.length+((cN xs).length+(4+m)))=start++(13::10::(cN xs++(13::10::body.take m))):=by
  rw[List.take_append,jJ (by omega)]
  congr 1
  rw[show start.length+((cN xs).length+(4+m))-start.length=(((cN xs).length+(2+m))+1)+1 from by omega];rw[qA,qA,List.take_append,jJ (by omega)];rw[show(cN xs).length+(2+m)-(cN xs).length=(m+1)+1 from by omega];rw[qA,qA]
 have hi:=yv (body.take m) xs start hg hs;unfold aD;rw[hm,ht,Lw,hi];rw[show decide ((start.length:Int)+(cN xs).length<0)=false from by simp;omega,cond_false];have hk:((start.length:Int)+(cN xs).length).toNat=start.length+(cN xs).length:=by omega
 simp only[hk]
 have h2:(start++(13::10::(cN xs++(13::10::body)))).take (start.length+(cN xs).length+2)=start++13::10::cN xs:=by
  rw[List.take_append,jJ (by omega)]
  congr 1
  rw[show start.length+(cN xs).length+2-start.length=((cN xs).length+1)+1 from by omega,qA,qA,List.take_append,jJ (by omega)];simp
 have h3:(start++(13::10::(cN xs++(13::10::body)))).drop (start.length+(cN xs).length+4)=body:=by rw[show start++(13::10::(cN xs++(13::10::body)))=(start++(13::10::(cN xs++[13,10])))++body from by simp];refine List.drop_left' ?_;simp;omega
 rw[h2,h3,Am _ _ hs]
theorem CJ(l:List UInt8)(c:UInt8):cx (l++[c])=10*cx l+(c.toNat-48):=by unfold cx;rw[List.foldl_append];rfl
theorem pG(u:Nat):cx (Lib.decDigits u)=u/\(∀c∈Lib.decDigits u,f_ c=true)/\Lib.decDigits u≠[]:=by
 have key:∀n,n<10->(UInt8.ofNat (48+n)).toNat=48+n:=by intro n hn;simp;omega
 induction u using Nat.strongRecOn with
 |_ u ih=>
  rw[Lib.decDigits];by_cases h:u<10
  ·rw[dif_pos h];refine⟨?_,?_,by simp⟩
   ·show 10*0+((UInt8.ofNat (48+u)).toNat-48)=u
    rw[key u h];omega
   ·intro c hc;rw[cA.1 hc];unfold f_;rw[key u h];simp;omega
  ·rw[dif_neg h];obtain⟨h1,h2,h3⟩:=ih (u / 10) (by omega);refine⟨?_,?_,by simp⟩
   ·rw[CJ,h1,key _ (by omega)];omega
   ·intro c hc;rcases eB.1 hc with h'|h'
    ·exact h2 c h'
    ·rw[cA.1 h'];unfold f_;rw[key _ (by omega)];simp;omega
theorem tH(u:Nat):Lib.itoa (u:Int)=Lib.decDigits u:=by unfold Lib.itoa;rw[if_neg (by omega)];simp
theorem vH{c:UInt8}(h:f_ c=true):fL c=true/\(c.toNat==44)=false:=by
 unfold f_ at h;simp at h
 refine⟨?_,by simp;omega⟩;unfold fL kO;simp;omega
theorem EL(u:Nat)(h:u<1000000000000000000):(Lib.decDigits u).length<=18:=by
 rw[Lib.decDigits_length];rcases ef 18 (Lib.nDigits u)with h'|h'
 ·exfalso
  rcases ef u 10 with h1|h1
  ·rw[Lib.nDigits_small h1]at h';omega
  ·have h2:10 ^ (Lib.nDigits u-1)<=u:=by
    have key:∀n v,v<=n->10 ^ (Lib.nDigits v-1)<=v\/v=0:=by
     intro n
     induction n with
     |zero=>intro v hv;right;omega
     |succ n ih=>
      intro v hv;by_cases P5:v<10
      ·rw[Lib.nDigits_small P5];rcases mw v with h|h
       ·right;exact h
       ·left;simp;omega
      ·rw[Lib.nDigits_big P5]
       left
       rcases ih (v / 10) (by omega)with h|h
       ·have hp:=Lib.nDigits_pos (v / 10);rw[show Lib.nDigits (v / 10)+1-1=(Lib.nDigits (v / 10)-1)+1 from by omega,Nat.pow_succ];omega
       ·omega
    rcases key u u (aw _)with h|h
    ·exact h
    ·omega
   have h3:10 ^ 18<=10 ^ (Lib.nDigits u-1):=Nat.pow_le_pow_right (by decide) (by omega);have h4:(10:Nat) ^ 18=1000000000000000000:=by decide
   omega
 ·exact h'
theorem D0(u:Nat):ax 44 (Lib.decDigits u)=([Lib.decDigits u],0):=by
 obtain⟨_,h2,h3⟩:=pG u
 have ht:be (Lib.decDigits u)=true:=by
  unfold be;rw[eA];refine⟨dH.2 (λc hc=>(vH (h2 c hc)).1),?_⟩
  cases hq:Lib.decDigits u with
  |nil=>exact absurd hq h3
  |cons _ _=>rfl
 exact zI ht (λc hc=>(vH (h2 c hc)).2) (by decide) (by decide)
theorem H6(u:Nat)(h:u<1000000000000000000):nM [Lib.itoa (u:Int)]=((u:Int),0):=by
 obtain⟨h1,h2,h3⟩:=pG u;have hl:=EL u h;rw[tH]
 have hp:fF [Lib.decDigits u]=([Lib.decDigits u],0):=by unfold fF lQ;rw[D0];rfl
 unfold nM;rw[hp]
 have hd:iS (Lib.decDigits u)=true:=by unfold iS;rw[decide_eq_true hl,eJ];exact dH.2 h2
 simp[hd,h1]
theorem sP:∀n:Fin 600,100<=n.val->(Lib.itoa (n.val:Int)).length=3/\cx (Lib.itoa (n.val:Int))=n.val/\aZ nJ (Lib.itoa (n.val:Int))=true/\(decide (((Lib.itoa (n.val:Int)).getD 0 0).toNat<49)||decide (53<((Lib.itoa (n.val:Int)).getD 0 0).toNat))=false:=by decide +kernel
theorem rx(c:UInt8)(a b:List UInt8)(h:∀x∈a,x≠c):Lib.cut (a++c::b) [c]=(a,b,true):=by
 have hi:Lib.index (a++c::b) [c]=a.length:=by refine Lib.index_first (by simp) (by rw[Ja];simp) (λj hj=>?_);rw[Ja,List.getElem?_append_left hj,lx hj,beq_eq_false_iff_ne];intro e;exact h _ (bQ hj) (by injection e)
 unfold Lib.cut;rw[hi,if_pos (by omega)];simp
theorem xQ{minor:Int}{bad:Bool}{t:List UInt8}(h:iu minor bad s=(t,0)):bad=false/\0<=minor/\minor<=1/\s.length<=2048/\t=s:=by
 unfold iu at h
 cases h1:(bad||decide (minor<0)||decide (1<minor))
 ·rw[h1,cond_false]at h;simp at h1
  cases h2:decide (2048<s.length)
  ·rw[h2,cond_false]at h;simp at h2
   cases h
   exact⟨h1.1.1,by omega,by omega,h2,rfl⟩
  ·rw[h2]at h;cases h
 ·rw[h1]at h;cases h
theorem Ay{l:List UInt8}(h:aZ nJ l=true):∀c∈l,c≠32/\c≠13:=by
 intro c hc;have:=dH.1 h c hc;constructor
 all_goals rintro rfl
 all_goals exact absurd this (by decide)
theorem EJ{l:List UInt8}(h:aZ iO l=true):∀c∈l,c≠13:=by intro c hc;have:=dH.1 h c hc;rintro rfl;exact absurd this (by decide)
theorem H_{l:List UInt8}(h:aZ fv l=true):∀c∈l,c≠13/\c≠32:=by
 intro c hc;have:=dH.1 h c hc;constructor
 all_goals rintro rfl
 all_goals exact absurd this (by decide)
theorem qR{m:Int}(h0:0<=m)(h1:m<=1):jt false (fO++Lib.itoa m)=(m,0)/\∀c∈fO++Lib.itoa m,c≠13/\c≠32:=by
 rcases(by omega:m=0\/m=1)with rfl|rfl
 ·exact⟨by decide +kernel,by decide +kernel⟩
 ·exact⟨by decide +kernel,by decide +kernel⟩
theorem FH{status minor:Int}{words:List UInt8}(h:ee status words minor=(s,0)):ce s=⟨status,words,minor,0⟩/\(∀c∈s,c≠13)/\100<=status/\status<=599/\0<=minor/\minor<=1:=by
 obtain⟨h1,h2,h3,h4,rfl⟩:=xQ h;simp at h1
 obtain⟨⟨h5,h6⟩,h7⟩:=h1;obtain⟨n,hn,h8⟩:∃n:Nat,status=(n:Int)/\n<600:=⟨status.toNat,by omega,by omega⟩;obtain⟨f1,f2,f3,f4⟩:=sP ⟨n,h8⟩ (by show 100<=n;omega);simp only at f1 f2 f3 f4
 rw[<-hn]at f1 f2 f3 f4;obtain⟨g1,g2⟩:=qR h2 h3;have e:fO++(Lib.itoa minor++([32]++(Lib.itoa status++([32]++words))))=(fO++Lib.itoa minor)++32::(Lib.itoa status++32::words):=by simp
 rw[e]at h4 ⊢;refine⟨?_,?_,by omega,by omega,h2,h3⟩
 ·unfold ce;rw[show decide (2048<((fO++Lib.itoa minor)++32::(Lib.itoa status++32::words)).length)=false from by simp at h4 ⊢;omega,cond_false];rw[rx 32 _ _ (λc hc=>(g2 c hc).2)];simp only
  rw[rx 32 _ _ (λc hc=>(Ay f3 c hc).1)];simp only[h7,f3,f1,di,bne_self_eq_false,Bool.or_self,ig,f4];rw[g1,f2,hn];rfl
 ·intro c hc;rcases eB.1 hc with h'|h'
  ·exact(g2 c h').1
  ·rcases cZ.1 h' with rfl|h'
   ·decide
   ·rcases eB.1 h' with h'|h'
    ·exact(Ay f3 c h').2
    ·rcases cZ.1 h' with rfl|h'
     ·decide
     ·exact EJ h7 c h'
theorem Di{c:UInt8}(h:fL c=true):c≠13/\c≠32:=by constructor<;>rintro rfl<;>exact absurd h (by decide)
theorem Gl{method path:List UInt8}{minor:Int}(h:cy method path minor=(s,0)):wQ s=⟨method,path,minor,0⟩/\(∀c∈s,c≠13):=by
 unfold cy at h;simp only at h
 generalize hd:iu minor (!be method||path.isEmpty||!aZ fv path) (method++([32]++(path++([32]++(fO++Lib.itoa minor)))))=d at h
 cases hp:(d.2==0&&decide (1024<path.length))
 ·rw[hp,cond_false]at h;subst h;obtain⟨h1,h2,h3,h4,rfl⟩:=xQ hd;simp at h1 hp
  obtain⟨⟨h5,h6⟩,h7⟩:=h1;obtain⟨g1,g2⟩:=qR h2 h3;have hw:=(jw h5).1;have e:method++([32]++(path++([32]++(fO++Lib.itoa minor))))=method++32::(path++32::(fO++Lib.itoa minor)):=by simp
  rw[e]at h4 ⊢;constructor
  ·unfold wQ;rw[show decide (2048<(method++32::(path++32::(fO++Lib.itoa minor))).length)=false from by simp at h4 ⊢;omega,cond_false];rw[rx 32 _ _ (λc hc=>(Di (hw c hc)).2)];simp only
   rw[rx 32 _ _ (λc hc=>(H_ h7 c hc).2)];have h6':path.isEmpty=false:=by simpa using h6
   simp only[h7,h5,h6',di,Bool.or_self,g1,beq_self_eq_true,eJ];rw[show decide (1024<path.length)=false from by simp;omega];rfl
  ·intro c hc;rcases eB.1 hc with h'|h'
   ·exact(Di (hw c h')).1
   ·rcases cZ.1 h' with rfl|h'
    ·decide
    ·rcases eB.1 h' with h'|h'
     ·exact(H_ h7 c h').1
     ·rcases cZ.1 h' with rfl|h'
      ·decide
      ·exact(g2 c h').1
 ·rw[hp,cond_true]at h;cases h
theorem C4{start body:List UInt8}{xs:List aU}{len:Int}(h:jP start xs len body=(s,0)):bR (dL xs [fW,je]++gU len)=0/\(start++(aK++(gQ (dL xs [fW,je]++gU len)++aK))).length<=8192/\s=start++(aK++(gQ (dL xs [fW,je]++gU len)++aK))++body:=by
 unfold jP at h;simp only at h
 generalize dL xs [fW,je]++gU len=l at*
 cases h1:(bR l !=0)
 ·rw[h1,cond_false]at h
  cases h2:decide (8192<(start++(aK++(gQ l++aK))).length)
  ·rw[h2,cond_false]at h;simp only[decide_eq_false_iff_not,Nat.not_lt]at h2
   cases h
   exact⟨by simpa using h1,h2,rfl⟩
  ·rw[h2]at h;cases h
 ·rw[h1,cond_true]at h;injection h with _ h
  rw[h]at h1;simp at h1
theorem Ds(xs:List aU)(len:Int):af (dL xs [fW,je]++gU len) fW=(bif decide (0<=len)then [Lib.itoa len]else [])/\af (dL xs [fW,je]++gU len) je=[]:=by
 rw[sD,sD,jZ,jZ];rw[show jF [fW,je] fW=true from by decide,show jF [fW,je] je=true from by decide];unfold gU
 cases decide (0<=len)
 ·exact⟨rfl,rfl⟩
 ·simp only[cond_true,lp];rw[iW,iW];rw[show rX fW (FN,Lib.itoa len)=true from by show(ai FN==ai fW)=true;decide,show rX je (FN,Lib.itoa len)=false from by show(ai FN==ai je)=false;decide];exact⟨rfl,rfl⟩
theorem AF(xs:List aU)(len:Int)(h:len<0)(k:Int):kX (dL xs [fW,je]++gU len) k=⟨k,0,0⟩:=by obtain⟨h1,h2⟩:=Ds xs len;rw[show decide (0<=len)=false from by simp;omega,cond_false]at h1;unfold kX;rw[h1,h2];rfl
theorem Jz(xs:List aU)(n:Nat)(h:n<1000000000000000000)(k:Int):kX (dL xs [fW,je]++gU (n:Int)) k=⟨1,n,0⟩:=by obtain⟨h1,h2⟩:=Ds xs n;rw[show decide (0<=(n:Int))=true from by simp,cond_true]at h1;unfold kX;rw[h1,h2,H6 n h];rfl
theorem AQ{r:lu}(h:co r false=(s,0)):∃xs,ep s false=(⟨r.status,r.reason,r.minor,xs,r.body⟩,s.length,0)/\100<=r.status/\r.status<=599:=by
 unfold co at h;simp only at h
 generalize hl:ee r.status r.reason r.minor=l at h;obtain⟨st,e⟩:=l
 cases h1:(e !=0)
 ·simp only at h
  rw[h1,cond_false]at h;have he:e=0:=by simpa using h1
  subst he;obtain⟨s1,s2,s3,s4,s5,s6⟩:=FH hl
  cases h2:(gV r.status&&!r.body.isEmpty)
  ·rw[h2,cond_false]at h
   cases h3:decide (262144<r.body.length)
   ·rw[h3,cond_false]at h;simp only[decide_eq_false_iff_not,Nat.not_lt]at h3;simp only[cond_false]at h;obtain⟨p1,p2,rfl⟩:=C4 h;generalize hlen:(bif gV r.status then(-1:Int)else(r.body.length:Int))=len at*
    have hf:cC (dL r.fields [fW,je]++gU len) r.status false=bif gV r.status then⟨0,0,0⟩else⟨1,r.body.length,0⟩:=by
     unfold cC
     cases hb:gV r.status
     ·rw[hb,cond_false]at hlen;subst hlen;rw[Jz _ _ (by omega)];show(bif decide (262144<(r.body.length:Int))then(⟨0,0,3⟩:JJ)else⟨1,r.body.length,0⟩)=_
      rw[decide_eq_false (by omega)];rfl
     ·rw[hb,cond_true]at hlen;subst hlen;rw[AF _ _ (by decide)];simp
    have hx:=Az p1;have hh:=vR st r.body _ s2 p1 p2;refine⟨dL r.fields [fW,je]++gU len,?_,s3,s4⟩;unfold ep;simp only[hh,s1,hx,hf];generalize gQ (dL r.fields [fW,je]++gU len)=pl at*
    cases hb:gV r.status
    ·simp only[cond_false];unfold dB;simp only[beq_self_eq_true,cond_true];rw[show decide ((r.body.length:Int)<(r.body.length:Int))=false from by simp];simp;omega
    ·rw[hb,eJ]at h2;have Ol:r.body=[]:=by simpa using h2
     simp only[cond_true];rw[Ol];unfold dB;simp
   ·rw[h3]at h;cases h
  ·rw[h2]at h;cases h
 ·simp only at h
  rw[h1,cond_true]at h;injection h with _ h
  rw[h]at h1;simp at h1
theorem zh{r:oV}{s:List UInt8}(h:cm r=(s,0))(hb:r.body=[])(hm:mn.contains r.method=false):rl s=(⟨r.method,r.target,r.minor,dL r.fields [fW,je],[]⟩,s.length,0):=by
 unfold cm at h;simp only at h
 generalize hl:cy r.method r.target r.minor=l at h;obtain⟨st,e⟩:=l
 cases h1:(e !=0)
 ·simp only at h
  rw[h1,cond_false]at h;have he:e=0:=by simpa using h1
  subst he;obtain⟨s1,s2⟩:=Gl hl;rw[hb,hm]at h;simp only[ic,List.isEmpty_nil,di,Bool.or_self,cond_false]at h;rw[show decide (65536<0)=false from rfl,cond_false]at h;obtain⟨p1,p2,rfl⟩:=C4 h
  have hf:cM (dL r.fields [fW,je]++gU (-1))=⟨0,0,0⟩:=by unfold cM;rw[AF _ _ (by decide)];rfl
  have hx:=Az p1;have hh:=vR st [] _ s2 p1 p2;unfold rl;simp only[hh,s1,hx,hf];have hz:gU (-1)=[]:=rfl;rw[hz,e9];generalize gQ (dL r.fields [fW,je])=pl at*;unfold dB;simp
 ·simp only at h
  rw[h1,cond_true]at h;injection h with _ h
  rw[h]at h1;simp at h1
end Go.Proofs.YtdbjnlkbhhebbaaGreatDoor
