/- Kst, Uri6, Upper, Upper2, Uri7, Capab, DateSpec, DirSpec, TickSpec, SurSpec, FreshSpec, SgSpec, SgLaw, Uri8, Key. -/
import Derived.Test.YtdbjnlkbhhebbaaGreatDoorK01
import Derived.Test.YtdbjnlkbhhebbaaGreatDoorK02
import Derived.Test.YtdbjnlkbhhebbaaGreatDoorK03
import Derived.Test.YtdbjnlkbhhebbaaGreatDoorK05
import Derived.RangeFuncWrites
import Derived.OwnWalkIn
import Derived.TacticsInMore
import Derived.Shelf.Abstract
import Derived.Lib.MakeNoZero
import Derived.Lib.Builder
import Derived.Laws.IdiomCopy
import Derived.Shelf.Strings.Builder2
import Derived.Lib.SlBytesRow
import Derived.Lib.Index
import Derived.Lib.IndexMore
import Derived.Lib.ItoaNum
set_option maxRecDepth 100000
set_option maxHeartbeats 16000000
set_option linter.all false
namespace Go.Proofs.YtdbjnlkbhhebbaaGreatDoor
open Go.RowKit
open Go.RowKit Go.Shelf
def un(B:Nat)(l:Value)(ls:List (List UInt8))(w:World):Prop:=(∃g n,l=.slice (some ⟨g,0,none⟩) n n/\B<=g/\n=ls.length/\∃cur,w.heap[g]?=some (.cells cur 9 (0,0))/\cur.toList.take ls.length=aF ls)\/aQ B l ls w
theorem un.nil(B:Nat)(w:World):un B (.slice none 0 0) [] w:=Or.inr (World.ownsRow_nil _ _ _ _)
theorem un.keep{B:Nat}{l:Value}{ls:List (List UInt8)}{w w':World}(h:un B l ls w)(hk:∀(g:Nat)(cur:Array Value)(z:Nat × Nat),B<=g->w.heap[g]?=some (.cells cur 9 z)->l.ownBlock=some g->w'.heap[g]?=some (.cells cur 9 z)):un B l ls w':=by
 rcases h with⟨g,n,rfl,hg,hn,cur,hh,hc⟩|⟨h1,h2⟩
 ·exact Or.inl ⟨g,n,rfl,hg,hn,cur,hk g cur _ hg hh rfl,hc⟩
 ·refine Or.inr ⟨h1,?_⟩;rcases h2 with h2|⟨g,cap,cur,hv,hg,hh,r⟩
  ·exact Or.inl h2
  ·exact Or.inr ⟨g,cap,cur,hv,hg,hk g cur _ hg hh (by rw[hv];rfl),r⟩
theorem un.rd{B:Nat}{l:Value}{ls:List (List UInt8)}{w:World}(h:un B l ls w):∃A c,l=.slice A ls.length c/\Rd A ls.length 1 (aF ls) w:=by
 rcases h with⟨g,n,rfl,hg,rfl,cur,hh,hc⟩|h
 ·refine⟨_,_,rfl,by rw[fI,Nat.mul_one],λ_=>⟨g,0,rfl,ae hh,λj u hu=>?_⟩⟩;rw[iq];have hj:j<ls.length:=by have:=(mj.1 hu).1;rwa [fI]at this
  have:cur[j]?=some u:=by rw[<-hu,<-hc,List.getElem?_take_of_lt hj,Array.getElem?_toList]
  simp only[World.cell?,hh];exact this
 ·obtain⟨a,c,rfl⟩:=aQ.shape h;exact⟨a,c,rfl,(Rd.of_own h).2⟩
theorem un.room{B n c:Nat}{A:Option Addr}{ls:List (List UInt8)}{w:World}(h:un B (.slice A n c) ls w):n=ls.length/\n<=c/\(A=none->ls=[]):=by
 rcases h with⟨g,n',hv,hg,rfl,cur,hh,hc⟩|h
 ·cases hv;exact⟨rfl,aw _,λe=>by cases e⟩
 ·have h2:=aQ.room h;refine⟨h2.1,h2.2.1,λe=>?_⟩;subst e;rcases mw n with h0|h0
  ·exact mz (by omega)
  ·obtain⟨g,e,_⟩:=h2.2.2 h0;cases e
theorem un.cut{B:Nat}{A:Option Addr}{n c k:Nat}{ls:List (List UInt8)}{w:World}(h:un B (.slice A n c) ls w)(hk:k<=ls.length)(h0:A≠none):un B (.slice A k k) (ls.take k) w:=by
 have key:∀(cur:Array Value) ,cur.toList.take ls.length=aF ls->cur.toList.take (ls.take k).length=aF (ls.take k):=λcur hc=>by
  have e:aF (ls.take k)=(aF ls).take k:=by unfold aF;rw[List.map_take]
  rw[e,<-hc,dm,List.take_take]
 rcases h with⟨g,n',hv,hg,hn,cur,hh,hc⟩|⟨h1,h2⟩
 ·cases hv
  exact Or.inl ⟨g,k,rfl,hg,by rw[dm];omega,cur,hh,key cur hc⟩
 ·rcases h2 with⟨hv,_⟩|⟨g,cap,cur,hv,hg,hh,r1,r2,r3,r4⟩
  ·cases hv;exact absurd rfl h0
  ·cases hv
   rw[Nat.mul_one]at r4;exact Or.inl ⟨g,k,rfl,hg,by rw[dm];omega,cur,hh,key cur r4⟩
theorem GP(B:Nat){w:World}{l:Value}{ls:List (List UInt8)}{b2 o2 c:Nat}{y:List UInt8}(hl:un B l ls w)(hX:w.cell? ⟨b2,o2,none⟩=some (.string ⟨y.toArray⟩))(hB:B<=w.heap.size)(hn:ls.length+1<=1000000)(ty:TypeId):∃l' w1,(Builtin.append_ #[30,30] ty #[l,.slice (some ⟨b2,o2,none⟩) 1 c]).run Tryz.prog w=.ok l' w1/\aQ B l' (ls++[y]) w1/\Below B w w1/\pD w w1 l l':=by
 obtain⟨i0,hi,N_,NZ,N6⟩:=info_parts IF
 have Xu:∀j u,(aF [y])[j]?=some u->w.cell? ((⟨b2,o2,none⟩:Addr).add j)=some u:=λj u hu=>by
  have hj:j=0:=by have:=(mj.1 hu).1;simp[aF]at this;exact this
  subst hj;have e:(⟨b2,o2,none⟩:Addr).add 0=⟨b2,o2,none⟩:=by unfold Addr.add;split<;>simp_all
  rw[e,hX,<-hu];rfl
 have fin:∀v' w1,w1.ownsRow B 9 1 v' (ls.length+1) (aF ls++aF [y])->aQ B v' (ls++[y]) w1:=λv' w1 h1=>by unfold aQ;rw[bP,cO];exact h1
 rcases hl with⟨g,n,rfl,hg,rfl,cur,hh,hc⟩|hl
 ·have holds:∀j u,(aF ls)[j]?=some u->w.cell? ((⟨g,0,none⟩:Addr).add j)=some u:=λj u hu=>by
   have e:(⟨g,0,none⟩:Addr).add j=⟨g,j,none⟩:=by unfold Addr.add;split<;>simp_all
   have hj:j<ls.length:=by have:=(mj.1 hu).1;rwa [fI]at this
   have:cur[j]?=some u:=by rw[<-hu,<-hc,List.getElem?_take_of_lt hj,Array.getElem?_toList]
   rw[e];simp only[World.cell?,hh];exact this
  obtain⟨v',w',NQ,r1,r2⟩:=run_append_arg_grows (P:=Tryz.prog) w 30 ty 9 i0 (.string ByteArray.empty) 1 16 Tryz.underlying30 hi N_ NZ N6 rfl (by decide) ⟨g,0,none⟩ ls.length ls.length (aF ls) (by rw[fI,Nat.mul_one]) holds ⟨b2,o2,none⟩ 1 c (aF [y]) rfl Xu (by omega) (by unfold maxLen;omega) (by omega)
  have hw:=fin v' w' (by
   have:=aQ.base (ls:=ls++[y]) (B:=w.heap.size) (by unfold aQ;rw[bP,cO];exact r1) hB;unfold aQ at this;rw[bP,cO]at this;exact this)
  refine⟨v',w',NQ,hw,(aO B w).grown r2 hB (λk hk=>by cases hk),⟨⟨r2.os,r2.tape,r2.output,r2.size,λk hk _=>r2.block k hk (by simp)⟩,Or.inr λg' e=>?_⟩⟩;rcases r1.2 with⟨rfl,_⟩|⟨g2,_,_,rfl,N8,_⟩
  ·cases e
  ·cases e;exact N8
 ·obtain⟨v',w',NQ,h2,h3,_,h5⟩:=run_append_own_at (P:=Tryz.prog) w B 30 ty 9 i0 (.string ByteArray.empty) 1 16 Tryz.underlying30 hi N_ NZ N6 rfl (by decide) l ls.length (aF ls) hl ⟨b2,o2,none⟩ 1 c (aF [y]) rfl Xu (ox [y]) (by unfold maxLen;omega) (by omega) hB;refine⟨v',w',NQ,fin v' w' h2,(aO B w).grown h3 hB (λk hk=>(World.ownsRow.lt hl k hk).1),⟨h3,?_⟩⟩;rcases h5 with h|h
  ·exact Or.inl h
  ·refine Or.inr λg hg=>?_
   rw[h]at hg;have:=lv hg;omega
theorem Ed{F:Fence}{m:Nat}{ops:Array Oper}{rest:List Oper}{o:Oper}{a:Act}{Q:Exit->Act->World->Prop}(B:Nat){l:Value}{b2 o2 c:Nat}{ls:List (List UInt8)}{y:List UInt8}{w:World}(hl:un B l ls w)(hX:w.cell? ⟨b2,o2,none⟩=some (.string ⟨y.toArray⟩))(hB:B<=w.heap.size)(hn:ls.length+1<=1000000)(Ot:o.guard=none)(s x:Operand)(ho:o.op=.call { callee:=.builtin .append,args:=#[s,x],argTypes:=#[30,30] })(hs:a.eval s=l)(hx:a.eval x=.slice (some ⟨b2,o2,none⟩) 1 c)(hK:∀l' w1,aQ B l' (ls++[y]) w1->Below B w w1->pD w w1 l l'->wpListIn F m Tryz.prog ops Q rest (a.put o.dst l') w1):wpListIn F m Tryz.prog ops Q (o::rest) a w:=by
 obtain⟨l',w1,NQ,h1,h2,h3⟩:=GP B (c:=c) hl hX hB hn o.type;refine wpListIn_plain Ot λK UI=>?_
 unfold Oper.wpIn;refine⟨?_,?_⟩
 ·simp[Oper.about,ho,resolve,Target.leads,Sem.run_pure]
 ·rw[Oper.semAt_plain F _ _ (by rw[ho];intro c RZ;cases RZ)];simp[execOp,ho,resolve,invoke,builtin,hs,hx,NQ,Result.andThen]
  exact UI _ _ (hK l' w1 h1 h2 h3)
theorem Fs(A:Option Addr)(c:Nat)(ls:List (List UInt8))(sep:ByteArray)(w:World)(h:Rd A ls.length 1 (aF ls) w)(hc:ls.length<=c)(h1:ls.length<=1000000)(h2:aT ls+ls.length*sep.size<=100000000000):Calls Tryz.prog 179 #[.slice A ls.length c,.string sep] w λe w'=>e=.returned (.string ⟨(Lib.join ls sep.data.toList).toArray⟩)/\Below w.heap.size w w':=by
 cases ls with
 |nil=>
  refine(Tryz.strings_Join_none A c sep w).mono ?_;rintro e w' ⟨rfl,rfl⟩;exact⟨rfl,aO _ _⟩
 |cons x r=>
  obtain⟨g,o,rfl,Qh,UG⟩:=h.2 (by simp)
  have Pg:((x::r).map λl=>(⟨l.toArray⟩:ByteArray)).map (·.data.toList)=x::r:=by
   rw[List.map_map];have:((λb:ByteArray=>b.data.toList) ∘ λl:List UInt8=>(⟨l.toArray⟩:ByteArray))=id:=by funext l;simp
   rw[this,List.map_id]
  have hj:=nD sep.data.toList (x::r);rw[<-aY]at hj
  have k:=Tryz.strings_Join g o c ((x :: r).map fun l=>(⟨l.toArray⟩:ByteArray)) sep w (by
   intro j y hy;obtain⟨hj1,Uk⟩:=mj.1 hy;have hj3:j<(x::r).length:=by simpa using hj1
   rw[UG j (.string ⟨((x::r)[j]).toArray⟩) (by unfold aF;rw[List.getElem?_map,lx hj3];rfl),<-Uk,List.getElem_map]) Qh (by rw[eE];omega) (by rw[eE];omega) (by rw[Pg];omega)
  rw[Pg,eE]at k;exact k
attribute [local go_sem] Oper.semAt_some
def qY(w:World)(pre:List (List UInt8))(W:World):Prop:=∃v,W.heap[w.heap.size]?=some (.cells #[v] 30 (0,0))/\un (w.heap.size+5) v (pre.foldl gW []) W/\W.heap[w.heap.size+1]?=some (.cells #[.string ⟨(pre.getLastD []).toArray⟩] 9 (0,0))/\Below w.heap.size w W/\w.heap.size+5<=W.heap.size
theorem qY.own{w:World}{B:Nat}(hB:w.heap.size<=B):OwnFrom B (qY w):=by
 rintro pre W W' row ⟨v,h1,h2,h3,h4,h5⟩ hg hr
 have Ng:∀(b:Nat)(cur:Array Value)(e:TypeId)(fz:Nat × Nat),W.heap[b]?=some (.cells cur e fz)->W'.heap[b]?=some (.cells cur e fz):=by
  intro b cur e fz hb
  rw[hg.block b (ae hb) (fun x=>by obtain⟨_,o,ho,hc⟩:=hr b x.symm;rw[hb]at ho;cases ho;cases hc)]
  exact hb
 exact⟨v,Ng _ _ _ _ h1,h2.keep (λg cur z _ hh _=>Ng _ _ _ _ hh),Ng _ _ _ _ h3,h4.trans ((aO w.heap.size W).grown hg h4.size (λk hk=>bj hB (hr k hk).1)),bj h5 hg.size⟩
theorem qY.set{w:World}{pre:List (List UInt8)}{W:World}(v:Value)(h:qY w pre W):qY w pre (W.setCell ⟨w.heap.size+2,0,none⟩ v):=by obtain⟨u,h1,h2,h3,h4,h5⟩:=h;refine⟨u,(fE _ _ _ _ (by show w.heap.size≠w.heap.size+2;omega)).trans h1,h2.keep (λg cur z hB hh _=>(fE _ _ _ _ (by show g≠w.heap.size+2;omega)).trans hh),(fE _ _ _ _ (by show w.heap.size+1≠w.heap.size+2;omega)).trans h3,h4.setCell (p:=⟨w.heap.size+2,0,none⟩) (by show _<=w.heap.size+2;omega) _,by simpa using h5⟩
theorem qY.put{w W:World}{v v':Value}{pre:List (List UInt8)}(h1:W.heap[w.heap.size]?=some (.cells #[v] 30 (0,0)))(h2:un (w.heap.size+5) v' (pre.foldl gW []) W)(h3:W.heap[w.heap.size+1]?=some (.cells #[.string ⟨(pre.getLastD []).toArray⟩] 9 (0,0)))(h4:Below w.heap.size w W)(h5:w.heap.size+5<=W.heap.size):qY w pre (W.setCell ⟨w.heap.size,0,none⟩ v'):=⟨v',lG h1,h2.keep (λg cur z hB hh _=>(fE _ _ _ _ (by show g≠w.heap.size;omega)).trans hh),(fE _ _ _ _ (by show w.heap.size+1≠w.heap.size;omega)).trans h3,h4.setCell (p:=⟨w.heap.size,0,none⟩) (aw _) _,by simpa using h5⟩
theorem uI(pre:List (List UInt8))(x:List UInt8):(pre++[x]).foldl gW []=gW (pre.foldl gW []) x:=by rw[List.foldl_append];rfl
theorem p_(pre:List (List UInt8))(x:List UInt8):(pre++[x]).getLastD []=x:=by simp
theorem yP:∀(ps kept:List (List UInt8)),(ps.foldl gW kept).length<=kept.length+ps.length
 | [],_=>aw _
 |p::r,kept=>by
  have h:=yP r (gW kept p)
  have h2:(gW kept p).length<=kept.length+1:=by
   unfold gW
   cases(p==pJ)<;>cases(p==lk)<;>simp only[cond_true,cond_false]
   ·simp
   ·rw[dm];omega
   ·omega
   ·omega
  rw[List.foldl_cons,cg];omega
def Lf(path:ByteArray)(b:Nat)(x:List UInt8):Act:={ tmps:=#[.string path,undef,.string ⟨#[]⟩,.pointer (some ⟨b,0,none⟩),.pointer (some ⟨b+1,0,none⟩),.string ⟨x.toArray⟩,undef,undef,.string path,.bool true,.bool false,.string path,.string (path.extract 1 path.size),.func (.func 391) #[] #[.pointer (some ⟨b+2+1,0,none⟩),.pointer (some ⟨b+2,0,none⟩),.pointer (some ⟨b+2+1+1,0,none⟩)],.string ⟨x.toArray⟩,undef,undef,undef,undef,undef,undef,undef,undef,undef,undef,undef,undef,undef,undef,undef,undef,undef,undef,undef,undef,undef,undef,undef,undef,undef,undef,undef,undef,undef,undef,undef,undef,undef,undef,undef],defers:=[] }
theorem EZ(path:ByteArray)(w:World)(hM:cq w)(hs:path.size<=10000):Calls Tryz.prog 177 #[.string path] w λe w'=>e=.returned (.string ⟨(nf path.data.toList).toArray⟩)/\Below w.heap.size w w':=by
 have kh:=λW=>Tryz.strings_HasPrefix path ip W
 rw[show(ip:ByteArray).data.toList=[47]from rfl,show Lib.hasPrefix path.data.toList [47]=([47]:List UInt8).isPrefixOf path.data.toList from rfl,mW]at kh;obtain⟨V,hV⟩:=aH (nf path.data.toList);rw[hV];unfold nf at hV;refine(callsIn_wide (n:=6)).1 ?_;refine callsIn_of_wp_marks Tryz.func177 rfl trivial ?_ rfl;simp only[Tryz.ntmps177,List.size_toArray,cg,ic,Nat.reduceAdd,Nat.reduceSub,Array.replicate_succ,Array.replicate_zero,List.push_toArray,List.append_toArray,lp,mr]
 cases h47:(path.data.toList.headD 0 !=47)
 rotate_left
 ·rw[h47]at kh hV;rw[cond_true]at hV;subst hV;have KH:=ah kh;clear kh
  gi_wp2_with (refine⟨trivial,?_⟩;gi_at_call 34;refine(callsIn_wide.2 (KH.out _)).mono ?_;rintro e w3 ⟨rfl,rfl⟩)
  exact⟨_,results_tmp rfl _ _ _,rfl,aO _ _⟩
 ·rw[h47]at kh hV;rw[cond_false]at hV;simp only at hV
  have h1:1<=path.size:=by
   rcases mw path.size with h|h
   ·rw[eQ path (by omega)]at h47;cases h47
   ·exact h
  obtain⟨W2,Nw⟩:=aH ((w.alloc Jv).alloc BF);have Nk:Below w.heap.size w W2:=by rw[<-Nw];exact((aO _ w).alloc (aw _) _).alloc (by simp) _
  have z2:W2.heap.size=w.heap.size+2:=by rw[<-Nw];simp
  have hL:W2.heap[w.heap.size+1]?=some (.cells #[.string ⟨#[]⟩] 9 (0,0)):=by rw[<-Nw];have:=World.alloc_heap_new (w.alloc Jv) BF;rw[World.size_alloc]at this;exact this
  have hK:W2.heap[w.heap.size]?=some (.cells #[.slice none 0 0] 30 (0,0)):=by rw[<-Nw];exact(gG _ _ _ (by simp)).trans (World.alloc_heap_new w _)
  have ks:=xl (path.extract 1 path.size) W2;have hx:(path.extract 1 path.size).data.toList=path.data.toList.drop 1:=fe path 1;rw[z2,hx]at ks;have Pb:(path.data.toList.drop 1).length<=10000:=by rw[gH,<-aY];omega
  generalize path.data.toList.drop 1=s at*;obtain⟨KH,KS,Of⟩:=bu kh ks Nw;clear kh ks Nw;have n1:(1:Int)<=path.size:=by omega
  gi_wp2_with (refine⟨trivial,?_⟩;gi_at_call 34;refine(callsIn_wide.2 (KH.out _)).mono ?_;rintro e w3 ⟨rfl,rfl⟩)
  rw[Of.out];refine⟨trivial,?_⟩;refine(callsIn_wide.2 KS.out).mono ?_;rintro e w4 ⟨rfl,WX,Nf,z4⟩;have Ny:Below w3.heap.size w3 w4:=Nk.trans (Nf.mono (by omega));have Vn:=(Nf.block w3.heap.size (by omega)).trans hK;have hL4:=(Nf.block (w3.heap.size+1) (by omega)).trans hL;have hI:qY w3 [] w4:=⟨_,Vn,un.nil _ _,hL4,Ny,by omega⟩;have hsq:=Ah (w3.heap.size+2) s w4 (hM.below Ny) WX (by omega) (by have:=hM.1;omega) 5 (by decide);have HSQ:=ah hsq
  have N9:∀b∈[w3.heap.size+2,w3.heap.size+2+1,w3.heap.size+2+1+1,0],b<w4.heap.size:=by
   intro b hb;have:=(hM.below Ny).1;simp at hb
   rcases hb with rfl|rfl|rfl|rfl<;>omega
  clear KH KS Of hK hL Vn hL4 hsq WX Nf
  gi_wp2
  refine EO rfl (by decide) (gf:=391) (lb:=#[.pointer (some ⟨w3.heap.size+2+1,0,none⟩),.pointer (some ⟨w3.heap.size+2,0,none⟩),.pointer (some ⟨w3.heap.size+2+1+1,0,none⟩)]) rfl trivial (enters_of Tryz.func391 (by kernel_rfl) rfl)
   HSQ.out N9 (by omega) (λ_=>rfl) (qY w3) (qY.own (by omega)) (λ_ _ _ h=>h.set _) hI (λx a' _=>a'=Lf path w3.heap.size x) (λ_ _ _ _ _ _ hs _ _=>hs) ?assign ?body ?done
  case assign=>
   rintro l pre x W K hI hK
   gi_wp2
   exact hK _ _ (KeepsFrom.refl _ _) (qM.refl _ _) hI rfl
  case body=>
   rintro l pre x a' W hl ⟨v,h1,h2,h3,h4,h5⟩ rfl Nc;unfold Lf;have e0:=aS h1 0;have e0f:=(ab h1 0).2.1;have e1:=aS h3 0;have e1f:=(ab h3 0).2.1;have QI:=hM.1;have h1a:=(fE W ⟨w3.heap.size+1,0,none⟩ (.string ⟨x.toArray⟩) w3.heap.size (by show w3.heap.size≠w3.heap.size+1;omega)).trans h1;have VG:un (w3.heap.size+5) v (pre.foldl gW []) (W.setCell ⟨w3.heap.size+1,0,none⟩ (.string ⟨x.toArray⟩)):=h2.keep (λg cur z hB hh _=>(fE _ _ _ _ (by show g≠w3.heap.size+1;omega)).trans hh);have XN:(W.setCell ⟨w3.heap.size+1,0,none⟩ (.string ⟨x.toArray⟩)).heap[w3.heap.size+1]?=some (.cells #[.string ⟨x.toArray⟩] 9 (0,0)):=lG h3;have Xx:=h4.setCell (p:=⟨w3.heap.size+1,0,none⟩) (by show _<=w3.heap.size+1;omega) (.string ⟨x.toArray⟩);have ZB:w3.heap.size+5<=(W.setCell ⟨w3.heap.size+1,0,none⟩ (.string ⟨x.toArray⟩)).heap.size:=by simpa using h5
   have kpa:qM [w3.heap.size+2,w3.heap.size+2+1,w3.heap.size+2+1+1,0] W (W.setCell ⟨w3.heap.size+1,0,none⟩ (.string ⟨x.toArray⟩)):=qM.set (by simp);have kfa:KeepsFrom w4.heap.size W (W.setCell ⟨w3.heap.size+1,0,none⟩ (.string ⟨x.toArray⟩)):=(KeepsOthers.setCell W ⟨w3.heap.size+1,0,none⟩ _).from _
   have TJ:w3.heap.size ∉ [w3.heap.size+2,w3.heap.size+2+1,w3.heap.size+2+1+1,0]:=by intro hm;simp only[cZ,List.not_mem_nil,or_false]at hm;omega
   clear h1 h2 h3 h4 h5;by_cases q1:x=[46]
   ·subst q1
    gi_wp2
    refine⟨kfa,kpa,v,h1a,?_,?_,Xx,ZB⟩
    ·rw[uI];exact VG
    ·rw[p_];exact XN
   have hsf:=(iQ s).1;have PV:=yP pre [];have Oj:=uI pre x;obtain⟨ks,Uy⟩:=aH (pre.foldl gW []);rw[Uy]at Oj VG PV;have PS:ks.length<=20000:=by simp at PV;omega
   clear PV hsf;by_cases q2:x=[46,46]
   ·subst q2;have SZ:(pre++[[46,46]]).foldl gW []=ks.take (ks.length-1):=Oj;obtain⟨A,c,rfl,hr⟩:=VG.rd;obtain⟨r1,r2,r3⟩:=VG.room
    have hcut:un (w3.heap.size+5) (.slice A (ks.length-1) (ks.length-1)) (ks.take (ks.length-1)) (W.setCell ⟨w3.heap.size+1,0,none⟩ (.string ⟨#[46,46]⟩)):=by
     by_cases hA:A=none
     ·have:=r3 hA;subst hA this;exact un.nil _ _
     ·exact VG.cut (by omega) hA
    generalize hn:ks.length-1=n at*;have m1:IntKind.i64.wrap ((ks.length:Int)-1)=(ks.length:Int)-1:=by rw[b_];omega
    have m2:max (0:Int) ((ks.length:Int)-1)=(n:Int):=by omega
    have m3:(n:Int)<=(c:Int):=by omega
    have m4:n<=c:=by omega
    have HK:=ah (qY.put h1a (v':=.slice A n n) (pre:=pre++[[46,46]]) (by rw[SZ];exact hcut) (by rw[p_];exact XN) Xx ZB);have HP:=ah (kpa.trans (qM.set (b:=w3.heap.size) (j:=0) (v:=.slice A n n) TJ));have HF:=ah (show KeepsFrom w4.heap.size W ((W.setCell ⟨w3.heap.size+1,0,none⟩ (.string ⟨#[46,46]⟩)).setCell ⟨w3.heap.size,0,none⟩ (.slice A n n))from((KeepsOthers.setCell W ⟨w3.heap.size+1,0,none⟩ _).trans (KeepsOthers.setCell _ ⟨w3.heap.size,0,none⟩ _)).from _);clear h1a VG XN Xx ZB kpa kfa hcut Oj SZ hr r1 r2 r3 Uy hn
    gi_wp2
    exact⟨HF.out,HP.out,HK.out⟩
   ·have q3:(x==[46])=false:=by simpa using q1
    have q4:(x==[46,46])=false:=by simpa using q2
    have SZ:(pre++[x]).foldl gW []=ks++[x]:=by rw[Oj];unfold gW;rw[show(x==pJ)=false from q3,show(x==lk)=false from q4];rfl
    obtain⟨A,c,rfl,-⟩:=VG.rd;obtain⟨Wb,Tf⟩:=aH ((W.setCell ⟨w3.heap.size+1,0,none⟩ (.string ⟨x.toArray⟩)).alloc (.cells #[.string ⟨x.toArray⟩] 9));have N5:∀g o,(W.setCell ⟨w3.heap.size+1,0,none⟩ (.string ⟨x.toArray⟩)).heap[g]?=some o->Wb.heap[g]?=some o:=λg o hh=>by rw[<-Tf];exact(gG _ _ _ (ae hh)).trans hh
    have h2b:un (w3.heap.size+5) (.slice A ks.length c) ks Wb:=VG.keep (λg cur z _ hh _=>N5 _ _ hh)
    have hX:Wb.cell? ⟨W.heap.size,0,none⟩=some (.string ⟨x.toArray⟩):=by rw[<-Tf];have:=cK (W.setCell ⟨w3.heap.size+1,0,none⟩ (.string ⟨x.toArray⟩)) #[.string ⟨x.toArray⟩] 9 (0,0) 0;simpa using this
    have h1b:=N5 _ _ h1a;have h3b:=N5 _ _ XN;have h4b:Below w3.heap.size w3 Wb:=by rw[<-Tf];exact Xx.alloc Xx.size _
    have h5b:w3.heap.size+5<=Wb.heap.size:=by rw[<-Tf];simp at ZB ⊢;omega
    have kpb:qM [w3.heap.size+2,w3.heap.size+2+1,w3.heap.size+2+1+1,0] W Wb:=kpa.trans (by
     rw[<-Tf]
     exact qM.below ((aO _ _).alloc (aw _) _) (fun b hb=>by simp only[cZ,List.not_mem_nil,or_false]at hb;omega))
    have kfb:KeepsOthers W Wb:=by rw[<-Tf];exact(KeepsOthers.setCell W ⟨w3.heap.size+1,0,none⟩ _).trans (KeepsOthers.alloc _ _)
    obtain⟨H2B,HX,HWb⟩:=bu h2b hX Tf;clear h1a VG XN Xx ZB kpa kfa N5 Uy Oj hX Tf;have QF:ks.length+1<=1000000:=by omega
    gi_wp2_with (gi_at_builtin;rw[HWb.out];refine Ed (b2:=W.heap.size) (o2:=0) (w3.heap.size+5) H2B.out HX.out h5b QF rfl _ _ rfl rfl rfl ?_;intro v' w5 hO Ns hf5;obtain⟨va,vc,rfl⟩:=aQ.shape hO;have h1c:=(Ns.block w3.heap.size (by omega)).trans h1b;have t0:=(ab h1c 0).1;have t1:=(ab h1c 0).2.1)
    have h3c:=(Ns.block (w3.heap.size+1) (by omega)).trans h3b;have OA:(ks++[x]).length=ks.length+1:=by simp
    have HK:=qY.put h1c (v':=.slice va (ks++[x]).length vc) (pre:=pre++[x]) (by rw[SZ];exact Or.inr hO) (by rw[p_];exact h3c) (h4b.trans (Ns.mono (by omega))) (bj h5b Ns.size)
    have HP:=(kpb.trans ⟨Ns.size,fun b hb=>Ns.block b (by
     simp only[cZ,List.not_mem_nil,or_false]at hb;omega)⟩).trans (qM.set (b:=w3.heap.size) (j:=0) (v:=.slice va (ks++[x]).length vc) TJ)
    have HF:KeepsFrom w4.heap.size W (w5.setCell ⟨w3.heap.size,0,none⟩ (.slice va (ks++[x]).length vc)):=by
     refine((kfb.trans (KeepsOthers.of_grownBy hf5.1 (λj o hj ho=>?_))).trans (KeepsOthers.setCell _ ⟨w3.heap.size,0,none⟩ _)).from _;rcases H2B.out with⟨g,n',hv,_,_,cur,hh,_⟩|h
     ·cases hv;cases hj;rw[hh]at ho;cases ho;rfl
     ·rcases h.2 with⟨hv,_⟩|⟨g,cp,cur,hv,_,hh,_⟩
      ·rw[hv]at hj;cases hj
      ·rw[hv]at hj;cases hj;rw[hh]at ho;cases ho;rfl
    rw[OA]at HK HP HF;exact⟨HF,HP,HK⟩
  case done=>
   rintro D W hD ⟨v,h1,h2,h3,h4,h5⟩ hK;have hsf:=(iQ s).1;have T9:=nC (bO s) [];have WW:eL []=0:=rfl;have hmk:eL (bO s)=s.length+1:=hsf;obtain⟨A,c,rfl,hr⟩:=h2.rd;obtain⟨-,r2,-⟩:=h2.room;have Oh:Below w3.heap.size w3 W:=h4;generalize (bO s).foldl gW []=ks at*;generalize (bO s).getLastD []=ls at*;have SN:aT ks+ks.length=eL ks:=rfl;have kj:=Fs A c ks ip W hr r2 (by omega) (by rw[show(ip:ByteArray).size=1 from rfl];omega);rw[show(ip:ByteArray).data.toList=[47]from rfl]at kj;have Qd:=nD [47] ks;generalize Lib.join ks [47]=jn at*;have e0:=aS h1 0;obtain⟨H1,H3,KJ⟩:=bu h1 h3 kj;have hjl2:jn.length<=100000:=by simp at Qd;omega
   clear h1 h3 h2 hr kj hsf T9 WW hmk SN Qd
   gi_wp2_with (refine⟨trivial,?_⟩;gi_at_call 179;refine(callsIn_wide.2 KJ.out).mono ?_;rintro e w5 ⟨rfl,Ns⟩;have t0:=(ab ((Ns.block w3.heap.size (by omega)).trans H1.out) 0).1;have t1:=(ab ((Ns.block (w3.heap.size+1) (by omega)).trans H3.out) 0).1;simp only[cT,cS]at t0 t1)
   all_goals
    have hK5:=(Ns.block D (ae hK)).trans hK;refine⟨by simp,.inl ⟨_,_,rfl,run_takeDeferred hK5,_,results_tmp rfl _ _ _,?_,(h4.trans (Ns.mono h4.size)).trans (belowK_b (w:=w3) (aw _) w5 D _ _ (by omega) hK5 rfl rfl)⟩⟩;refine congrArg (λb=>Ending.returned (Value.string b)) (dE _ _ ?_);rw[<-hV];clear hV
    first|(simp_all [pJ,lk];done)|(rw[show(ls==pJ)=false from by simpa[pJ]using ‹¬ls=[46]›,show(ls==lk)=false from by simpa[lk]using ‹¬ls=[46,46]›];simp)
theorem Cj(B b n:Nat)(w:World)(hB:B<=b)(Np:w.heap[b]?=some (.cells #[.pointer (some ⟨b,0,none⟩),.slice none 0 0] 251 (0,0)))(Ph:B<=w.heap.size)(hn:n<=1000000):Calls Tryz.prog 341 #[.pointer (some ⟨b,0,none⟩),.int .i64 n] w λe w'=>e=.returned (.tuple #[])/\(Lib.BuilderAt 251 5 B b (.pointer (some ⟨b,0,none⟩)) [] w'/\Below B w w'):=by
 obtain⟨cs,NQ,hle,US⟩:=Lib.run_makeNoZero (P:=Tryz.prog) w.drew #[3] 168 5 Tryz.underlying168 n (by omega)
 have hw:IntKind.i64.wrap (IntKind.i64.wrap 0+(n:Int))=n:=by rw[b_,b_];omega
 have hcall:(callFunc 396 #[.int .i64 (IntKind.i64.wrap (IntKind.i64.wrap 0+(n:Int)))]).run Tryz.prog w.drew=.ok (.value (.slice (some ⟨w.drew.heap.size,0,none⟩) n cs.size)) (w.drew.drew.drew.alloc (.cells cs 5)):=by rw[hw,run_callFunc_extern Tryz.func396 (by kernel_rfl) (by kernel_rfl) (by kernel_rfl) (e:=Extern.BytealgMakeNoZero.makeNoZero #[3] #[168]) (by kernel_rfl),NQ];rfl
 have Nc:b<w.heap.size:=by
  rcases ef b w.heap.size with h'|h'
  ·exact h'
  ·simp[fy h']at Np
 have c1:w.drew.cell? ⟨b,1,none⟩=some (.slice none 0 0):=by have:w.drew.heap[b]?=_:=Np;rw[Lib.cell_of_heap this];rfl
 have c2:(w.alloc (.cells cs 5)).cell? ⟨b,1,none⟩=some (.slice none 0 0):=by have:(w.alloc (.cells cs 5)).heap[b]?=_:=(Lib.alloc_old w _ b Nc).trans Np;rw[Lib.cell_of_heap this];rfl
 have f2:(w.alloc (.cells cs 5)).frozen? ⟨b,1,none⟩=false:=Lib.frozen_of_heap ((Lib.alloc_old w _ b Nc).trans Np) 1
 have hcopy:∀W:World,(Builtin.copy_ #[168,168] 3 #[.slice (some ⟨w.heap.size,0,none⟩) 0 cs.size,.slice none 0 0]).run Tryz.prog W=.ok (goInt 0) W:=λW=>run_copy_none W 168 168 3 5 _ _ 0 cs.size 0 0 Tryz.underlying168 (by kernel_rfl) rfl
 clear hw;have mixed:Tryz.prog.follows Departure.mixedOrders=true:=by kernel_rfl
 have Nn:=Lib.grown_fresh (T:=251) (e:=5) (cs:=cs) hB Np Ph (US (by unfold maxLen;omega)) (by decide);go_enter Tryz.func341,Tryz.ntmps341
 go_wp2;go_region_o
 all_goals (go_wp2;go_end0;first|exact⟨rfl,Nn⟩|exact⟨rfl,World.setCell_alloc_past (w:=w) (.cells cs 5) b 1 (.slice (some ⟨w.heap.size,0,none⟩) 0 cs.size) Nc ▸ Nn⟩)
theorem BM(B b n:Nat)(w:World)(hB:B<=b)(Np:w.heap[b]?=some (.cells #[.pointer none,.slice none 0 0] 251 (0,0)))(Ph:B<=w.heap.size)(hn:n<=1000000):Calls Tryz.prog 258 #[.pointer (some ⟨b,0,none⟩),.int .i64 n] w λe w'=>e=.returned (.tuple #[])/\lL B b [] w'/\Below B w w':=by
 have Ry:(w.setCell ⟨b,0,none⟩ (.pointer (some ⟨b,0,none⟩))).heap[b]?=some (.cells #[.pointer (some ⟨b,0,none⟩),.slice none 0 0] 251 (0,0)):=by simp[World.setCell,fJ,Np]
 have c1:(w.setCell ⟨b,0,none⟩ (.pointer (some ⟨b,0,none⟩))).cell? ⟨b,1,none⟩=some (.slice none 0 0):=by rw[Lib.cell_of_heap Ry];rfl
 have M8:Below B w (w.setCell ⟨b,0,none⟩ (.pointer (some ⟨b,0,none⟩))):=(aO B w).setCell (p:=⟨b,0,none⟩) hB _;have mixed:Tryz.prog.follows Departure.mixedOrders=true:=by kernel_rfl
 have hU:Lib.BuilderAt 251 5 B b (.pointer (some ⟨b,0,none⟩)) [] (w.setCell ⟨b,0,none⟩ (.pointer (some ⟨b,0,none⟩))):=⟨hB,.slice none 0 0,Ry,World.ownsRow_nil _ _ _ _,by simp[Value.ownBlock]⟩;have c1':(w.setCell ⟨b,0,none⟩ (.pointer (some ⟨b,0,none⟩))).drew.cell? ⟨b,1,none⟩=some (.slice none 0 0):=c1;have kc:=mu b w (by rw[Lib.cell_of_heap Np];rfl) (by simp[World.shape?,Np]) (Lib.frozen_of_heap Np 0);have kg:=Cj B b n (w.setCell ⟨b,0,none⟩ (.pointer (some ⟨b,0,none⟩))).drew hB Ry (by simpa[World.setCell,World.drew,-World.drew_eq]using Ph) hn;obtain⟨KC,KG⟩:=az kc kg;clear kc kg;have t0:decide ((n:Int)<0)=false:=decide_eq_false (by omega);go_enter Tryz.func258,Tryz.ntmps258
 go_wp2_with fail
 refine KC.out.mono ?_;rintro e w' ⟨rfl,rfl⟩;go_wp2_with fail
 go_region_o
 all_goals go_wp2_with (go_at_call 341;refine KG.out.mono ?_;rintro e w' ⟨rfl,h1,h2⟩)
 all_goals first
  |(go_end0;exact⟨rfl,Lib.IsBuilderF.of (Or.inr h1),M8.drew.trans h2⟩)
  |(go_end0;exact⟨rfl,Lib.IsBuilderF.of (Or.inr hU.drew),M8.drew⟩)
def mH(c:UInt8):Bool:=decide (97<=c.toNat)&&decide (c.toNat<=122)
theorem FZ(c:UInt8)(h:mH c=false):uf c=c:=by unfold uf;unfold mH at h;rw[h];rfl
theorem JG(c:UInt8)(h:mH c=true):(c.toNat:Int)-32=(uf c).toNat/\¬(c.toNat:Int)-32<0:=by
 unfold uf;unfold mH at h;rw[h,cond_true];simp at h
 have e:(c-32).toNat=c.toNat-32:=by
  rw[UInt8.toNat_sub_of_le]
  ·rfl
  ·rw[UInt8.le_iff_toNat_le];show 32<=c.toNat;omega
 rw[e];omega
theorem J1(l:List UInt8)(h:l.any mH=false):l.map uf=l:=by
 induction l with
 |nil=>rfl
 |cons c r ih=>
  rw[List.any_cons,qV]at h;rw[bw,FZ c h.1,ih h.2]
theorem pQ(l:List UInt8)(k:Nat)(h:k<l.length):l.take (k+1)=l.take k++[l[k]]:=by rw[List.take_add_one,lx h];rfl
theorem IM(l:List UInt8)(a k:Nat)(h:k<l.length)(ha:a<=k):(l.drop a).take (k+1-a)=(l.drop a).take (k-a)++[l[k]]:=by
 rw[show k+1-a=(k-a)+1 by omega,pQ _ _ (by rw[gH];omega)]
 congr 2
 rw[List.getElem_drop]
 congr 1;omega
theorem Dn(s:ByteArray)(a b:Nat):(s.extract a b).data.toList=(s.data.toList.drop a).take (b-a):=by rw[eD]
theorem AV(s:ByteArray)(w:World)(hs:s.size<=1000000)(ha:∀c∈s.data.toList,c.toNat<128):Calls Tryz.prog 257 #[.string s] w λe w'=>e=.returned (.string ⟨(s.data.toList.map uf).toArray⟩)/\Below w.heap.size w w':=by
 have HA:=ah ha;clear ha;go_enter Tryz.func257,Tryz.ntmps257
 go_wp2_with fail
 go_loopw [5,4,3] (λi x y wr=>∃(k:Nat) (h:Bool),k<=s.size/\i=.int .i64 k/\x=.bool h/\y=.bool true/\Hid (h=(s.data.toList.take k).any mH)/\Below w.heap.size w wr) (λi _ _ _=>s.size-(intOf i).toNat)
 case atStart=>exact⟨0,false,a_ _,rfl,rfl,rfl,am rfl,aO _ _⟩
 case round=>
  obtain⟨k,h,hk,rfl,rfl,rfl,HV,M_⟩:=hrel;by_cases Nc:k<s.size
  ·have UF:decide ((s[k].toNat:Int)>=128)=false:=by
    have:=HA.out s[k] (by rw[jm s k Nc];exact bQ _);exact decide_eq_false (by omega)
   have hv:(h||mH s[k])=(s.data.toList.take (k+1)).any mH:=by rw[pQ _ _ (by rw[<-aY];exact Nc),List.any_append,<-HV.out,jm s k Nc];simp
   have hu:=qI s[k];have Sq:∀(b:Bool),b=mH s[k]->Hid ((h||b)=(s.data.toList.take (k+1)).any mH):=λb hb=>am (by rw[hb,hv])
   cases c1:decide (97<=(s[k].toNat:Int))<;>cases c2:decide ((s[k].toNat:Int)<=122)
   ·exfalso;simp at c1 c2;omega
   ·have Pe:=Sq false (by unfold mH;simp at c1 c2 ⊢;omega);clear hv HV Sq
    cases h
    all_goals
     go_wp2;go_roundw
     case rel=>exact⟨k+1,_,by omega,by go_num,rfl,rfl,Pe,M_⟩
     case measure=>simp[intOf];omega
   ·have Pe:=Sq false (by unfold mH;simp at c1 c2 ⊢;omega);clear hv HV Sq
    cases h
    all_goals
     go_wp2;go_roundw
     case rel=>exact⟨k+1,_,by omega,by go_num,rfl,rfl,Pe,M_⟩
     case measure=>simp[intOf];omega
   ·have Pe:=Sq true (by unfold mH;simp at c1 c2 ⊢;omega);clear hv HV Sq
    cases h
    all_goals
     go_wp2;go_roundw
     case rel=>exact⟨k+1,_,by omega,by go_num,rfl,rfl,Pe,M_⟩
     case measure=>simp[intOf];omega
  ·have NI:k=s.size:=by omega
   have hv:h=s.data.toList.any mH:=by rw[HV.out,NI,eH s _ (aw _)]
   have d0:decide ((k:Int)<s.size)=false:=decide_eq_false (by omega);clear HV
   cases h
   ·have hf:s=⟨(s.data.toList.map uf).toArray⟩:=by rw[J1 _ hv.symm]
    have HF:=ah hf;clear hf hv;go_wp2_with fail
    go_ret;exact⟨by rw[<-HF.out];rfl,M_⟩
   ·clear hv;obtain⟨W0,Nb⟩:=bg wr Ab;have Ol:=bm Nb;have kg:=BM wr.heap.size wr.heap.size s.size W0 (aw _) (by rw[<-Nb];exact ay wr _ _ rfl) Ol.size hs;obtain⟨KG,Nl⟩:=az kg Nb;clear kg Nb;go_wp2_with fail
    rw[Nl.out];refine KG.out.mono ?_;rintro e w1 ⟨rfl,hI,M8⟩;have Oy:Below w.heap.size w w1:=M_.trans ((Ol.trans M8).mono M_.size);have Ph:wr.heap.size<=w1.heap.size:=(Ol.trans M8).size;have YP:=M_.size;clear KG Nl Ol M8 M_;obtain⟨B,hB⟩:=aH wr.heap.size;rw[hB]at hI Ph YP ⊢;clear hB;go_wp2_with fail
    go_loopw [9,8] (λi x wr=>∃(k st:Nat) (out:List UInt8),k<=s.size/\st<=k/\i=.int .i64 k/\x=.int .i64 st/\lL B B out wr/\Hid (out++(s.data.toList.drop st).take (k-st)=(s.data.toList.take k).map uf)/\Hid (Below w.heap.size w wr)/\B<=wr.heap.size) (λi _ _=>s.size-(intOf i).toNat)
    case atStart=>exact⟨0,0,[],a_ _,aw _,rfl,rfl,hI,am rfl,am Oy,Ph⟩
    case round=>
     clear hI Oy Ph Nc NI d0 hk;obtain⟨k,st,out,hk,Nd,rfl,rfl,hI,HV,HB,Ph⟩:=hrel;by_cases Nc:k<s.size
     ·have hu:=qI s[k];have PS:k<s.data.toList.length:=by rw[<-aY];exact Nc
      have XY:=IM s.data.toList st k PS Nd;have htm:=pQ s.data.toList k PS;have PB:s.data.toList[k]=s[k]:=(jm s k Nc).symm;rw[PB]at XY htm
      have hlen:out.length<=1000000:=by have:=congrArg List.length HV.out;simp only[bP,eE,dm,gH]at this;omega
      cases hl:mH s[k]
      ·have Vy:out++(s.data.toList.drop st).take (k+1-st)=(s.data.toList.take (k+1)).map uf:=by
        rw[XY,htm,cO,<-List.append_assoc,HV.out,List.map_singleton,FZ _ hl]
       have Pe:=ah Vy;have c12:(decide (97<=(s[k].toNat:Int))&&decide ((s[k].toNat:Int)<=122))=false:=by unfold mH at hl;simp at hl ⊢;omega
       clear Vy XY htm PB HV hl
       cases c1:decide (97<=(s[k].toNat:Int))<;>cases c2:decide ((s[k].toNat:Int)<=122)
       case true.true=>rw[c1,c2]at c12;cases c12
       all_goals
        clear c12;go_wp2;go_roundw
        case rel=>exact⟨k+1,st,out,by omega,by omega,by go_num,rfl,hI,Pe,HB,Ph⟩
        case measure=>simp[intOf];omega
      ·have hy:=JG _ hl
       have Vy:(out++(s.data.toList.drop st).take (k-st))++[uf s[k]]++(s.data.toList.drop (k+1)).take (k+1-(k+1))=(s.data.toList.take (k+1)).map uf:=by rw[htm,cO,HV.out,List.map_singleton,Nat.sub_self,List.take_zero,e9]
       obtain⟨Pe,HY⟩:=az Vy hy.1;have RH:=hy.2;have c1:decide (97<=(s[k].toNat:Int))=true:=by unfold mH at hl;simp at hl ⊢;omega
       have c2:decide ((s[k].toNat:Int)<=122)=true:=by unfold mH at hl;simp at hl ⊢;omega
       have WF:(s.extract st k).data.toList=(s.data.toList.drop st).take (k-st):=Dn s st k;have ND:(s.extract st k).size<=1000000:=by rw[eu];omega
       have kw:=λW h1 h2=>bV B B out (s.extract st k) W h1 (by omega) h2
       rw[WF]at kw;have kb:=λO W h1 h2 h3=>ge B B O (uf s[k]) W h1 h2 h3
       rw[<-hy.1]at kb;obtain⟨KW,KB⟩:=az kw kb;have HXL:=ah WF;clear Vy XY htm PB HV hl hy kw kb WF;by_cases hsk:st<k
       ·have d1:decide ((st:Int)<k)=true:=decide_eq_true (by omega);go_wp2_with fail
        refine(KW.out wr hI Ph).mono ?_;rintro e w2 ⟨rfl,O7,M9,-⟩;have OT:=ah (HB.out.trans (M9.mono YP));have Wg:=bj Ph M9.size;clear KW HB;go_wp2_with fail
        refine(KB.out _ w2 O7 (by have:=Pe.out;have:=congrArg List.length this;simp only[bP,eE,dm,gH,dM]at this ⊢;omega) Wg).mono ?_;rintro e w3 ⟨rfl,Qb,Na,-⟩;have Og:=ah (OT.out.trans (Na.mono YP));have YU:=bj Wg Na.size;clear KB OT;go_wp2_with fail
        go_roundw
        case rel=>exact⟨k+1,k+1,_,by omega,by omega,by go_num,by go_num,Qb,Pe,Og,YU⟩
        case measure=>simp[intOf];omega
       ·have d1:decide ((st:Int)<k)=false:=decide_eq_false (by omega);have e0:k-st=0:=by omega
        rw[e0,List.take_zero,e9]at Pe;go_wp2_with fail
        refine(KB.out _ wr hI (by omega) Ph).mono ?_;rintro e w3 ⟨rfl,Qb,Na,-⟩;have Og:=ah (HB.out.trans (Na.mono YP));have YU:=bj Ph Na.size;clear KB KW HB;go_wp2_with fail
        go_roundw
        case rel=>exact⟨k+1,k+1,_,by omega,by omega,by go_num,by go_num,Qb,Pe,Og,YU⟩
        case measure=>simp[intOf];omega
     ·have NI:k=s.size:=by omega
      have hv:=HV.out;rw[NI,eH s _ (aw _)]at hv;have WF:(s.extract st s.size).data.toList=(s.data.toList.drop st).take (s.size-st):=Dn s st s.size;rw[<-WF]at hv;have d0:decide ((k:Int)<s.size)=false:=decide_eq_false (by omega);have ND:(s.extract st s.size).size<=s.size-st:=by rw[eu];omega
      have hlen:out.length<=1000000:=by have:=congrArg List.length HV.out;simp only[bP,eE,dm,gH]at this;omega
      have kw:=λW h1 h2=>bV B B out (s.extract st s.size) W h1 (by omega) h2
      rw[hv]at kw;obtain⟨KW,HX⟩:=az kw hv;clear WF HV hv kw;by_cases hsk:st<s.size
      ·have d1:decide ((st:Int)<s.size)=true:=decide_eq_true (by omega);go_wp2_with fail
       refine(KW.out wr hI Ph).mono ?_;rintro e w2 ⟨rfl,O7,M9,-⟩;have OT:=ah (HB.out.trans (M9.mono YP));have Wg:=bj Ph M9.size;clear KW HB HX;go_wp2_with fail
       refine(Tryz.Builder_String_any_k B B _ _ O7 Wg).mono ?_;rintro e w3 ⟨rfl,_,b3,_⟩;have Og:=ah (OT.out.trans (b3.mono YP));go_wp2_with fail
       go_ret;exact⟨rfl,Og.out⟩
      ·have d1:decide ((st:Int)<s.size)=false:=decide_eq_false (by omega)
       have e0:out=s.data.toList.map uf:=by
        have:=HX.out
        rw[show s.extract st s.size=ByteArray.empty from by
         apply ByteArray.ext;rw[ByteArray.data_extract];simp;omega]at this
        simpa using this
       rw[e0]at hI;clear KW HX e0;go_wp2_with fail
       refine(Tryz.Builder_String_any_k B B _ _ hI Ph).mono ?_;rintro e w3 ⟨rfl,_,b3,_⟩;have Og:=ah (HB.out.trans (b3.mono YP));go_wp2_with fail
       go_ret;exact⟨rfl,Og.out⟩
theorem Dr(c:UInt8)(h:eO c=true):gE c<16:=by
 unfold eO at h;unfold gE;simp at h
 rcases h with(⟨h1,h2⟩|⟨h1,h2⟩)|⟨h1,h2⟩
 ·rw[decide_eq_true h2,cond_true];omega
 ·rw[decide_eq_false (by omega),cond_false,decide_eq_true h1,cond_true];omega
 ·rw[decide_eq_false (by omega),cond_false,decide_eq_false (by omega),cond_false];omega
theorem Ev(B b:Nat)(l:List UInt8)(p:ByteArray)(w:World)(hp:p.size=1)(hI:lL B b l w)(hl:l.length<=1000000)(hB:B<=w.heap.size):Calls Tryz.prog 256 #[.string p,.pointer (some ⟨b,0,none⟩)] w λe w'=>e=.returned (.tuple #[])/\lL B b (l++p.data.toList) w'/\Below B w w':=by
 have kw:=bV B b l p w hI (by omega) hB;have KW:=ah kw;have t1:decide ((p.size:Int)>1)=false:=decide_eq_false (by omega);clear kw hp hI;go_enter Tryz.func256,Tryz.ntmps256
 go_wp2_with fail
 refine KW.out.mono ?_;rintro e w1 ⟨rfl,NJ,M8,-⟩;go_wp2_with fail
 go_end0
 exact⟨rfl,NJ,M8⟩
theorem xP(B b:Nat)(l:List UInt8)(p:ByteArray)(x y:UInt8)(w:World)(hp:p.data.toList=[37,x,y])(hx:(eO x&&eO y)=true)(hI:lL B b l w)(hl:l.length<=1000000)(hB:B<=w.heap.size):Calls Tryz.prog 256 #[.string p,.pointer (some ⟨b,0,none⟩)] w λe w'=>e=.returned (.tuple #[])/\lL B b (l++kI [37,x,y]) w'/\Below B w w':=by
 have h3:p.size=3:=by rw[aY,hp];rfl
 have hex:(p.extract 1 3).data.toList=[x,y]:=by rw[eD,hp];rfl
 have hxs:(p.extract 1 3).size=2:=by rw[aY,hex];rfl
 have SG:=hx;rw[eA]at SG;obtain⟨V,hV⟩:=aH (UInt8.ofNat (16*gE x+gE y));have PQ:=Dr x SG.1;have Yw:=Dr y SG.2
 have hVn:(eZ [x,y]:Int)=V.toNat:=by
  rw[<-hV,UInt8.toNat_ofNat'];show((16*(16*0+gE x)+gE y:Nat):Int)=_
  rw[Nat.mod_eq_of_lt (by omega)];omega
 have kp:=λW=>qK (p.extract 1 3) 8 255 W (by omega) (by omega) (by rw[hex];simp[SG.1,SG.2]) (Or.inr ⟨rfl,rfl,by omega⟩)
 rw[hex,hVn]at kp;have ki:=λW=>Tryz.strings_IndexByte ⟨(([97,98,99,100,101,102,103,104,105,106,107,108,109,110,111,112,113,114,115,116,117,118,119,120,121,122,65,66,67,68,69,70,71,72,73,74,75,76,77,78,79,80,81,82,83,84,85,86,87,88,89,90,48,49,50,51,52,53,54,55,56,57,45,46]:List UInt8).append [95,126]).toArray⟩ (V.toNat:Int) W
 have hvu:((V.toNat:Int).toNat).toUInt8=V:=by simp
 have hu:=qI V;have XJ:Lib.indexByte gR V=Lib.indexByte gR V:=rfl;rw[hvu,show(⟨(([97,98,99,100,101,102,103,104,105,106,107,108,109,110,111,112,113,114,115,116,117,118,119,120,121,122,65,66,67,68,69,70,71,72,73,74,75,76,77,78,79,80,81,82,83,84,85,86,87,88,89,90,48,49,50,51,52,53,54,55,56,57,45,46]:List UInt8).append [95,126]).toArray⟩:ByteArray).data.toList=gR from rfl]at ki;have Vs:gR.contains V=decide (Lib.indexByte gR V>=0):=by rw[jj,Lib.contains_iff_indexByte,decide_eq_true_eq]
 have Pf:kI [37,x,y]=bif decide (Lib.indexByte gR V>=0)then [V]else [37,uf x,uf y]:=by
  show(bif gR.contains (UInt8.ofNat (16*gE x+gE y))then _ else _)=_
  rw[hV,Vs]
 rw[Pf];generalize Lib.indexByte gR V=ix at*;have t1:decide ((p.size:Int)>1)=true:=decide_eq_true (by omega);have n1:(1:Int)<=p.size:=by omega
 obtain⟨KP,KI,HI⟩:=bu kp ki hI;clear kp ki hI Pf Vs hvu hVn hV hx hex
 cases hc:decide (ix>=0)
 ·have ku:=fun W=>AV p W (by omega) (by
   rw[hp];intro c hc
   have hh:∀c:UInt8,eO c=true->c.toNat<128:=by intro c h;unfold eO at h;simp at h;omega
   simp at hc
   rcases hc with rfl|rfl|rfl
   ·decide
   ·exact hh _ SG.1
   ·exact hh _ SG.2)
  rw[hp]at ku;have KU:=ah ku;clear ku hp SG hxs;go_enter Tryz.func256,Tryz.ntmps256
  go_wp2_with fail
  refine(KP.out _).mono ?_;rintro e w1 ⟨rfl,M8⟩;clear KP;go_wp2_with fail
  refine(KI.out _).mono ?_;rintro e w2 ⟨rfl,rfl⟩;clear KI;go_wp2_with fail
  refine(KU.out _).mono ?_;rintro e w3 ⟨rfl,Na⟩;have Qb:lL B b l w3:=(HI.out.below M8).below Na;have kw:=bV B b l ⟨([37,x,y].map uf).toArray⟩ w3 Qb (by rw[aR];simp;omega) (by have:=M8.size;have:=Na.size;omega);rw[bq]at kw;have hb:=(M8.trans (Na.mono M8.size)).mono hB;obtain⟨KW,HB⟩:=az kw hb;clear KU kw hb M8 Na Qb HI;go_wp2_with fail
  refine KW.out.mono ?_;rintro e w4 ⟨rfl,SJ,Nf,-⟩;go_wp2_with fail
  go_end0
  exact⟨rfl,SJ,HB.out.trans Nf⟩
 ·clear hp SG hxs;go_enter Tryz.func256,Tryz.ntmps256
  go_wp2_with fail
  refine(KP.out _).mono ?_;rintro e w1 ⟨rfl,M8⟩;clear KP;go_wp2_with fail
  refine(KI.out _).mono ?_;rintro e w2 ⟨rfl,rfl⟩;clear KI;obtain⟨W2,Nw⟩:=bg w2 (.cells #[.int .u8 V.toNat] 5);have Nk:=bm Nw
  have hbv:Lib.Bytes W2 w2.heap.size 0 ⟨#[V]⟩:=by
   intro i hi;have hi0:i=0:=by have:i<1:=hi;omega
   subst hi0;rw[<-Nw,iq,cK];rfl
  have hcv:=Lib.run_convert_whole (P:=Tryz.prog) W2 168 5 9 Tryz.underlying168 Tryz.underlying5 Tryz.underlying9 w2.heap.size 0 ⟨#[V]⟩ hbv 1;rw[show((⟨#[V]⟩:ByteArray).size)=1 from rfl]at hcv;have Qb:lL B b l W2:=(HI.out.below M8).below Nk;have kw:=bV B b l ⟨#[V]⟩ W2 Qb (by show l.length+1<=_;omega) (by have:=M8.size;have:=Nk.size;omega);have hb:=(M8.trans (Nk.mono M8.size)).mono hB;obtain⟨KW,HB,HW⟩:=bu kw hb Nw;clear kw hb M8 Nk Qb HI Nw hbv;rw[<-HW.out]at hcv;go_wp2_with fail
  rw[HW.out];refine KW.out.mono ?_;rintro e w4 ⟨rfl,SJ,Nf,-⟩;go_wp2_with fail
  go_end0
  exact⟨rfl,SJ,HB.out.trans Nf⟩
theorem D4(p:List UInt8):(kI p).length<=p.length:=by
 match p with
 | [_,a,b]=>
  show(bif gR.contains (UInt8.ofNat (16*gE a+gE b))then _ else _:List UInt8).length<=3
  cases gR.contains (UInt8.ofNat (16*gE a+gE b))<;>simp
 | []=>exact aw _
 | [_]=>exact aw _
 | [_,_]=>exact aw _
 |_::_::_::_::_=>exact aw _
theorem IN(B bb:Nat)(l:List UInt8)(s:ByteArray)(w:World)(hz:l.length+s.size<=1000000)(hI:lL B bb l w)(hB:B<=w.heap.size):Calls Tryz.prog 201 #[.string s,.func (.func 256) #[] #[.pointer (some ⟨bb,0,none⟩)]] w λe w'=>e=.returned (.bool (cU s.data.toList).2)/\lL B bb (l++iD s.data.toList) w'/\Below B w w':=by
 unfold iD;obtain⟨T,hT⟩:=aH (cU s.data.toList);rw[hT];obtain⟨V,hV⟩:=aH (l++T.1.flatMap kI);rw[hV];have Rt:Hid ((cU s.data.toList).2=T.2/\l++(cU s.data.toList).1.flatMap kI=V):=am ⟨by rw[hT],by rw[hT];exact hV⟩;have HI:=ah hI;have Ou:=ah (aO B w);clear hT hV hI;go_enter Tryz.func201,Tryz.ntmps201
 go_wp2_with fail
 go_loopw [0] (λx wr=>∃(b:ByteArray) (g:List UInt8),x=.string b/\g.length+b.size<=1000000/\Hid (Below B w wr)/\Hid (lL B bb g wr)/\Hid ((cU b.data.toList).2=T.2/\g++(cU b.data.toList).1.flatMap kI=V)) (λx _=>BR x)
 case atStart=>exact⟨s,l,rfl,hz,Ou,HI,Rt⟩
 case round=>
  clear Rt HI Ou;obtain⟨b,g,rfl,Xe,HW,HG,HR⟩:=hrel;have hr:=HR.out;have hBr:B<=wr.heap.size:=bj hB HW.out.size;by_cases h0:0<b.size
  ·obtain⟨c,r,hl⟩:∃c r,b.data.toList=c::r:=by
    match h:b.data.toList with
    | []=>rw[aY,h]at h0;cases h0
    |c::r=>exact⟨c,r,rfl⟩
   have hc:b[0]'h0=c:=by
    have:b.data.toList[0]'(by rw[hl];exact Nat.succ_pos _)=c:=by simp[hl]
    exact this
   have Nx:b.size=r.length+1:=by rw[aY,hl];rfl
   have QJ:(b.extract 1 b.size).data.toList=r:=by rw[fe,hl];rfl
   by_cases h37:c=37
   ·have t1:((c.toNat:Int)==37)=true:=by rw[h37];rfl
    have Va:(!b.toList.isEmpty)=true:=by rw[dY,hl];rfl
    by_cases h2:r.length<2
    ·rw[hl,h37,xT r h2]at hr;have t2:decide ((b.size:Int)<3)=true:=decide_eq_true (by omega);have h1:false=T.2:=hr.1;have h2:g++[]=V:=hr.2;rw[e9]at h2;subst h2;have H1:=ah h1;clear HR hr h1 hl QJ Nx;go_wp2_with fail
     go_ret;exact⟨by rw[<-H1.out];rfl,HG.out,HW.out⟩
    ·obtain⟨x,y,t,rfl⟩:∃x y t,r=x::y::t:=by
      match r,h2 with
      |x::y::t,_=>exact⟨x,y,t,rfl⟩
      | [x],h=>exact absurd (show 1<2 by decide) h
      | [],h=>exact absurd (show 0<2 by decide) h
     have Na:3<=b.size:=by rw[Nx];simp
     have t2:decide ((b.size:Int)<3)=false:=decide_eq_false (by omega);rw[hl,h37,tQ]at hr;have RP:(b.extract 1 3).data.toList=[x,y]:=by rw[eD,hl];rfl
     have kt:=λW=>ja (b.extract 1 3) uR W (by rw[eu];omega) (by decide) (by decide) (by decide)
     rw[show(uR:ByteArray).data.toList=xx from rfl,RP]at kt;have Pc:=sO [x,y];have SG:[x,y].all eO=(eO x&&eO y):=by simp
     rw[SG]at Pc;generalize Lib.trimS [x,y] xx=tt at*;have KT:=ah kt;have n3:(3:Int)<=b.size:=by omega
     have n1:(1:Int)<=b.size:=by omega
     clear kt RP SG
     cases hh:eO x&&eO y
     ·rw[hh]at hr Pc;have tt0:(!tt.isEmpty)=true:=by cases tt with|nil=>simp at Pc|cons _ _=>rfl
      have tt1:(tt==[])=false:=Pc;have h1:false=T.2:=hr.1;have h2:g++[]=V:=hr.2;rw[e9]at h2;subst h2;have H1:=ah h1;clear HR hr h1 hl QJ Nx hh Pc;go_wp2_with fail
      refine(KT.out _).mono ?_;rintro e w1 ⟨rfl,M8⟩;have OO:=ah (HG.out.below M8);have Re:=ah (HW.out.trans (M8.mono hBr));clear KT HG HW M8;go_wp2_with fail
      go_ret;exact⟨by rw[<-H1.out];rfl,OO.out,Re.out⟩
     ·rw[hh]at hr Pc;have tt0:(!tt.isEmpty)=false:=by cases tt with|nil=>rfl|cons _ _=>simp at Pc
      have tt1:(tt==[])=true:=Pc;have hex:(b.extract 0 3).data.toList=[37,x,y]:=by rw[eD,hl,h37];rfl
      have UU:(b.extract 3 b.size).data.toList=t:=by rw[fe,hl];rfl
      have kc:=λW hI hB=>xP B bb g (b.extract 0 3) x y W hex hh hI (by omega) hB
      have Om:Hid ((cU (b.extract 3 b.size).data.toList).2=T.2/\(g++kI [37,x,y])++(cU (b.extract 3 b.size).data.toList).1.flatMap kI=V):=by rw[UU];refine am ⟨hr.1,?_⟩;rw[List.append_assoc];exact hr.2
      have hul:=D4 [37,x,y];have ND:(b.extract 3 b.size).size+3=b.size:=by rw[eu];omega
      have Qh:(g++kI [37,x,y]).length+(b.extract 3 b.size).size<=1000000:=by rw[bP];simp only[cg,ic]at hul;omega
      have hlt3:(b.extract 3 b.size).size<b.size:=by omega
      obtain⟨KC,HGL,H3⟩:=bu kc Qh hlt3;clear kc hr HR hex QJ UU hl Nx hh Pc hul ND Qh hlt3;go_wp2_with fail
      refine(KT.out _).mono ?_;rintro e w1 ⟨rfl,M8⟩;have Re:=ah (HW.out.trans (M8.mono hBr));have kc:=KC.out w1 (HG.out.below M8) (bj hBr M8.size);clear KT KC HG HW M8;go_wp2_with fail
      refine kc.mono ?_;rintro e w2 ⟨rfl,O7,M9⟩;have OU:=ah (Re.out.trans M9);have N8:=ah O7;clear kc Re M9 O7;go_wp2_with fail
      go_roundw
      case rel=>exact⟨_,_,rfl,HGL.out,OU,N8,Om⟩
      case measure=>exact H3.out
   ·have t1:((c.toNat:Int)==37)=false:=by
     simp
     intro h;exact h37 (UInt8.toNat_inj.mp (by show c.toNat=37;omega))
    rw[hl,pL c r (by simp;exact h37)]at hr;have hex:(b.extract 0 1).data.toList=[c]:=by rw[eD,hl];rfl
    have kc:=Ev B bb g (b.extract 0 1) wr (by rw[eu];omega) HG.out (by omega) hBr;rw[hex]at kc
    have Om:Hid ((cU (b.extract 1 b.size).data.toList).2=T.2/\(g++[c])++(cU (b.extract 1 b.size).data.toList).1.flatMap kI=V):=by rw[QJ];refine am ⟨hr.1,?_⟩;rw[List.append_assoc];exact hr.2
    have ND:(b.extract 1 b.size).size+1=b.size:=by rw[eu];omega
    have Qh:(g++[c]).length+(b.extract 1 b.size).size<=1000000:=by rw[bP,dM];omega
    have hlt1:(b.extract 1 b.size).size<b.size:=by omega
    have n1:(1:Int)<=b.size:=by omega
    have Va:(!b.toList.isEmpty)=true:=by rw[dY,hl];rfl
    obtain⟨KC,HGL,H3⟩:=bu kc Qh hlt1;clear kc hr HR hex QJ hl Nx HG ND Qh hlt1;go_wp2_with fail
    refine KC.out.mono ?_;rintro e w2 ⟨rfl,O7,M9⟩;have OU:=ah (HW.out.trans M9);have N8:=ah O7;clear KC HW O7 M9;go_wp2_with fail
    go_roundw
    case rel=>exact⟨_,_,rfl,HGL.out,OU,N8,Om⟩
    case measure=>exact H3.out
  ·have hb:b.data.toList=[]:=mz (by rw[<-aY];omega);have Va:(!b.toList.isEmpty)=false:=by rw[dY,hb];rfl
   rw[hb]at hr;have h1:true=T.2:=hr.1;have h2:g++[]=V:=hr.2;rw[e9]at h2;subst h2;have H1:=ah h1;clear HR hr h1;go_wp2;go_ret;exact⟨by rw[<-H1.out];rfl,HG.out,HW.out⟩
theorem yU(s:ByteArray)(w:World)(hz:s.size<=1000000):Calls Tryz.prog 178 #[.string s] w λe w'=>e=.returned (.string ⟨(iD s.data.toList).toArray⟩)/\Below w.heap.size w w':=by
 have VT:=wG;obtain⟨W0,Nb⟩:=bg w Ab;have Nm:=bm Nb;have hI:=tY w;rw[Nb]at hI;have k1:=IN w.heap.size w.heap.size [] s W0 (by simpa using hz) hI Nm.size;rw[lp]at k1;obtain⟨K1,Nl⟩:=az k1 Nb;clear k1 hI Nb;go_enter Tryz.func178,Tryz.ntmps178
 go_wp2_with fail
 rw[Nl.out];refine K1.out.mono ?_;rintro e w1 ⟨rfl,NJ,M8⟩;have Ni:=ah (Nm.trans M8);have P8:=Ni.out.size;clear K1 Nl;go_wp2_with fail
 refine(Tryz.Builder_String_any_k w.heap.size w.heap.size _ _ NJ P8).mono ?_;rintro e w3 ⟨rfl,_,b3,_⟩;have Og:=ah (Ni.out.trans b3);go_wp2_with fail
 go_ret;exact⟨rfl,Og.out⟩
def jI(dev:List UInt8):List UInt8:=bif be dev then dev++[61,34,83,117,114,114,111,103,97,116,101,47,49,46,48,32,69,83,73,47,49,46,48,34]else []
theorem Jt(dev:ByteArray)(w:World)(hd:dev.size<=1000000):Calls Tryz.prog 134 #[.string dev] w λe w'=>e=.returned (.string ⟨(jI dev.data.toList).toArray⟩)/\w=w':=by
 have k1:=λW=>fR dev W hd
 cases ht:be dev.data.toList
 ·rw[ht]at k1;have hc:jI dev.data.toList=[]:=by unfold jI;rw[ht];rfl
  rw[hc];have K1:=ah k1;clear k1 hc ht;go_enter Tryz.func134,Tryz.ntmps134
  go_wp2_with fail
  refine(K1.out _).mono ?_;rintro e w1 ⟨rfl,rfl⟩;go_wp2;go_ret;exact⟨rfl,rfl⟩
 ·rw[ht]at k1
  have hc:(⟨(jI dev.data.toList).toArray⟩:ByteArray)=dev++Lc:=by apply dE;unfold jI;rw[ht,mL];rfl
  rw[hc];have hz:(Lc:ByteArray).size=24:=rfl;have K1:=ah k1;clear k1 hc ht;go_enter Tryz.func134,Tryz.ntmps134
  go_wp2_with fail
  refine(K1.out _).mono ?_;rintro e w1 ⟨rfl,rfl⟩;go_wp2;go_ret;exact⟨rfl,rfl⟩
def dg(c:UInt8):Bool:=decide (48<=c.toNat)&&decide (c.toNat<=57)
def nK:List UInt8->Int->Int
 | [],a=>a
 |c::r,a=>nK r (10*a+((c.toNat:Int)-48))
def cn(s:List UInt8)(n:Nat):Int × List UInt8 × Bool:=bif decide (s.length<n)then(0,[],false)else bif(s.take n).all dg then(nK (s.take n) 0,s.drop n,true)else(0,[],false)
def ec(s:List UInt8)(n:Nat):List (List UInt8)->Nat->Int × List UInt8 × Bool
 | [],_=>(0,[],false)
 |x::r,i=>
  bif Lib.hasPrefix s (bif decide (0<n)then x.take n else x)then((i:Int),s.drop (bif decide (0<n)then x.take n else x).length,true)else ec s n r (i+1)
def dN:List (List UInt8):=[[84,104,117,114,115,100,97,121],[70,114,105,100,97,121],[83,97,116,117,114,100,97,121],[83,117,110,100,97,121],[77,111,110,100,97,121],[84,117,101,115,100,97,121],[87,101,100,110,101,115,100,97,121]]
def gy:List UInt8:=[74,97,110,70,101,98,77,97,114,65,112,114,77,97,121,74,117,110,74,117,108,65,117,103,83,101,112,79,99,116,78,111,118,68,101,99]
def wj(y:Int):Bool:=y % 4==0&&y % 100 !=0||y % 400==0
def gX(y m:Int):Int:=if m=2 then(if wj y=true then 29 else 28)else if m=4\/m=6\/m=9\/m=11 then 30 else 31
def dQ(y:Int):Int:=365*(y-1970)+(y-1) / 4-(y-1) / 100+(y-1) / 400-492+19-4
theorem jy(y:Int)(h:1970<=y):365*(y-1970)<=dQ y/\dQ y<=366*(y-1970):=by unfold dQ;omega
def kG:Nat->Int->Int->Int
 |0,_,y=>y
 |f+1,d,y=>if dQ (y+1)<=d then kG f d (y+1)else y
def lO(d:Int):Int × Int:=(kG 9000 d (1970+d / 366),d-dQ (kG 9000 d (1970+d / 366)))
structure jO where
 wd:Int
 day:Int
 month:Int
 year:Int
 hour:Int
 minute:Int
 second:Int
 two:Bool
def rf:jO:=⟨0,0,0,0,0,0,0,false⟩
def aW(m:jO)(c:Nat)(s:List UInt8):jO × List UInt8 × Bool:=
 if c=119 then({ m with wd:=(ec s 3 dN 0).1 },(ec s 3 dN 0).2)
 else if c=87 then({ m with wd:=(ec s 0 dN 0).1 },(ec s 0 dN 0).2)
 else if c=68 then({ m with day:=(cn s 2).1 },(cn s 2).2)
 else if c=69 then(if Lib.hasPrefix s [32]=true then({ m with day:=(cn (s.drop 1) 1).1 },(cn (s.drop 1) 1).2)else({ m with day:=(cn s 2).1 },(cn s 2).2))
 else if c=109 then
  (if s.length<3\/Lib.index gy (s.take 3)<0\/Lib.index gy (s.take 3) % 3≠0 then(m,[],false)else({ m with month:=Lib.index gy (s.take 3) / 3+1 },s.drop 3,true))
 else if c=89 then({ m with year:=(cn s 4).1 },(cn s 4).2)
 else if c=121 then({ m with year:=(cn s 2).1,two:=true },(cn s 2).2)
 else if c=72 then({ m with hour:=(cn s 2).1 },(cn s 2).2)
 else if c=73 then({ m with minute:=(cn s 2).1 },(cn s 2).2)
 else if c=83 then({ m with second:=(cn s 2).1 },(cn s 2).2)
 else if Lib.hasPrefix s [UInt8.ofNat c]=true then(m,s.drop 1,true)else(m,s,false)
def tN:List UInt8:=[119,44,32,68,32,109,32,89,32,72,58,73,58,83,32,71,77,84]
def sU:List UInt8:=[87,44,32,68,45,109,45,121,32,72,58,73,58,83,32,71,77,84]
def sQ:List UInt8:=[119,32,109,32,69,32,72,58,73,58,83,32,89]
def gz:List UInt8->jO->List UInt8->Option (jO × List UInt8)
 | [],m,s=>some (m,s)
 |c::r,m,s=>bif(aW m c.toNat s).2.2 then gz r (aW m c.toNat s).1 (aW m c.toNat s).2.1 else none
def rL(now:Int):Int:=(max 0 (min now 253402300799)) / 86400
def ul(m:jO)(now:Int):Int:=if m.two=true then((lO (rL now)).1+50)-((lO (rL now)).1+50-m.year) % 100 else m.year
def iX(y:Int):Nat->Int
 |0=>0
 |k+1=>iX y k+gX y (k+1)
def gI(m:jO)(now:Int):Int × Bool:=
 if ul m now<1970\/ul m now>9999\/m.day<1\/m.day>gX (ul m now) m.month\/m.hour>23\/m.minute>59\/m.second>59 then(0,false)
 else if(dQ (ul m now)+m.day-1+iX (ul m now) (m.month.toNat-1)) % 7≠m.wd then(0,false)
 else((dQ (ul m now)+m.day-1+iX (ul m now) (m.month.toNat-1))*86400+m.hour*3600+m.minute*60+m.second,true)
def dC(s:List UInt8)(now:Int):List (List UInt8)->Int × Int
 | []=>(0,4)
 | f :: r=>match gz f rf s with
  |some (m,[])=>if(gI m now).2=true then((gI m now).1,0)else dC s now r
  |_=>dC s now r
def kJ(s:List UInt8)(now:Int):Int × Int:=dC s now [tN,sU,sQ]
theorem t1:kJ [84,104,117,44,32,48,49,32,74,97,110,32,49,57,55,48,32,48,48,58,48,50,58,48,48,32,71,77,84] 110=(120,0):=by decide +kernel
structure da where
 name:List UInt8
 value:List UInt8
 has:Bool
 for_:List UInt8
deriving DecidableEq
def mI(d:da):List Value:=[.string ⟨d.name.toArray⟩,.string ⟨d.value.toArray⟩,.bool d.has,.string ⟨d.for_.toArray⟩]
def cz(xs:List da):List Value:=xs.flatMap mI
theorem pU(xs:List da):(cz xs).length=xs.length*4:=by
 unfold cz
 induction xs with
 |nil=>rfl
 |cons x r ih=>rw[jk,bP,ih,cg];show 4+_=_;omega
theorem zu:∀(xs:List da)(k:Nat)(hk:k<xs.length),(cz xs)[k*4]?=some (.string ⟨(xs[k]).name.toArray⟩)/\(cz xs)[k*4+1]?=some (.string ⟨(xs[k]).value.toArray⟩)/\(cz xs)[k*4+2]?=some (.bool (xs[k]).has)/\(cz xs)[k*4+3]?=some (.string ⟨(xs[k]).for_.toArray⟩)
 | [],k,hk=>by simp at hk
 |x::r,0,_=>by unfold cz;simp[mI]
 |x::r,k+1,hk=>by
  have ih:=zu r k (by simpa using hk);unfold cz at ih ⊢;rw[jk,show(k+1)*4=k*4+4 from by omega];have e:∀j,(mI x++r.flatMap mI)[j+4]?=(r.flatMap mI)[j]?:=λj=>by rw[List.getElem?_append_right (by show 4<=_;omega)];rfl
  rw[show k*4+4+1=(k*4+1)+4 from by omega,show k*4+4+2=(k*4+2)+4 from by omega,show k*4+4+3=(k*4+3)+4 from by omega,e,e,e,e];simpa using ih
theorem Rd.dir{A:Option Addr}{n:Nat}{xs:List da}{w:World}(h:Rd A n 4 (cz xs) w):n=xs.length:=by have:=h.1;rw[pU]at this;omega
theorem Rd.dir_at{A:Option Addr}{n k:Nat}{xs:List da}{w:World}(h:Rd A n 4 (cz xs) w)(hk:k<xs.length):∃b o,A=some ⟨b,o,none⟩/\b<w.heap.size/\w.cell? ⟨b,o+k*4,none⟩=some (.string ⟨(xs[k]).name.toArray⟩)/\w.cell? ⟨b,o+k*4+1,none⟩=some (.string ⟨(xs[k]).value.toArray⟩)/\w.cell? ⟨b,o+k*4+2,none⟩=some (.bool (xs[k]).has)/\w.cell? ⟨b,o+k*4+3,none⟩=some (.string ⟨(xs[k]).for_.toArray⟩):=by obtain⟨b,o,e,hl,hc⟩:=h.2 (by rw[h.dir];omega);have:=zu xs k hk;exact⟨b,o,e,hl,hc _ _ this.1,hc _ _ this.2.1,hc _ _ this.2.2.1,hc _ _ this.2.2.2⟩
def dZ(p:List UInt8):Option da:=
 bif !be (Lib.cut p [61]).1 then none
 else bif(Lib.cut p [61]).2.2&&!be (Lib.cut p [61]).2.1 then(mG (Lib.cut p [61]).2.1).map λs=>⟨ai (Lib.cut p [61]).1,s,true,[]⟩
 else some ⟨ai (Lib.cut p [61]).1,(Lib.cut p [61]).2.1,(Lib.cut p [61]).2.2,[]⟩
def noStore:List UInt8:=[110,111,45,115,116,111,114,101]
def wU(v:List UInt8):List (List UInt8):=bif(ax 44 v).2==0 then(ax 44 v).1 else [noStore]
def oh(v:List UInt8):List da:=(wU v).filterMap dZ
def bD(vs:List (List UInt8)):List da:=vs.flatMap oh
def ml(xs:List da)(nm:List UInt8):Option da:=xs.find? λd=>ai d.name==ai nm
def le(n:Int):Int:=if n<0 then 0 else if 2147483648<n then 2147483648 else n
theorem DG{n:Int}(h:n<0):le n=0:=by unfold le;rw[if_pos h]
theorem C9{n:Int}(h:2147483648<n):le n=2147483648:=by unfold le;rw[if_neg (by omega),if_pos h]
theorem Ha{n:Int}(h:0<=n)(k:n<=2147483648):le n=n:=by unfold le;rw[if_neg (by omega),if_neg (by omega)]
theorem ma(n:Int):0<=le n:=by unfold le;split;(· omega);split<;>omega
theorem lP(n:Int):le n<=2147483648:=by unfold le;split;(· omega);split<;>omega
def xK(a b:Int):Int:=le (le a+le b)
def LM(a b:Int):Int:=le (le a-le b)
def gP(a b:Int):Int:=le (b-a)
def I_(c:UInt8):Bool:=decide (48<=c.toNat)&&decide (c.toNat<=57)
def Ld(a:Nat)(l:List UInt8):Nat:=l.foldl (λa c=>10*a+(c.toNat-48)) a
def val(l:List UInt8):Nat:=Ld 0 l
theorem GO(l:List UInt8)(c:UInt8):val (l++[c])=10*val l+(c.toNat-48):=by unfold val Ld;simp
theorem IK(v d:Nat):le (10*le (v:Int)+(d:Int))=le ((10*v+d:Nat):Int):=by unfold le;split<;>split<;>split<;>(try split)<;>omega
def fC(l:List UInt8):Bool:=!l.isEmpty&&l.all I_
def kY(l:List UInt8):Value:=bif fC l then .tuple #[.int .i64 (le (val l)),.bool true]else .tuple #[.int .i64 0,.bool false]
theorem Er(s:ByteArray)(k:Nat)(h:k<s.size)(hb:I_ s[k]=false):kY s.data.toList=.tuple #[.int .i64 0,.bool false]:=by unfold kY fC;rw[nr I_ s k h hb,jU];rfl
def iI(n:Int):ByteArray:=⟨(Lib.decDigits (le n).toNat).toArray⟩
def fd(c:UInt8)(s:Bool × Bool)(x:UInt8):Option (Bool × Bool):=bif s.2 then some (s.1,false)else bif s.1&&x.toNat==92 then some (s.1,true)else bif x.toNat==34 then some (!s.1,false)else bif x.toNat==c.toNat&&!s.1 then none else some (s.1,false)
def jo(c:UInt8):Bool × Bool->List UInt8->Option (Bool × Bool)
 |s,[]=>some s
 | s,x :: r=>match fd c s x with
  |none=>none
  |some t=>jo c t r
theorem pv(c:UInt8):∀(a b:List UInt8)(s:Bool × Bool),jo c s (a++b)=(jo c s a).bind λt=>jo c t b
 | [],b,s=>rfl
 |x::r,b,s=>by
  rw[mr,jo,jo]
  cases fd c s x with
  |none=>rfl
  |some t=>exact pv c r b t
theorem xV{c x:UInt8}{s t:Bool × Bool}(h:fd c s x=some t):t.2=true->t.1=true:=by
 obtain⟨o,b⟩:=s;unfold fd at h
 cases b<;>cases o<;>simp only[cond_true,cond_false,gN,eJ,di,iC,kN,jU]at h
 ·cases Pp:(x.toNat==34)<;>rw[Pp]at h<;>simp only[cond_true,cond_false]at h
  ·cases hc:(x.toNat==c.toNat)<;>rw[hc]at h<;>simp at h
   subst h;simp
  ·injection h with h;subst h;simp
 ·cases h92:(x.toNat==92)<;>rw[h92]at h<;>simp only[cond_true,cond_false]at h
  ·cases Pp:(x.toNat==34)<;>rw[Pp]at h<;>simp only[cond_true,cond_false]at h
   ·injection h with h;subst h;simp
   ·injection h with h;subst h;simp
  ·injection h with h;subst h;simp
 ·injection h with h;subst h;simp
 ·injection h with h;subst h;simp
theorem wK(c:UInt8):∀(l:List UInt8)(s t:Bool × Bool),(s.2=true->s.1=true)->jo c s l=some t->t.2=true->t.1=true
 | [],s,t,hs,h=>by rw[jo]at h;injection h with h;subst h;exact hs
 |x::r,s,t,hs,h=>by
  rw[jo]at h
  cases hq:fd c s x with
  |none=>rw[hq]at h;cases h
  |some u=>rw[hq]at h;exact wK c r u t (xV hq) h
def sH(c:UInt8)(p:List UInt8):Prop:=jo c (false,false) p=some (false,false)
theorem Bt{c x:UInt8}(hx:br.contains x=true)(hc:br.contains c=false)(o b:Bool):fd c (o,b) x=some (o,false):=by
 have Ng:(x.toNat==c.toNat)=false:=by
  cases h:(x.toNat==c.toNat)
  ·rfl
  ·have:x=c:=by rw[<-UInt8.toNat_inj];simpa using h
   subst this;rw[hx]at hc;cases hc
 have:x=32\/x=9:=by simpa[br]using hx
 have h2:(x.toNat==92)=false/\(x.toNat==34)=false:=by rcases this with e|e<;>subst e<;>exact⟨rfl,rfl⟩
 unfold fd;rw[Ng,h2.1,h2.2]
 cases b<;>cases o<;>rfl
theorem og{c:UInt8}(hc:br.contains c=false):∀(g:List UInt8)(o b:Bool),(∀x∈g,br.contains x=true)->∃b',jo c (o,b) g=some (o,b')
 | [],o,b,_=>⟨b,rfl⟩
 |x::r,o,b,h=>by
  rw[jo,Bt (h x (by simp)) hc];exact og hc r o false (λy hy=>h y (by simp[hy]))
theorem yj{c:UInt8}(hc:br.contains c=false)(g:List UInt8)(h:∀x∈g,br.contains x=true):jo c (false,false) g=some (false,false):=by
 obtain⟨b',hb⟩:=og hc g false false h;have:=wK c g _ _ (by simp) hb
 cases b'
 ·exact hb
 ·exact absurd (this rfl) (by simp)
theorem CZ(l:List UInt8):∃a b,l=a++(bT l++b)/\(∀x∈a,br.contains x=true)/\∀x∈b,br.contains x=true:=by
 unfold bT Lib.trimS Lib.trimLeftS Lib.trimRightS
 let p:UInt8->Bool:=λc=>br.contains c
 have key:∀m:List UInt8,m=m.takeWhile p++m.dropWhile p/\∀x∈m.takeWhile p,br.contains x=true:=λm=>
  ⟨(List.takeWhile_append_dropWhile).symm,fun x hx=>by have:=List.all_takeWhile (p:=p) (l:=m);rw[dH]at this;exact this x hx⟩
 obtain⟨e1,h1⟩:=key l.reverse;obtain⟨e2,h2⟩:=key (l.reverse.dropWhile p).reverse;refine⟨_,(l.reverse.takeWhile p).reverse,?_,h2,λx hx=>h1 x (by simpa using hx)⟩;rw[<-List.append_assoc];have e3:(l.reverse.dropWhile p).reverse++(l.reverse.takeWhile p).reverse=l:=by rw[<-List.reverse_append,<-e1,List.reverse_reverse]
 conv=>lhs;rw[<-e3,e2]
theorem BS{c:UInt8}(hc:br.contains c=false){l:List UInt8}(h:sH c l):sH c (bT l):=by
 obtain⟨a,b,e,ha,hb⟩:=CZ l;unfold sH at*;rw[e,pv,yj hc a ha,Option.bind_some,pv]at h
 cases hq:jo c (false,false) (bT l)with
 |none=>rw[hq]at h;cases h
 |some t=>
  rw[hq,Option.bind_some]at h;obtain⟨o,b0⟩:=t;obtain⟨b',N4⟩:=og hc b o b0 hb;rw[N4]at h;have ho:o=false:=by injection h with h;exact(Prod.mk.inj h).1
  subst ho;have:=wK c _ _ _ (by simp) hq
  cases b0
  ·rfl
  ·exact absurd (this rfl) (by simp)
theorem Iv{ls:List (List UInt8)}{p q:List UInt8}(h:q∈jW ls p):q∈ls\/(q=p/\p≠[]):=by
 unfold jW at h
 cases p with
 |nil=>exact Or.inl h
 |cons x r=>
  rw[show(x::r).isEmpty=false from rfl,cond_false,eB,cA]at h;rcases h with h|h
  ·exact Or.inl h
  ·exact Or.inr ⟨h,by simp⟩
def pw(c:UInt8)(p:List UInt8):Prop:=sH c p/\bT p=p/\p≠[]
theorem wq{c:UInt8}(hc:br.contains c=false){ls:List (List UInt8)}{cur:List UInt8}(P4:∀p∈ls,pw c p)(h:sH c cur):∀p∈jW ls (bT cur),pw c p:=by
 intro p hp;rcases Iv hp with hp|⟨rfl,Ng⟩
 ·exact P4 p hp
 ·exact⟨BS hc h,By _,Ng⟩
theorem nh(c sep:UInt8)(hc:br.contains c=false):∀(l:List UInt8)(o b:Bool)(cur:List UInt8)(ls ps:List (List UInt8)),(b=true->o=true)->jo c (false,false) cur=some (o,b)->(∀p∈ls,pw c p)->(c=sep\/(jo c (o,b) l).isSome=true)->ea sep o b cur ls l=some ps->∀p∈ps,pw c p
 | [],o,b,cur,ls,ps,hi,hr,P4,_,h=>by
  rw[ea]at h
  cases o
  ·simp only[cond_false,Option.some.injEq]at h;subst h;have hb:b=false:=by cases b with|false=>rfl|true=>exact absurd (hi rfl) (by simp)
   subst hb;exact wq hc P4 hr
  ·simp at h
 |x::r,o,b,cur,ls,ps,hi,hr,P4,hd,h=>by
  have ih:=nh c sep hc r
  have next:∀o' b',fd c (o,b) x=some (o',b')->ea sep o' b' (cur++[x]) ls r=some ps->∀p∈ps,pw c p:=by
   intro o' b' Nd Vp;refine ih o' b' (cur++[x]) ls ps (xV Nd) ?_ P4 ?_ Vp
   ·rw[pv,hr,Option.bind_some,jo,Nd];rfl
   ·rcases hd with hd|hd
    ·exact Or.inl hd
    ·rw[jo,Nd]at hd;exact Or.inr hd
  rw[ea]at h
  cases b
  ·simp only[cond_false]at h
   cases h92:(o&&x.toNat==92)<;>rw[h92]at h<;>simp only[cond_true,cond_false]at h
   ·cases Pp:(x.toNat==34)<;>rw[Pp]at h<;>simp only[cond_true,cond_false]at h
    ·cases hs:(x.toNat==sep.toNat&&!o)<;>rw[hs]at h<;>simp only[cond_true,cond_false]at h
     ·-- an ordinary byte
      rcases hd with hd|hd
      ·subst hd;exact next o false (by unfold fd;simp only[cond_false,h92,Pp,hs]) h
      ·cases Nd:fd c (o,false) x with
       |none=>rw[jo,Nd]at hd;cases hd
       |some t=>
        have ht:t=(o,false):=by
         unfold fd at Nd;simp only[cond_false,h92,Pp]at Nd
         cases hq:(x.toNat==c.toNat&&!o)<;>rw[hq]at Nd<;>simp at Nd
         exact Nd.symm
        subst ht;exact next o false Nd h
     ·-- a separator
      have ho:o=false:=by simp at hs;exact hs.2
      subst ho;refine ih false false [] (jW ls (bT cur)) ps (by simp) rfl (wq hc P4 hr) ?_ h;rcases hd with hd|hd
      ·exact Or.inl hd
      ·cases Nd:fd c (false,false) x with
       |none=>rw[jo,Nd]at hd;cases hd
       |some t=>
        have ht:t=(false,false):=by
         unfold fd at Nd;simp only[cond_false,gN,Pp,iC,kN]at Nd
         cases hq:(x.toNat==c.toNat)<;>rw[hq]at Nd<;>simp at Nd
         exact Nd.symm
        subst ht;rw[jo,Nd]at hd;exact Or.inr hd
    ·exact next (!o) false (by unfold fd;simp only[cond_false,h92,Pp,cond_true]) h
   ·have ho:o=true:=by simp at h92;exact h92.1
    subst ho;simp only[eJ]at h92;exact next true true (by unfold fd;simp only[cond_false,eJ,h92,cond_true]) h
  ·have ho:=hi rfl;subst ho;simp only[cond_true]at h;exact next true false rfl h
theorem vK(sep:UInt8):∀(p:List UInt8)(o b b':Bool)(cur:List UInt8)(ls:List (List UInt8)),jo sep (o,b) p=some (false,b')->ea sep o b cur ls p=some (jW ls (bT (cur++p)))
 | [],o,b,b',cur,ls,h=>by
  rw[jo]at h;injection h with h
  obtain⟨rfl,rfl⟩:=Prod.mk.inj h;rw[ea,cond_false,e9]
 |x::r,o,b,b',cur,ls,h=>by
  have ih:=vK sep r;have e:cur++x::r=(cur++[x])++r:=by simp
  rw[jo]at h;rw[ea,e]
  cases b
  ·cases h92:(o&&x.toNat==92)
   ·cases Pp:(x.toNat==34)
    ·cases hs:(x.toNat==sep.toNat&&!o)
     ·have Nd:fd sep (o,false) x=some (o,false):=by unfold fd;simp only[cond_false,h92,Pp,hs]
      rw[Nd]at h;simp only[cond_false];exact ih _ _ _ _ _ h
     ·have Nd:fd sep (o,false) x=none:=by unfold fd;simp only[cond_false,h92,Pp,hs,cond_true]
      rw[Nd]at h;cases h
    ·have Nd:fd sep (o,false) x=some (!o,false):=by unfold fd;simp only[cond_false,h92,Pp,cond_true]
     rw[Nd]at h;simp only[cond_false,cond_true];exact ih _ _ _ _ _ h
   ·have Nd:fd sep (o,false) x=some (o,true):=by unfold fd;simp only[cond_false,h92,cond_true]
    rw[Nd]at h;simp only[cond_false,cond_true];exact ih _ _ _ _ _ h
  ·have Nd:fd sep (o,true) x=some (o,false):=by unfold fd;simp only[cond_true]
   rw[Nd]at h;simp only[cond_true];exact ih _ _ _ _ _ h
theorem zK{sep:UInt8}{l:List UInt8}(h:(ax sep l).2=0):ea sep false false [] [] l=some (ax sep l).1:=by
 unfold ax at*
 cases hq:(sep.toNat==34||sep.toNat==92)<;>rw[hq]at h
 ·simp only[cond_false]at*;unfold fG at*
  cases hs:ea sep false false [] [] l with
  |none=>rw[hs]at h;cases h
  |some ls=>
   rw[hs]at h;simp only at*
   cases hd:decide (64<ls.length)<;>rw[hd]at h
   ·rfl
   ·cases h
 ·cases h
theorem Bu{sep:UInt8}(hc:br.contains sep=false){l:List UInt8}(h:(ax sep l).2=0):∀p∈(ax sep l).1,pw sep p:=nh sep sep hc l false false [] [] _ (by simp) rfl (by simp) (Or.inl rfl) (zK h)
theorem zk{c sep:UInt8}(hc:br.contains c=false){l:List UInt8}(hl:sH c l)(h:(ax sep l).2=0):∀p∈(ax sep l).1,pw c p:=nh c sep hc l false false [] [] _ (by simp) rfl (by simp) (Or.inr (by unfold sH at hl;rw[hl];rfl)) (zK h)
theorem FA{sep:UInt8}(h1:(sep.toNat==34)=false)(h2:(sep.toNat==92)=false){p:List UInt8}(h:pw sep p):ax sep p=([p],0):=by
 unfold ax;rw[h1,h2,show(false||false)=false from rfl,cond_false,vK sep p false false false [] [] h.1,lp,h.2.1]
 have:jW [] p=[p]:=by
  cases hp:p with
  |nil=>exact absurd hp h.2.2
  |cons x r=>rfl
 rw[this];rfl
def lM:da:=⟨noStore,[],false,[]⟩
def lj(l:List da)(f:List UInt8):List da:=match l with
 | [d]=>[⟨d.name,d.value,d.has,bif f.isEmpty then d.for_ else f⟩]
 |_=>[]
def AL(p:List UInt8):List da:=
 bif(ax 59 p).2 !=0 then [lM]else match (ax 59 p).1 with
 | [a]=>lj (bD [a]) []
 | [a,b]=>bif be b then lj (bD [a]) b else []
 |_=>[]
def jd(p:List UInt8):List da:=
 bif(ax 59 p).2 !=0 then [lM]else match (ax 59 p).1 with
 | [a]=>lj (dZ a).toList []
 | [a,b]=>bif be b then lj (dZ a).toList b else []
 |_=>[]
theorem zy{a:List UInt8}(h:pw 44 a):bD [a]=(dZ a).toList:=by
 unfold bD oh wU;rw[jk,List.flatMap_nil,e9,FA rfl rfl h];show List.filterMap dZ [a]=_
 rw[List.filterMap_cons]
 cases dZ a<;>rfl
theorem Ir{v p:List UInt8}(hv:(ax 44 v).2=0)(hp:p∈(ax 44 v).1):AL p=jd p:=by
 have h1:=Bu (sep:=44) (by decide) hv p hp;unfold AL jd
 cases hz:((ax 59 p).2 !=0)
 ·have hz':(ax 59 p).2=0:=by simpa[bne]using hz
  have h2:=zk (c:=44) (by decide) h1.1 hz';simp only[cond_false]
  cases Pb:(ax 59 p).1 with
  |nil=>rfl
  |cons a r=>
   rw[Pb]at h2;have ha:=zy (h2 a (by simp))
   cases r with
   |nil=>simp only[ha]
   |cons b r2=>
    cases r2 with
    |nil=>simp only[ha]
    |cons _ _=>rfl
 ·rfl
def cY(vs:List (List UInt8)):List da:=vs.flatMap λv=>bif(ax 44 v).2==0 then(ax 44 v).1.flatMap jd else [lM]
def pm(dev:List UInt8)(d:da):Bool:=!dev.isEmpty&&d.for_==dev
def qF(l:List da)(dev:List UInt8)(d:da):Bool:=pm dev d||(d.for_.isEmpty&&!l.any λx=>pm dev x&&x.name==d.name)
def tI(l:List da)(dev:List UInt8):List da:=l.filter (qF l dev)
structure ue where
 noStore:Bool
 noRemote:Bool
 esi:Bool
 hasAge:Bool
 age:Int
 extra:Int
deriving DecidableEq
def fY(l:List da)(nm:List UInt8):Option (List UInt8):=(l.find? λd=>d.name==nm).map da.value
def iw(w:List UInt8):List UInt8->List UInt8->Bool
 |cur,[]=>cur==w
 |cur,c::r=>bif br.contains c then(cur==w)||iw w [] r else iw w (cur++[c]) r
def zJ:List UInt8:=[69,83,73,47,49,46,48]
def lR:List UInt8:=[110,111,45,115,116,111,114,101,45,114,101,109,111,116,101]
def lm:List UInt8:=[99,111,110,116,101,110,116]
def ia:List UInt8:=[109,97,120,45,97,103,101]
def agesL(v:List UInt8):Int × Int:=bif fC (Lib.cut v [43]).1&&(fC (Lib.cut v [43]).2.1==(Lib.cut v [43]).2.2)then(le (val (Lib.cut v [43]).1),bif fC (Lib.cut v [43]).2.1 then le (val (Lib.cut v [43]).2.1)else 0)else(0,0)
def Fc(l:List da):ue:=⟨(fY l noStore).isSome,(fY l lR).isSome,match fY l lm with|some v=>iw zJ [] v|none=>false,(fY l ia).isSome,match fY l ia with|some v=>(agesL v).1|none=>0,match fY l ia with|some v=>(agesL v).2|none=>0⟩
def vj(vs:List (List UInt8))(dev:List UInt8):ue:=Fc (tI (cY vs) dev)
def mo:List UInt8:=[100,97,116,101]
def oj:List UInt8:=[97,103,101]
def yS:List UInt8:=[101,120,112,105,114,101,115]
def mJ:List UInt8:=[99,97,99,104,101,45,99,111,110,116,114,111,108]
def jb:List UInt8:=[115,117,114,114,111,103,97,116,101,45,99,111,110,116,114,111,108]
def oK:List UInt8:=[110,111,45,99,97,99,104,101]
def oZ:List UInt8:=[115,45,109,97,120,97,103,101]
def oS(xs:List aU)(dev:List UInt8):ue:=vj (af xs jb) dev
def iT(xs:List aU)(nm:List UInt8)(got:Int):Int × Bool:=bif(c_ xs nm).2 then((kJ (c_ xs nm).1 got).1,(kJ (c_ xs nm).1 got).2==0)else(0,false)
def qW(s:List UInt8):Int:=bif fC s then le (val s)else 0
def mC(none:Bool)(nm:List UInt8)(xs:List aU):Int × Bool:=
 match ml (bD (af xs mJ)) nm with
 |some d=>(bif none then 0 else qW d.value,true)
 |Option.none=>(0,false)
def EH(xs:List aU)(dev:List UInt8):Int × Bool:=(le (oS xs dev).age,(oS xs dev).hasAge)
def Fy(xs:List aU)(got:Int):Int × Bool:=bif(c_ xs yS).2 then(bif(iT xs yS got).2 then(gP (bif(iT xs mo got).2 then(iT xs mo got).1 else got) (iT xs yS got).1,true)else(0,true))else(0,false)
def nQ:List (Int × Bool)->Int
 | []=>0
 |r::l=>bif r.2 then r.1 else nQ l
def zX(xs:List aU)(got:Int)(dev:List UInt8):Int:=nQ [EH xs dev,mC true oK xs,mC false oZ xs,mC false ia xs,Fy xs got]
def dz(xs:List aU)(asked got now:Int):Int:=xK (max (bif(iT xs mo got).2 then gP (iT xs mo got).1 got else 0) (xK (qW (c_ xs oj).1) (gP asked got))) (gP got now)
theorem gM{xs:List aU}{nm v:List UInt8}(h:v∈af xs nm):v.length<=aE xs:=by obtain⟨f,hf,rfl⟩:=eY.1 h;have:=bM (lD.1 hf).1;omega
theorem JE(a b:Int):0<=xK a b:=ma _
theorem Kh(a b:Int):xK a b<=2147483648:=lP _
theorem IU(a b:Int):0<=gP a b:=ma _
theorem Ip(a b:Int):gP a b<=2147483648:=lP _
theorem B6(s:List UInt8):kY s=.tuple #[.int .i64 (qW s),.bool (fC s)]:=by unfold kY qW;cases fC s<;>rfl
def mE:List UInt8:=[71,69,84]
def nk:List UInt8:=[72,111,115,116]
def tO:List UInt8:=[104,111,115,116]
def oW:List UInt8:=[83,117,114,114,111,103,97,116,101,45,67,97,112,97,98,105,108,105,116,121]
def oT:List UInt8:=[65,103,101]
def IW:List UInt8:=[78,111,116,32,77,111,100,105,102,105,101,100]
def gS(req:List aU)(nm:List UInt8):List aU:=bif(c_ req nm).2&&(bR [(nm,(c_ req nm).1)]==0)then [(nm,(c_ req nm).1)]else []
def tK(u:fg):List UInt8:=u.host++(bif u.port==0 then []else 58::Lib.itoa u.port)
def uD(u:fg):List UInt8:=u.path++(bif u.hasQ then 63::u.query else [])
def oE(dev:List UInt8)(fwd:List (List UInt8))(u:fg)(req asks:List aU):oV:=⟨mE,uD (db u),1,((([(nk,tK (db u))]++(bif(jI dev).isEmpty then []else [(oW,jI dev)]))++fwd.flatMap (gS req))++asks),[]⟩
def jL(dev:List UInt8)(fwd:List (List UInt8))(u:fg)(req asks:List aU):List UInt8:=(cm (oE dev fwd u req asks)).1
def aI(xs:List aU):List aU:=dL (dc xs) [fW]
def eo(xs:List aU):List aU:=dL (dc xs) [jb,fW,oj]
def rh(r:lu)(age:List UInt8)(nm:Bool):lu:=⟨bif nm then 304 else r.status,bif nm then IW else r.reason,1,eo r.fields++[(oT,age)],bif nm then []else r.body⟩
def xU:List UInt8:=[104,116,116,112,58,47,47]
def fx(home:List UInt8)(q:oV):fg × Bool:=
 let l:=af q.fields tO
 let l2:=bif l.isEmpty&&(q.minor==0)then [home]else l
 bif q.target.headD 0==47 then(bif l2.length !=1 then(fg.none,false)else((dD (xU++(l2.headD []++q.target))).1,(dD (xU++(l2.headD []++q.target))).2==0))
 else((dD q.target).1,(dD q.target).2==0)
theorem mN{p:UInt8->Bool}:∀l:List UInt8,(∀c∈l,p c=false)->l.dropWhile p=l
 | [],_=>rfl
 |c::r,h=>by rw[IR (by rw[h c (by simp)];decide)]
theorem II{l:List UInt8}(h:∀c∈l,br.contains c=false):bT l=l:=by unfold bT Lib.trimS Lib.trimLeftS Lib.trimRightS;rw[mN l.reverse (λc hc=>h c (by simpa using hc)),List.reverse_reverse,mN l h]
def GR(c:UInt8):Bool:=jN c&&!br.contains c
theorem rD{l:List UInt8}(h:∀c∈l,GR c=true):kE l=true:=by
 unfold kE;rw[eA,dH,beq_iff_eq];refine⟨λc hc=>?_,II λc hc=>?_⟩
 ·have:=h c hc;unfold GR at this;rw[eA]at this;exact this.1
 ·have:=h c hc;unfold GR at this;rw[eA]at this;simpa using this.2
theorem Gm:∀n:Fin 256,iZ.contains (UInt8.ofNat n.val)=true->GR (jc (UInt8.ofNat n.val))=true:=by decide +kernel
theorem J6{c:UInt8}(h:iZ.contains c=true):GR (jc c)=true:=by have:=Gm ⟨c.toNat,c.toNat_lt⟩;simp only[UInt8.ofNat_toNat]at this;exact this h
theorem J2:∀n:Fin 256,f_ (UInt8.ofNat n.val)=true->GR (UInt8.ofNat n.val)=true:=by decide +kernel
theorem LZ{c:UInt8}(h:f_ c=true):GR c=true:=by have:=J2 ⟨c.toNat,c.toNat_lt⟩;simp only[UInt8.ofNat_toNat]at this;exact this h
theorem xq(u:Nat):∀c∈Lib.itoa (u:Int),GR c=true:=by rw[tH];exact λc hc=>LZ ((pG u).2.1 c hc)
theorem rS:Lib.itoa 1=[49]:=by unfold Lib.itoa;rw[if_neg (by decide),show(1:Int).toNat=1 from rfl];unfold Lib.decDigits;rfl
theorem mT(n:Int)(h0:0<=n)(h1:n<=1000000000000):(Lib.itoa n).length<=21:=bj (Lib.itoa_length_le n (by omega) (by omega)) (by decide)
theorem fU{u:fg}(h:cj u=0):wR u=false/\(kV u).length<=1024:=by
 unfold cj at h
 cases hb:wR u
 ·rw[hb,cond_false]at h;refine⟨rfl,?_⟩
  cases h2:decide (1024<(kV u).length)
  ·simpa using h2
  ·rw[h2]at h;cases h
 ·rw[hb]at h;cases h
structure Mp(u:fg):Prop where
 scheme:u.scheme=gF\/u.scheme=fQ
 host:u.host.length<=253
 hostc:∀c∈u.host,iZ.contains c=true
 port:0<=u.port/\u.port<=65535
 path0:u.path.headD 0=47
 path:kT u.path kQ=true
 query:kT u.query jH=true
theorem iE{u:fg}(h:wR u=false):Mp u:=by
 unfold wR at h;simp only[qV]at h;obtain⟨⟨⟨⟨h1,⟨VG,h2b⟩,h2c⟩,XN,h3b⟩,Xx,h4b⟩,ZB,h5b⟩:=h;refine⟨?_,by simpa using h2b,?_,⟨by simpa using XN,by simpa using h3b⟩,by simpa using Xx,by simpa using h4b,by simpa using h5b⟩
 ·by_cases e:u.scheme=gF
  ·exact Or.inl e
  ·have e2:(u.scheme !=gF)=true:=by simpa using e
   rw[e2,eJ]at h1;exact Or.inr (by simpa using h1)
 ·have:u.host.all iZ.contains=true:=by simpa using h2c
  exact λc hc=>dH.1 this c hc
theorem kH{u:fg}(h:cj u=0):db u=⟨u.scheme,ai u.host,bif((u.scheme==gF)&&(u.port==80))||((u.scheme==fQ)&&(u.port==443))then 0 else u.port,nf (iD u.path),iD u.query,u.hasQ⟩:=by unfold db;rw[h];rfl
theorem E_{s:List UInt8}(h:s.headD 0=47):(iD s).headD 0=47:=by
 cases s with
 |nil=>simp at h
 |cons c r=>
  have hc:c=47:=by simpa using h
  subst hc;unfold iD;rw[pL 47 r (by decide),jk];rfl
theorem oO(u:fg):(kV u).length=u.scheme.length+3+u.host.length+(bif u.port==0 then 0 else 1+(Lib.itoa u.port).length)+u.path.length+(bif u.hasQ then 1+u.query.length else 0):=by
 unfold kV
 cases(u.port==0)<;>cases u.hasQ<;>simp[pH]<;>omega
theorem xk{u:fg}(hc:cj u=0):aZ fv (uD (db u))=true/\(uD (db u)).length<=1024/\(uD (db u)).headD 0=47/\(db u).path.length<=u.path.length/\(db u).query.length<=u.query.length:=by
 obtain⟨hb,hl⟩:=fU hc;have hg:=iE hb;rw[oO]at hl;rw[kH hc];unfold uD;simp only
 obtain⟨p1,p2⟩:=pX yC hg.path;obtain⟨q1,q2⟩:=pX EN hg.query;obtain⟨d1,d2,d3⟩:=DT p2 (E_ hg.path0);generalize nf (iD u.path)=pp at*;generalize iD u.query=qq at*;refine⟨?_,?_,?_,by omega,q1⟩
 ·unfold aZ at*;rw[n7,d2,eJ]
  cases u.hasQ
  ·rfl
  ·rw[cond_true,jh,q2];rfl
 ·rw[bP]
  cases hq:u.hasQ
  ·rw[hq]at hl;simp only[cond_false,ic]at*;omega
  ·rw[hq]at hl;simp only[cond_true,cg]at*;omega
 ·cases pp with
  |nil=>simp at d3
  |cons c r=>simpa using d3
theorem FK{s:List UInt8}(h:((dD s).2==0)=true):cj (dD s).1=0:=by
 unfold dD at*
 cases h1:decide (1024<s.length)
 ·rw[h1,cond_false]at h;rw[cond_false];simp only at*
  cases h2:vg (oG s).2.1 with
  |none=>rw[h2]at h;cases h
  |some hp=>
   rw[h2]at h;simp only at*
   generalize hu:(⟨(oG s).1,hp.1,hp.2,(oG s).2.2.1,(oG s).2.2.2.1,(oG s).2.2.2.2⟩:fg)=u at*
   cases h3:(cj u==0)
   ·rw[h3,cond_false]at h;simp only at h
    rw[h3]at h;cases h
   ·rw[cond_true];simpa using h3
 ·rw[h1]at h;cases h
theorem GK(s:List UInt8):(oG s).2.2.1.length+(oG s).2.2.2.1.length<=s.length+1:=by
 have h1:=h_ s pH;unfold oG;simp only
 generalize Lib.cut s pH=c at*;obtain⟨a,r,b⟩:=c;simp only at*
 have h2:=h_ r [63]
 have h3:(Lib.cut r [63]).1.length+(Lib.cut r [63]).2.1.length<=r.length:=by
  cases hx:(Lib.cut r [63]).2.2
  ·unfold Lib.cut at*;by_cases h0:0<=Lib.index r [63]
   ·rw[if_pos h0]at hx;cases hx
   ·rw[if_neg h0];simp
  ·have:=(j_ hx).1;omega
 generalize Lib.cut r [63]=d at*;obtain⟨x,y,z⟩:=d;simp only at*
 generalize (bif decide (Lib.indexByte x 47<0)then x.length else(Lib.indexByte x 47).toNat)=k
 cases hd:(x.drop k).isEmpty
 ·rw[cond_false,gH];omega
 ·rw[cond_true];simp;omega
theorem sL{s:List UInt8}(h:((dD s).2==0)=true):(dD s).1.path.length+(dD s).1.query.length<=s.length+1:=by
 have hr:=GK s;unfold dD at*
 cases h1:decide (1024<s.length)
 ·rw[h1,cond_false]at h;rw[cond_false];simp only at*
  cases h2:vg (oG s).2.1 with
  |none=>rw[h2]at h;cases h
  |some hp=>
   rw[h2]at h;simp only at*
   generalize hu:cj (⟨(oG s).1,hp.1,hp.2,(oG s).2.2.1,(oG s).2.2.2.1,(oG s).2.2.2.2⟩:fg)=e at*
   cases h3:(e==0)
   ·rw[h3,cond_false]at h;simp only at h
    rw[h3]at h;cases h
   ·rw[cond_true];exact hr
 ·rw[h1]at h;cases h
theorem JH{u:fg}(hc:cj u=0)(hp:u.path.length+u.query.length<=400):(nI u).length<=1000:=by
 have hg:=iE (fU hc).1;obtain⟨_,_,_,t4,t5⟩:=xk hc;unfold nI pP
 cases cj (db u)==0
 ·simp
 ·rw[cond_true,oO];have hs:(db u).scheme=u.scheme:=by rw[kH hc]
  have hh:(db u).host=ai u.host:=by rw[kH hc]
  have Wp:0<=(db u).port/\(db u).port<=65535:=by
   rw[kH hc];simp only
   have:=hg.port
   cases(((u.scheme==gF)&&(u.port==80))||((u.scheme==fQ)&&(u.port==443)))
   ·exact this
   ·rw[cond_true];exact⟨by decide,by decide⟩
  have hi:=mT _ Wp.1 (by omega);have Rg:u.scheme.length<=5:=by rcases hg.scheme with e|e<;>rw[e]<;>decide
  have hhl:(ai u.host).length<=253:=by unfold ai;rw[eE];exact hg.host
  rw[hs,hh]
  cases((db u).port==0)<;>cases(db u).hasQ<;>simp only[cond_true,cond_false]<;>omega
theorem A8:∀xs:List aU,(∀f∈xs,fP f)->aE xs<=xs.length*2046
 | [],_=>by simp[aE]
 |x::r,h=>by
  have h1:=A8 r (λf hf=>h f (by simp[hf]));have h2:=(h x (by simp)).2;unfold g_ at h2;unfold aE at*;rw[bw,dG,cg];simp at h2
  omega
theorem oX{n v:List UInt8}(h1:be n=true)(h2:kE v=true)(h3:n.length+2+v.length<=2048):fP (n,v):=by
 unfold fP mO g_;simp only
 rw[h1,h2];exact⟨rfl,by simp;omega⟩
theorem D6(len:Int)(h:len<=300000):(∀f∈gU len,fP f)/\(gU len).length<=1/\aE (gU len)<=35:=by
 unfold gU
 cases h0:decide (0<=len)
 ·simp[aE]
 ·rw[cond_true];simp only[decide_eq_true_eq]at h0;obtain⟨u,rfl⟩:∃u:Nat,len=(u:Int):=⟨len.toNat,by omega⟩;have hl:=mT (u:Int) (by omega) (by omega);have hz:FN.length=14:=rfl;refine⟨λf hf=>?_,by simp,?_⟩
  ·rw[cA.1 hf];exact oX (by decide) (rD (xq u)) (by omega)
  ·simp[aE];omega
theorem A6{start body:List UInt8}{xs:List aU}{len:Int}(hg:∀f∈xs,fP f)(hn:xs.length<=60)(hl:len<=300000)(hz:start.length+aE xs+4*xs.length<=8000):(jP start xs len body).2=0:=by
 obtain⟨g1,g2,g3⟩:=D6 len hl;have hd:=eU xs [fW,je];have hs:=fK xs [fW,je]
 have Sa:bR (dL xs [fW,je]++gU len)=0:=(kR _).2 ⟨by rw[bP];omega,fun f hf=>by
  rcases eB.1 hf with h|h
  ·exact hg f (lD.1 h).1
  ·exact g1 f h⟩
 have hp:=so (dL xs [fW,je]++gU len);rw[gj,bP]at hp;unfold jP;simp only
 rw[Sa,show((0:Int)!=0)=false from rfl,cond_false];rw[decide_eq_false (by rw[bP,bP,bP,show aK.length=2 from rfl];omega),cond_false]
theorem FC(req:List aU)(nm:List UInt8):(gS req nm).length<=1/\∀f∈gS req nm,fP f:=by
 unfold gS
 cases h:((c_ req nm).2&&(bR [(nm,(c_ req nm).1)]==0))
 ·simp
 ·rw[eA]at h;exact⟨by simp,((kR _).1 (by simpa using h.2)).2⟩
theorem AI(req:List aU):∀fwd:List (List UInt8),(fwd.flatMap (gS req)).length<=fwd.length/\∀f∈fwd.flatMap (gS req),fP f
 | []=>by simp
 |n::r=>by
  obtain⟨h1,h2⟩:=AI req r;obtain⟨h3,h4⟩:=FC req n;rw[jk,bP,cg];refine⟨by omega,λf hf=>?_⟩;rcases eB.1 hf with h|h
  ·exact h4 f h
  ·exact h2 f h
theorem Bf{u:fg}(hc:cj u=0):(tK (db u)).length<=275/\kE (tK (db u))=true:=by
 have hg:=iE (fU hc).1;rw[kH hc];unfold tK;simp only
 have Wp:∃p:Nat,(bif((u.scheme==gF)&&(u.port==80))||((u.scheme==fQ)&&(u.port==443))then 0 else u.port)=(p:Int)/\p<=65535:=by
  have:=hg.port
  cases(((u.scheme==gF)&&(u.port==80))||((u.scheme==fQ)&&(u.port==443)))
  ·exact⟨u.port.toNat,by rw[cond_false];omega,by omega⟩
  ·exact⟨0,rfl,by decide⟩
 obtain⟨p,hp,RN⟩:=Wp;rw[hp];have hi:=mT (p:Int) (by omega) (by omega);have hhl:(ai u.host).length<=253:=by unfold ai;rw[eE];exact hg.host
 have hh:∀c∈ai u.host,GR c=true:=by intro c hc;unfold ai at hc;obtain⟨d,hd,rfl⟩:=eY.1 hc;exact J6 (hg.hostc d hd)
 cases((p:Int)==0)
 ·refine⟨by rw[cond_false,bP,cg];omega,rD λc hc=>?_⟩;rw[cond_false]at hc;rcases eB.1 hc with h|h
  ·exact hh c h
  ·rcases cZ.1 h with rfl|h
   ·decide
   ·exact xq p c h
 ·refine⟨by rw[cond_true,e9];omega,rD λc hc=>?_⟩;rw[cond_true,e9]at hc;exact hh c hc
theorem GI(dev:List UInt8)(hd:dev=[100]):(∀f∈(bif(jI dev).isEmpty then []else [(oW,jI dev)]:List aU),fP f)/\(bif(jI dev).isEmpty then []else [(oW,jI dev)]:List aU).length<=1/\aE (bif(jI dev).isEmpty then []else [(oW,jI dev)])<=100:=by
 subst hd;refine⟨λf hf=>?_,by decide,by decide⟩;have:(bif(jI [100]).isEmpty then []else [(oW,jI [100])]:List aU)=[(oW,[100,61,34,83,117,114,114,111,103,97,116,101,47,49,46,48,32,69,83,73,47,49,46,48,34])]:=by decide
 rw[this]at hf;rw[cA.1 hf];exact oX (by decide) (by decide) (by decide)
theorem FY{u:fg}(hc:cj u=0)(dev:List UInt8)(hd:dev=[100])(fwd:List (List UInt8))(hf:fwd.length<=2)(req:List aU):(cm (oE dev fwd u req [])).2=0/\jL dev fwd u req []≠[]:=by
 obtain⟨t1,t2,t3,_,_⟩:=xk hc;obtain⟨o1,o2⟩:=Bf hc;obtain⟨c1,c2,c3⟩:=GI dev hd;obtain⟨f1,f2⟩:=AI req fwd;have f3:=A8 _ f2
 have Ng:(uD (db u)).isEmpty=false:=by
  cases h:uD (db u)with
  |nil=>rw[h]at t3;simp at t3
  |cons _ _=>rfl
 have key:(cm (oE dev fwd u req [])).2=0:=by
  unfold cm oE;simp only[e9];generalize (bif(jI dev).isEmpty then []else [(oW,jI dev)]:List aU)=cp at*;generalize fwd.flatMap (gS req)=fw at*;generalize uD (db u)=tg at*;generalize tK (db u)=ho at*
  have Oe:cy mE tg 1=(mE++([32]++(tg++([32]++(fO++Lib.itoa 1)))),0):=by
   unfold cy iu;rw[show be mE=true from by decide,Ng,t1]
   have hlen:(mE++([32]++(tg++([32]++(fO++Lib.itoa 1))))).length=tg.length+13:=by simp[mE,fO,rS]
   simp only[di,Bool.or_self,show decide ((1:Int)<0)=false from by decide,show decide ((1:Int)<1)=false from by decide,cond_false];rw[hlen,decide_eq_false (by omega)];simp only[cond_false,beq_self_eq_true,eJ];rw[decide_eq_false (by omega),cond_false]
  rw[Oe];simp only[show((0:Int)!=0)=false from rfl,cond_false,ic,List.isEmpty_nil,di,ig,show mn.contains mE=false from by decide];rw[show decide (65536<0)=false from by decide,cond_false];refine A6 (λf hf=>?_) ?_ (by decide) ?_
  ·rcases eB.1 hf with h|h
   ·rcases eB.1 h with h|h
    ·rw[cA.1 h];exact oX (by decide) o2 (by have:nk.length=4:=rfl;omega)
    ·exact c1 f h
   ·exact f2 f h
  ·simp only[bP,dM];omega
  ·rw[gj,gj];have:aE [(nk,ho)]=4+ho.length:=by simp[aE,nk]
   simp only[bP,dM];simp[mE,fO,rS]
   omega
 refine⟨key,λh=>?_⟩;unfold jL at h;have hr:=@zh (oE dev fwd u req []) (cm (oE dev fwd u req [])).1 (by rw[<-key]) rfl (by show mn.contains mE=false;decide);rw[h]at hr;have:(rl []).2.2=0:=by rw[hr]
 revert this
 decide
def NS(n:Nat)(w:World)(sc ho:ByteArray)(po:Int)(hq:Bool)(pa qu:ByteArray)(W:World):Prop:=gu n sc ho po pa qu hq W/\gu (n+1) ⟨#[]⟩ ⟨#[]⟩ 0 ⟨#[]⟩ ⟨#[]⟩ false W/\Below n w W
section
variable {n:Nat}{w W W':World}{sc ho pa qu x:ByteArray}{po:Int}{hq:Bool}
theorem NS.below(hb:Below W.heap.size W W')(h:NS n w sc ho po hq pa qu W):NS n w sc ho po hq pa qu W':=⟨h.1.below hb,h.2.1.below hb,h.2.2.trans (hb.mono (dF h.1.lt))⟩
theorem NS.drew(h:NS n w sc ho po hq pa qu W):NS n w sc ho po hq pa qu W.drew:=h.below (aO _ _).drew
theorem NS.s3(h:NS n w sc ho po hq pa qu W):NS n w sc ho po hq x qu (W.setCell ⟨n,3,none⟩ (.string x)):=⟨h.1.s3,h.2.1.other (by omega),h.2.2.setCell (aw n) _⟩
theorem NS.s4(h:NS n w sc ho po hq pa qu W):NS n w sc ho po hq pa x (W.setCell ⟨n,4,none⟩ (.string x)):=⟨h.1.s4,h.2.1.other (by omega),h.2.2.setCell (aw n) _⟩
theorem NS.facts(h:NS n w sc ho po hq pa qu W):W.cell? ⟨n,3,none⟩=some (.string pa)/\W.cell? ⟨n,4,none⟩=some (.string qu)/\W.frozen? ⟨n,3,none⟩=false/\W.frozen? ⟨n,4,none⟩=false:=by obtain⟨-,-,-,c3,c4,-⟩:=h.1.cells;exact⟨c3,c4,h.1.free 3,h.1.free 4⟩
end
theorem rT(u:fg)(w:World)(hM:cq w)(hT:dV w)(hu:lI u):Calls Tryz.prog 132 #[dR u] w λe w'=>e=.returned (dR (db u))/\Below w.heap.size w w':=by
 have k1:=λW hb=>lS u W (hM.below hb) (hT.on hb) hu
 unfold db
 have QK:cj u=0->u.path.length<=1024/\(iD u.path).length<=1024:=λh=>by obtain⟨hb,hl⟩:=fU h;rw[oO]at hl;have h1:=(pX yC (iE hb).path).1;omega
 obtain⟨sc,ho,po,pa,qu,hq⟩:=u;obtain⟨i1,i2,i3,i4,i5⟩:=hu;obtain⟨sb,rfl⟩:∃b:ByteArray,sc=b.data.toList:=⟨⟨sc.toArray⟩,rfl⟩;unfold dR at*;simp only[bN]at*;generalize cj ⟨sb.data.toList,ho,po,pa,qu,hq⟩=c at*;obtain⟨WA,NK⟩:=bg w (.cells #[.string sb,.string ⟨ho.toArray⟩,.int .i64 po,.string ⟨pa.toArray⟩,.string ⟨qu.toArray⟩,.bool hq] 93);obtain⟨W0,Nb⟩:=bg WA Kk;have Wm:=bm NK;have RQ:=bm Nb;have Nm:=bt Wm RQ;have hz:WA.heap.size=w.heap.size+1:=by rw[<-NK];simp
 have hA:gu w.heap.size sb ⟨ho.toArray⟩ po ⟨pa.toArray⟩ ⟨qu.toArray⟩ hq W0:=gu.below (by rw[<-NK];exact ay w _ _ rfl) RQ;have hR:gu (w.heap.size+1) ⟨#[]⟩ ⟨#[]⟩ 0 ⟨#[]⟩ ⟨#[]⟩ false W0:=by rw[<-Nb,<-hz];exact ay WA _ _ rfl
 obtain⟨c0,c1,c2,c3,c4,c5⟩:=hA.cells;have kk:=k1 W0 Nm;obtain⟨Tn,Nl,HA,HR,K1⟩:=gB NK Nb hA hR kk;clear NK Nb hA hR k1 kk Wm RQ;by_cases hc:c=0
 ·subst hc;obtain⟨hp1,RN⟩:=QK rfl;rw[show((0:Int)!=0)=false from rfl,cond_false];unfold gF fQ;rw[<-dY sb];obtain⟨b1,M8⟩:=aH (sb.toList==[104,116,116,112]);obtain⟨b2,M9⟩:=aH (sb.toList==[104,116,116,112,115]);obtain⟨b3,Na⟩:=aH (po==80);obtain⟨b4,Nf⟩:=aH (po==443);rw[M8,M9,Na,Nf];rw[dY sb];obtain⟨bb,Sl⟩:=aH ((b1&&b3)||(b2&&b4));rw[Sl];obtain⟨pq,PG⟩:=aH (bif bb then 0 else po);rw[PG];obtain⟨HP,SF,HPQ⟩:=bu (aB M8 (aB M9 (aB Na Nf))) Sl PG;clear M8 M9 Na Nf Sl PG;have kl:=λW=>ju ⟨ho.toArray⟩ W (by rw[aR];exact i2)
  rw[bq]at kl;have ku1:=λW=>yU ⟨pa.toArray⟩ W (by rw[aR];exact i4)
  have ku2:=λW=>yU ⟨qu.toArray⟩ W (by rw[aR];exact i5)
  have kd:=λW hM=>EZ ⟨(iD pa).toArray⟩ W hM (by rw[aR];omega)
  rw[bq]at ku1 ku2 kd;generalize iD qu=uq at*;generalize nf (iD pa)=dp at*;generalize iD pa=up at*;generalize ai ho=lo at*;obtain⟨KL,KU1,KU2,KD⟩:=bK kl ku1 ku2 kd;clear kl ku1 ku2 kd QK;go_enter Tryz.func132,Tryz.ntmps132
  go_upto_region 1 with(fail)
  rw[Tn.out,Nl.out];go_wp2_with fail
  refine K1.out.mono ?_;rintro e w1 ⟨rfl,M8⟩;have Z7:=HA.out.below M8;have O_:=HR.out.below M8;have Ni:=bt Nm M8;obtain⟨c0,c1,c2,c3,c4,c5⟩:=Z7.cells;clear K1 HA HR M8 Nm;go_wp2_with fail
  refine(KL.out _).mono ?_;rintro e w2 ⟨rfl,M9⟩;have hE2:=Z7.below M9;have Xd:=hE2.s1 (x:=⟨lo.toArray⟩);have N3:=(O_.below M9).other (g:=w.heap.size) (j:=1) (u:=.string ⟨lo.toArray⟩) (by omega);have Nk:=(bt Ni M9).setCell (p:=⟨w.heap.size,1,none⟩) (aw _) (.string ⟨lo.toArray⟩);clear Z7 O_ Ni M9 KL;obtain⟨-,e1,-,-,-,-⟩:=hE2.cells;have f1:=hE2.free 1;go_upto_region 4 with(fail)
  generalize w2.setCell ⟨w.heap.size,1,none⟩ (.string ⟨lo.toArray⟩)=W2 at*;clear hE2 e1 f1;obtain⟨c0,c1,c2,c3,c4,c5⟩:=Xd.cells;have f2:=Xd.free 2;go_cut [28]from 11 to 28 (λt wx=>t=.bool bb/\wx=W2)
  case first=>
   obtain⟨q1,q2,q3,q4⟩:=HP.out
   cases b1<;>cases b2<;>cases b3<;>cases b4
   all_goals
    go_wp2_with fail
    go_meet;exact⟨by rw[<-SF.out];rfl,rfl⟩
  case rest=>
   obtain⟨rfl,rfl⟩:=hcut;clear HP;go_upto_if 28 with(fail)
   go_cut [] (λwx=>gu w.heap.size sb ⟨lo.toArray⟩ pq ⟨pa.toArray⟩ ⟨qu.toArray⟩ hq wx/\gu (w.heap.size+1) ⟨#[]⟩ ⟨#[]⟩ 0 ⟨#[]⟩ ⟨#[]⟩ false wx/\Below w.heap.size w wx)
   case first=>
    cases bb
    all_goals
     go_wp2_with fail
     go_meet
     first
      |(rw[<-HPQ.out];exact⟨Xd.s2,N3.other (by omega),Nk.setCell (by exact aw _) _⟩)
      |(rw[<-HPQ.out];exact⟨Xd,N3,Nk⟩)
   case rest=>
    clear Xd N3 Nk c0 c1 c2 c3 c4 c5 f2;have hs:NS w.heap.size w sb ⟨lo.toArray⟩ pq hq ⟨pa.toArray⟩ ⟨qu.toArray⟩ wc:=hcut;clear hcut;have Wx:=hs.drew;obtain⟨c3,c4,f3,f4⟩:=hs.facts;have kM:=λW h=>hM.below (w':=W) h
    have KM:=ah kM;clear kM;go_upto_region 6 with(fail)
    go_cut []from 30 to 39 (λwx=>NS w.heap.size w sb ⟨lo.toArray⟩ pq hq ⟨dp.toArray⟩ ⟨uq.toArray⟩ wx)
    case first=>
     go_region_with (first
      |(go_at_call 178;(first|with_reducible refine(KU1.out _).mono ?_|with_reducible refine(KU2.out _).mono ?_);rintro e w' ⟨rfl,hb⟩;(first|have hs:=NS.below hb (by assumption)|have hs:=NS.below hb (NS.s3 (by assumption))|have hs:=NS.below hb (NS.s4 (by assumption)));obtain⟨c3,c4,f3,f4⟩:=hs.facts)
      |(go_at_call 177;refine(KD.out _ ?_).mono ?_;(first|exact KM.out _ (NS.drew (by assumption)).2.2|exact KM.out _ (NS.s4 (NS.drew (by assumption))).2.2|exact KM.out _ (NS.s4 (by assumption)).2.2|exact KM.out _ (by assumption:NS _ _ _ _ _ _ _ _ _).2.2);rintro e w' ⟨rfl,hb⟩;(first|have hs:=NS.below hb (by assumption)|have hs:=NS.below hb (NS.s3 (by assumption))|have hs:=NS.below hb (NS.s4 (by assumption)));obtain⟨c3,c4,f3,f4⟩:=hs.facts)
      |fail)
     all_goals
      go_wp2_with fail
      go_meet
      first
       |exact NS.s4 (NS.s3 (by assumption))
       |exact NS.s3 (NS.s4 (by assumption))
       |exact NS.s3 (by assumption)
       |exact NS.s4 (by assumption)
    case rest=>
     clear hs Wx c3 c4 f3 f4;obtain⟨hA,hR,hB⟩:=hcut;obtain⟨c0,c1,c2,c3,c4,c5⟩:=hA.cells;obtain⟨d0,d1,d2,d3,d4,d5⟩:=hR.cells;have f0:=hR.free 0;have f1:=hR.free 1;have f2:=hR.free 2;have f3:=hR.free 3;have f4:=hR.free 4;have f5:=hR.free 5;go_wp2_with fail
     have hr:=hR.six sb ⟨lo.toArray⟩ pq ⟨dp.toArray⟩ ⟨uq.toArray⟩ hq;obtain⟨b0,b1,b2,b3,b4,b5⟩:=hr.cells;refine bodyPost_ret_by (v:=dR ⟨sb.data.toList,lo,pq,dp,uq,hq⟩) ?_ rfl ⟨rfl,dX hB (by omega) _ _ _ _ _ _⟩;unfold dR;simp[results,Tryz.results132,go_sem,b0,b1,b2,b3,b4,b5]
 ·have t2:(c !=0)=true:=by simp;exact hc
  rw[t2,cond_true];go_enter Tryz.func132,Tryz.ntmps132
  go_upto_region 1 with(fail)
  rw[Tn.out,Nl.out];go_wp2_with fail
  refine K1.out.mono ?_;rintro e w1 ⟨rfl,M8⟩;have O_:=HR.out.below M8;obtain⟨d0,d1,d2,d3,d4,d5⟩:=O_.cells;have f0:=O_.free 0;have f1:=O_.free 1;have f2:=O_.free 2;have f3:=O_.free 3;have f4:=O_.free 4;have f5:=O_.free 5;go_wp2_with fail
  have hr:=O_.six ⟨#[]⟩ ⟨#[]⟩ 0 ⟨#[]⟩ ⟨#[]⟩ false;obtain⟨b0,b1,b2,b3,b4,b5⟩:=hr.cells;refine bodyPost_ret_by (v:=dR fg.none) ?_ rfl ⟨rfl,dX (bt Nm M8) (by omega) _ _ _ _ _ _⟩;unfold dR fg.none;simp[results,Tryz.results132,go_sem,b0,b1,b2,b3,b4,b5]
theorem Dq{u:fg}(hu:lI u):lI (db u):=by
 by_cases h:cj u=0
 ·obtain⟨_,_,_,t4,t5⟩:=xk h;have hg:=iE (fU h).1;obtain⟨i1,i2,i3,i4,i5⟩:=hu;refine⟨?_,?_,?_,by omega,by omega⟩
  ·rw[kH h];exact i1
  ·rw[kH h];show(ai u.host).length<=_;unfold ai;rw[eE];exact i2
  ·rw[kH h];show _<=(bif _ then 0 else u.port)/\(bif _ then 0 else u.port)<=_
   cases(((u.scheme==gF)&&(u.port==80))||((u.scheme==fQ)&&(u.port==443)))
   ·exact i3
   ·rw[cond_true];exact⟨by decide,by decide⟩
 ·have e:db u=fg.none:=by unfold db;rw[show(cj u !=0)=true by simpa using h];rfl
  rw[e];exact⟨a_ _,a_ _,⟨by decide,by decide⟩,a_ _,a_ _⟩
theorem EU(u:fg)(w:World)(hM:cq w)(hT:dV w)(hu:lI u):Calls Tryz.prog 88 #[dR u] w λe w'=>e=.returned (.string ⟨(nI u).toArray⟩)/\Below w.heap.size w w':=by
 have k1:=λW hb=>rT u W (hM.below hb) (hT.on hb) hu
 have k2:=λW hb=>vk (db u) W (hM.below hb) (hT.on hb) (Dq hu)
 unfold nI;generalize pP (db u)=kk at*;generalize db u=nu at*;obtain⟨sc,ho,po,pa,qu,hq⟩:=u;obtain⟨sb,rfl⟩:∃b:ByteArray,sc=b.data.toList:=⟨⟨sc.toArray⟩,rfl⟩;obtain⟨n1,n2,n3,n4,n5,n6⟩:=nu;unfold dR at*;simp only[bN]at*;obtain⟨W0,Nb⟩:=bg w (.cells #[.string sb,.string ⟨ho.toArray⟩,.int .i64 po,.string ⟨pa.toArray⟩,.string ⟨qu.toArray⟩,.bool hq] 93);have Nm:=bm Nb;have hA:gu w.heap.size sb ⟨ho.toArray⟩ po ⟨pa.toArray⟩ ⟨qu.toArray⟩ hq W0:=by rw[<-Nb];exact ay w _ _ rfl
 obtain⟨c0,c1,c2,c3,c4,c5⟩:=hA.cells;have kk1:=k1 W0 Nm;obtain⟨Nl,K1,K2⟩:=bu Nb kk1 k2;clear Nb hA k1 k2 kk1;go_enter Tryz.func88,Tryz.ntmps88
 go_upto_region 1 with(fail)
 rw[Nl.out];go_wp2_with fail
 refine K1.out.mono ?_;rintro e w1 ⟨rfl,M8⟩;have Ni:=bt Nm M8;have k2:=K2.out w1 Ni;clear K1 K2;go_wp2_with fail
 refine k2.mono ?_;rintro e w2 ⟨rfl,M9⟩;go_wp2_with fail
 go_ret;exact⟨rfl,bt Ni M9⟩
theorem wm(m:ByteArray)(u:fg)(w:World)(hM:cq w)(hT:dV w)(hu:lI u)(hm:m.data.toList=[71,69,84]):Calls Tryz.prog 36 #[.string m,dR u] w λe w'=>e=.returned (.string ⟨(nI u).toArray⟩)/\Below w.heap.size w w':=by
 have k1:=λW hb=>EU u W (hM.below hb) (hT.on hb) hu
 generalize nI u=kk at*;obtain⟨sc,ho,po,pa,qu,hq⟩:=u;obtain⟨sb,rfl⟩:∃b:ByteArray,sc=b.data.toList:=⟨⟨sc.toArray⟩,rfl⟩;have WK:(m.toList==[71,69,84])=true:=by rw[dY,hm];rfl
 have hm2:(m.toList !=[71,69,84])=false:=by rw[dY,hm];rfl
 unfold dR at*;simp only[bN]at*;obtain⟨W0,Nb⟩:=bg w (.cells #[.string sb,.string ⟨ho.toArray⟩,.int .i64 po,.string ⟨pa.toArray⟩,.string ⟨qu.toArray⟩,.bool hq] 93);have Nm:=bm Nb;have hA:gu w.heap.size sb ⟨ho.toArray⟩ po ⟨pa.toArray⟩ ⟨qu.toArray⟩ hq W0:=by rw[<-Nb];exact ay w _ _ rfl
 obtain⟨c0,c1,c2,c3,c4,c5⟩:=hA.cells;have kk1:=k1 W0 Nm;obtain⟨Nl,K1⟩:=az Nb kk1;clear Nb hA k1 kk1 hm;go_enter Tryz.func36,Tryz.ntmps36
 go_upto_region 1 with(fail)
 rw[Nl.out];go_wp2_with fail
 refine K1.out.mono ?_;rintro e w1 ⟨rfl,M8⟩;have Ni:=bt Nm M8;go_wp2_with fail
 go_ret;exact⟨rfl,Ni⟩
end Go.Proofs.YtdbjnlkbhhebbaaGreatDoor
