/- Obt1, HdMap, Box10, HdI, HdE, HdP, HdQ, VarySpec. -/
import Derived.Test.YtdbjnlkbhhebbaaGreatDoorK01
import Derived.Test.YtdbjnlkbhhebbaaGreatDoorK02
import Derived.Test.YtdbjnlkbhhebbaaGreatDoorK03
import Derived.Test.YtdbjnlkbhhebbaaGreatDoorK05
import Derived.Test.YtdbjnlkbhhebbaaGreatDoorK06
import Derived.Maps.OwnSet
import Derived.RegionTactic
import Derived.BigRegion
import Derived.ChangeAlike
import Derived.Deep.RegionHeld3
import Derived.Laws.ResultCell
import Derived.LaidEql
import Derived.Deep.WholeRow
set_option maxRecDepth 100000
set_option maxHeartbeats 16000000
set_option linter.all false
namespace Go.Proofs.YtdbjnlkbhhebbaaGreatDoor
open Go.ChangeMaps (setBlock map_eraseIdx)
open Go.ChangeMaps (setBlock)
open Go.RowKit
open Go.RowKit Go.ChangeMaps Go.Maps Go.WideMaps
structure B8 where
 host:List UInt8
 en:Int
 by':Int
 inc:Int
 dep:Int
 dev:List UInt8
 fwd:List (List UInt8)
def zU(C:B8)(A:Option Addr)(c:Nat):Array Value:=#[.string ⟨C.host.toArray⟩,.int .i64 C.en,.int .i64 C.by',.int .i64 C.inc,.int .i64 C.dep,.string ⟨C.dev.toArray⟩,.slice A C.fwd.length c]
def pB(C:B8)(A:Option Addr)(c:Nat):Value:=.agg (zU C A c)
def FtS(n:Nat)(w:World)(cf:Array Value)(sc ho:ByteArray)(po:Int)(pa qu:ByteArray)(hq:Bool)(R:Nat)(tg:ByteArray)(v:Value)(fs:List aU)(W:World):Prop:=W.heap[n]?=some (.cells cf 32 (0,0))/\gu (n+1) sc ho po pa qu hq W/\n+1<R/\W.heap[R]?=some (.cells #[.string jR,.string tg,.int .i64 1,v,.string ⟨#[]⟩] 74 (0,0))/\aM (R+1) v fs W/\Below n w W
section
variable {n R:Nat}{w W W':World}{cf:Array Value}{sc ho pa qu tg x:ByteArray}{po:Int}{hq:Bool}{v v':Value}{fs fs':List aU}
theorem FtS.below(h:FtS n w cf sc ho po pa qu hq R tg v fs W)(hb:Below W.heap.size W W'):FtS n w cf sc ho po pa qu hq R tg v fs W':=⟨(hb.block _ (ae h.1)).trans h.1,h.2.1.below hb,h.2.2.1,(hb.block _ (ae h.2.2.2.1)).trans h.2.2.2.1,h.2.2.2.2.1.below hb,h.2.2.2.2.2.trans (hb.mono (dF (ae h.1)))⟩
theorem FtS.room(h:FtS n w cf sc ho po pa qu hq R tg v fs W):R+1<=W.heap.size:=ae h.2.2.2.1
theorem FtS.tgt(h:FtS n w cf sc ho po pa qu hq R tg v fs W):FtS n w cf sc ho po pa qu hq R x v fs (W.setCell ⟨R,1,none⟩ (.string x)):=by have hR:=h.2.2.1;exact⟨(aG _ _ _ _ _ (by omega)).trans h.1,h.2.1.other (by omega),hR,ar (j:=1) h.2.2.2.1,ownsRow_setCell_below h.2.2.2.2.1 (by show R<R+1;omega) _,h.2.2.2.2.2.setCell (by show n<=R;omega) _⟩
theorem FtS.push(h:FtS n w cf sc ho po pa qu hq R tg v fs W)(ho':aM (R+1) v' fs' W')(hb:Below (R+1) W W'):FtS n w cf sc ho po pa qu hq R tg v' fs' (W'.setCell ⟨R,3,none⟩ v'):=by have hR:=h.2.2.1;exact⟨(aG _ _ _ _ _ (by omega)).trans ((hb.block _ (by omega)).trans h.1),gu.other ((hb.block (n+1) (by omega)).trans h.2.1) (by omega),hR,ar (j:=3) ((hb.block _ (by omega)).trans h.2.2.2.1),ownsRow_setCell_below ho' (by show R<R+1;omega) _,(h.2.2.2.2.2.trans (hb.mono (by omega))).setCell (by show n<=R;omega) _⟩
theorem FtS.cells(h:FtS n w cf sc ho po pa qu hq R tg v fs W):(W.cell? ⟨R,1,none⟩=some (.string tg)/\W.frozen? ⟨R,1,none⟩=false)/\W.cell? ⟨R,3,none⟩=some v/\W.frozen? ⟨R,3,none⟩=false:=⟨⟨(ab h.2.2.2.1 1).1,(ab h.2.2.2.1 1).2.1⟩,(ab h.2.2.2.1 3).1,(ab h.2.2.2.1 3).2.1⟩
end
theorem FtS.cell3{n R:Nat}{w W W':World}{cf:Array Value}{sc ho pa qu tg:ByteArray}{po:Int}{hq:Bool}{v:Value}{fs:List aU}(h:FtS n w cf sc ho po pa qu hq R tg v fs W)(hb:Below (R+1) W W'):W'.cell? ⟨R,3,none⟩=some v/\W'.frozen? ⟨R,3,none⟩=false:=by have h4:=(hb.block R (by omega)).trans h.2.2.2.1;exact⟨(ab h4 3).1,(ab h4 3).2.1⟩
theorem zM{W:World}{g b:Nat}(h:b≠g)(v0 v1 v2 v3 v4 v5:Value):((((((W.setCell ⟨g,0,none⟩ v0).setCell ⟨g,1,none⟩ v1).setCell ⟨g,2,none⟩ v2).setCell ⟨g,3,none⟩ v3).setCell ⟨g,4,none⟩ v4).setCell ⟨g,5,none⟩ v5).heap[b]?=W.heap[b]?:=by repeat rw[aG _ _ _ _ _ h]
theorem Mu(w:World)(a b:List UInt8)(T:TypeId):Rd (some ⟨w.heap.size,0,none⟩) 1 2 (aJ [(a,b)]) (w.alloc (.cells #[.string ⟨a.toArray⟩,.string ⟨b.toArray⟩] T)):=by refine⟨rfl,λ_=>⟨_,0,rfl,by simp,λj u hj=>?_⟩⟩;rw[iq,cK,<-hj];simp[aJ,ss]
theorem Cp{α:Type}(l:List α)(k:Nat)(h:k<l.length):l.take (k+1)=l.take k++[l[k]]:=by rw[List.take_add_one,lx h];rfl
theorem Ic(req:List aU)(nm:List UInt8):(gS req nm).length<=1:=by unfold gS;cases((c_ req nm).2&&(bR [(nm,(c_ req nm).1)]==0))<;>simp
theorem IJ(req:List aU)(nm:List UInt8):aE (gS req nm)<=nm.length+(aE req+2*req.length):=by
 have h:=nt req nm;unfold gS
 cases((c_ req nm).2&&(bR [(nm,(c_ req nm).1)]==0))
 ·exact a_ _
 ·show nm.length+(c_ req nm).1.length+0<=_
  omega
theorem sS(req:List aU)(N:Nat):∀l:List (List UInt8),(∀x∈l,x.length<=N)->(l.flatMap (gS req)).length<=l.length/\aE (l.flatMap (gS req))<=l.length*(N+(aE req+2*req.length))
 | [],_=>by simp[aE]
 |x::r,h=>by
  obtain⟨h1,h2⟩:=sS req N r (λy hy=>h y (by simp[hy]));have h3:=Ic req x;have h4:=IJ req x;have h5:=h x (by simp);rw[jk,bP,gj,cg,Nat.succ_mul];omega
theorem Fp(req:List aU)(l:List (List UInt8))(k:Nat)(h:k<l.length):(l.take (k+1)).flatMap (gS req)=(l.take k).flatMap (gS req)++gS req l[k]:=by rw[Cp l k h,List.flatMap_append];simp
theorem Fm(C:B8)(A F X:Option Addr)(c m d ka e:Nat)(u:fg)(req asks:List aU)(w:World)(hM:cq w)(hT:dV w)(hu:lI u)(hF:Rd A C.fwd.length 1 (aF C.fwd) w)(hq:Rd F m 2 (aJ req) w)(ha:Rd X ka 2 (aJ asks) w)(hn:C.fwd.length<=16)(hm:m<=1000)(hka:ka<=1000)(Q8:cj u=0)(TF:C.dev.length<=100000)(Pd:(jI C.dev).length<=1000)(PX:∀x∈C.fwd,x.length<=1000)(Qo:aE req<=8000)(has:aE asks<=10000):Calls Tryz.prog 221 #[pB C A c,dR u,.slice F m d,.slice X ka e] w λe w'=>e=.returned (.string ⟨(jL C.dev C.fwd u req asks).toArray⟩)/\Below w.heap.size w w':=by
 have k1:=λW hb=>rT u W (hM.below hb) (hT.on hb) hu
 have hnu:=Dq hu;have htl:=(xk Q8).2.1;have hhl:=(Bf Q8).1;unfold jL oE;obtain⟨HL,hHL⟩:=aH (tK (db u));obtain⟨TL,hTL⟩:=aH (uD (db u));rw[hHL,hTL];rw[hHL]at hhl;rw[hTL]at htl;unfold tK at hHL;unfold uD at hTL;generalize db u=nu at*;obtain⟨host,en,V_,inc,dep,dev,fwd⟩:=C;unfold pB zU;simp only at hF hn TF PX Pd ⊢
 have Wk:=λW=>Jt ⟨dev.toArray⟩ W (by rw[aR];omega)
 rw[bq]at Wk;obtain⟨CL,hCL⟩:=aH (jI dev);rw[hCL]at Wk Pd ⊢;have KCAP:=ah Wk;clear Wk hCL;obtain⟨sc,ho,po,pa,qu,uq⟩:=u;obtain⟨sb,rfl⟩:∃b:ByteArray,sc=b.data.toList:=⟨⟨sc.toArray⟩,rfl⟩;obtain⟨n1,n2,n3,n4,n5,n6⟩:=nu;obtain⟨i1,i2,i3,i4,i5⟩:=hnu;simp only at hHL hTL
 obtain⟨b1,rfl⟩:∃b:ByteArray,n1=b.data.toList:=⟨⟨n1.toArray⟩,rfl⟩;obtain⟨b2,rfl⟩:∃b:ByteArray,n2=b.data.toList:=⟨⟨n2.toArray⟩,rfl⟩;obtain⟨b4,rfl⟩:∃b:ByteArray,n4=b.data.toList:=⟨⟨n4.toArray⟩,rfl⟩;obtain⟨b5,rfl⟩:∃b:ByteArray,n5=b.data.toList:=⟨⟨n5.toArray⟩,rfl⟩;obtain⟨hl,rfl⟩:∃b:ByteArray,HL=b.data.toList:=⟨⟨HL.toArray⟩,rfl⟩;obtain⟨tl,rfl⟩:∃b:ByteArray,TL=b.data.toList:=⟨⟨TL.toArray⟩,rfl⟩;rw[<-aY]at i1 i2 i4 i5 hhl htl;obtain⟨HHL,HTL⟩:=az hHL hTL;clear hHL hTL;unfold dR at*;simp only[bN]at*;obtain⟨OUT,Zj⟩:=aH ((cm ⟨mE,tl.data.toList,1,(([(nk,hl.data.toList)]++(bif CL.isEmpty then []else [(oW,CL)]))++fwd.flatMap (gS req))++asks,[]⟩).1);rw[Zj];have HOUT:=ah Zj;clear Zj;obtain⟨cf,Pn⟩:=aH (#[.string ⟨host.toArray⟩,.int .i64 en,.int .i64 V_,.int .i64 inc,.int .i64 dep,.string ⟨dev.toArray⟩,.slice A fwd.length c]:Array Value)
 obtain⟨WA,NK⟩:=bg w (.cells #[.string ⟨host.toArray⟩,.int .i64 en,.int .i64 V_,.int .i64 inc,.int .i64 dep,.string ⟨dev.toArray⟩,.slice A fwd.length c] 32);obtain⟨W0,Nb⟩:=bg WA (.cells #[.string sb,.string ⟨ho.toArray⟩,.int .i64 po,.string ⟨pa.toArray⟩,.string ⟨qu.toArray⟩,.bool uq] 93);have Wm:=bm NK;have RQ:=bm Nb;have Nm:=bt Wm RQ;have hz:WA.heap.size=w.heap.size+1:=by rw[<-NK];simp
 have hC:W0.heap[w.heap.size]?=some (.cells cf 32 (0,0)):=by rw[RQ.block _ (by omega),<-NK,<-Pn];exact ay w _ _ rfl
 have hU:gu (w.heap.size+1) sb ⟨ho.toArray⟩ po ⟨pa.toArray⟩ ⟨qu.toArray⟩ uq W0:=by rw[<-Nb,<-hz];exact ay WA _ _ rfl
 have kk:=k1 W0 Nm;obtain⟨Tn,Nl,HC,HU,K1,Sp⟩:=eN NK Nb hC hU kk Pn;have Ou:=ah Nm;clear NK Nb hC k1 kk Wm RQ Pn Nm;obtain⟨c0,c1,c2,c3,c4,c5⟩:=hU.cells;have f0:=hU.free 0;have f1:=hU.free 1;have f2:=hU.free 2;have f3:=hU.free 3;have f4:=hU.free 4;have f5:=hU.free 5;clear hU;go_enter Tryz.func221,Tryz.ntmps221
 go_upto_region 1 with(fail)
 rw[Tn.out,Nl.out];go_cut [] (λwx=>wx.heap[w.heap.size]?=some (.cells cf 32 (0,0))/\gu (w.heap.size+1) b1 b2 n3 b4 b5 n6 wx/\Below w.heap.size w wx)
 case first=>
  go_wp2_with fail
  refine K1.out.mono ?_;rintro e w1 ⟨rfl,M8⟩;have VI:=HU.out.below M8;obtain⟨c0,c1,c2,c3,c4,c5⟩:=VI.cells;have f0:=VI.free 0;have f1:=VI.free 1;have f2:=VI.free 2;have f3:=VI.free 3;have f4:=VI.free 4;have f5:=VI.free 5;go_wp2_with fail
  go_meet;exact⟨(zM (by omega) _ _ _ _ _ _).trans ((M8.block _ (ae HC.out)).trans HC.out),VI.six _ _ _ _ _ _,dX (bt Ou.out M8) (by omega) _ _ _ _ _ _⟩
 case rest=>
  clear K1 HC HU Ou Tn Nl c0 c1 c2 c3 c4 c5 f0 f1 f2 f3 f4 f5 hz;obtain⟨hC,hU,hB⟩:=hcut;obtain⟨c0,c1,c2,c3,c4,c5⟩:=hU.cells;go_upto_region 3 with(fail)
  obtain⟨W1,Ne⟩:=bg wc (.cells #[.string jR,.string b4,.int .i64 1,.slice none 0 0,.string ⟨#[]⟩] 74);have M8:=bm Ne
  have h1:FtS w.heap.size w cf b1 b2 n3 b4 b5 n6 wc.heap.size b4 (.slice none 0 0) [] W1:=⟨(M8.block _ (ae hC)).trans hC,hU.below M8,hU.lt,by rw[<-Ne];exact ay wc _ _ rfl,aM.nil _ _,bt hB M8⟩
  rw[Ne];clear Ne M8 hC hU hB c0 c1 c2 c3 c4 c5;obtain⟨R,hR⟩:=aH wc.heap.size;rw[hR]at h1 ⊢;clear hR;obtain⟨-,c1,c2,-,c4,c5⟩:=h1.2.1.cells;obtain⟨⟨r1,q1⟩,r3,q3⟩:=h1.cells;go_upto_if 25 with(fail)
  go_cut [] (λwx=>FtS w.heap.size w cf b1 b2 n3 b4 b5 n6 R tl (.slice none 0 0) [] wx)
  case first=>
   cases n6
   ·have e:b4=tl:=dE _ _ (by rw[<-HTL.out];simp);subst e;go_wp2_with fail
    go_meet;exact h1
   ·have e:b4++((⟨#[63]⟩:ByteArray)++b5)=tl:=dE _ _ (by rw[<-HTL.out,mL,mL];simp);go_wp2_with fail
    go_meet;rw[<-e];exact h1.tgt
  case rest=>
   clear h1 c1 c2 c4 c5 r1 q1 r3 q3 HTL;have h1:=hcut;clear hcut;obtain⟨-,c1,c2,-,-,-⟩:=h1.2.1.cells;obtain⟨-,r3,q3⟩:=h1.cells;go_upto_if 37 with(fail)
   go_cut [10]from 10 to 43 (λs wx=>s=.string hl/\FtS w.heap.size w cf b1 b2 n3 b4 b5 n6 R tl (.slice none 0 0) [] wx)
   case first=>
    by_cases hp:n3=0
    ·have t1:(n3 !=0)=false:=by simp;exact hp
     have e:b2=hl:=dE _ _ (by rw[<-HHL.out,hp];simp);subst e;go_wp2_with fail
     go_meet;exact⟨rfl,h1⟩
    ·have t1:(n3 !=0)=true:=by simp;exact hp
     have t2:(n3==0)=false:=by simp;exact hp
     have ki:=oR n3 i3.1 i3.2 wc (hT.on h1.2.2.2.2.2);have Q7:=Lib.itoa_length_le n3 i3.1 i3.2;have hh:=HHL.out;rw[t2,cond_false]at hh;obtain⟨ib,VA⟩:∃b:ByteArray,Lib.itoa n3=b.data.toList:=⟨⟨(Lib.itoa n3).toArray⟩,rfl⟩;rw[VA,bN]at ki;rw[VA]at Q7 hh;rw[<-aY]at Q7;have e:b2++((qz:ByteArray)++ib)=hl:=dE _ _ (by rw[<-hh,mL,mL];rfl);have E:=ah e;clear e hh VA;go_wp2_with fail
     refine ki.mono ?_;rintro e w2 ⟨rfl,M9⟩;go_wp2_with fail
     go_meet;exact⟨by rw[<-E.out],h1.below M9⟩
   case rest=>
    clear h1 c1 c2 r3 q3 HHL;obtain⟨rfl,h1⟩:=hcut;obtain⟨-,r3,q3⟩:=h1.cells;have Sz:=h1.room;have hO:=h1.2.2.2.2.1;go_wp2_with (at_builtin;refine mh (R+1) (nk,hl.data.toList) hO Sz (by decide) rfl _ _ rfl rfl rfl ?_)
    intro v1 W2 On M9 _;obtain⟨ga,gc,rfl⟩:=On.shape;rw[show([(nk,hl.data.toList)]:List aU).length=1 from rfl]at On ⊢;have h2:=h1.push On M9;obtain⟨r3',q3'⟩:=h1.cell3 M9;clear r3 q3 hO Sz;have d5:(W2.setCell ⟨R,3,none⟩ (.slice ga 1 gc)).cell? ⟨w.heap.size,5,none⟩=some (.string ⟨dev.toArray⟩):=by rw[(ab h2.1 5).1,<-Sp.out];rfl
    have H2:=ah h2;clear h1 h2 On M9;go_wp2_with fail
    refine(KCAP.out _).mono ?_;rintro e w4 ⟨rfl,rfl⟩;have h2:=H2.out;clear KCAP d5 r3' q3' H2;generalize W2.setCell ⟨R,3,none⟩ (.slice ga 1 gc)=W3 at*;go_upto_if 55 with(fail)
    go_cut [] (λwx=>∃v,FtS w.heap.size w cf b1 b2 n3 b4 b5 n6 R tl v ([(nk,hl.data.toList)]++(bif CL.isEmpty then []else [(oW,CL)])) wx)
    case first=>
     obtain⟨-,r3,q3⟩:=h2.cells
     cases CL with
     |nil=>
      go_wp2_with fail
      go_meet;exact⟨_,h2⟩
     |cons x r=>
      have Sz:=h2.room;have hO:=h2.2.2.2.2.1;go_wp2_with (at_builtin;refine mh (R+1) (oW,x::r) hO Sz (by simp) rfl _ _ rfl rfl rfl ?_)
      intro v2 W2 On M9 _;obtain⟨WL,WP,rfl⟩:=On.shape;rw[show([(nk,hl.data.toList),(oW,x::r)]:List aU).length=2 from rfl]at On ⊢;have h3:=h2.push On M9;obtain⟨r3',q3'⟩:=h2.cell3 M9;clear r3 q3 hO Sz;go_wp2_with fail
      go_meet;exact⟨_,h3⟩
    case rest=>
     clear h2;obtain⟨v0,h2⟩:=hcut;obtain⟨TE,Wy⟩:=aH ([(nk,hl.data.toList)]++(bif CL.isEmpty then []else [(oW,CL)]):List aU);rw[Wy]at h2;have YK:=ah Wy
     have Rv:TE.length<=2:=by rw[<-Wy];cases CL<;>simp
     clear Wy;have d6:wc.cell? ⟨w.heap.size,6,none⟩=some (.slice A fwd.length c):=by rw[(ab h2.1 6).1,<-Sp.out];rfl
     clear Sp;go_wp2_with fail
     go_loopw [66] (λi wr=>∃(k:Nat) (v:Value),k<=fwd.length/\i=.int .i64 k/\FtS w.heap.size w cf b1 b2 n3 b4 b5 n6 R tl v (TE++(fwd.take k).flatMap (gS req)) wr) (λi _=>fwd.length-(intOf i).toNat)
     case atStart=>exact⟨0,v0,a_ _,rfl,by rw[List.take_zero,List.flatMap_nil,e9];exact h2⟩
     case round=>
      clear h2 d6;obtain⟨k,v,hk,rfl,h2⟩:=hrel;have M_:=h2.2.2.2.2.2;by_cases Nc:k<fwd.length
      ·obtain⟨fb,fo,rfl,O4,hfc⟩:=(hF.below M_).str_at Nc;have T7:=PX fwd[k] (bQ _);have hmo:=Fp req fwd k Nc;have Qh:=nt req fwd[k];have hlen:=(sS req 1000 (fwd.take k) (λx hx=>PX x (List.mem_of_mem_take hx))).1;rw[dm]at hlen;have kg:=λW hb=>iN F m d req ⟨(fwd[k]).toArray⟩ W (hq.below (bt M_ hb)) (by omega) (by omega) (by rw[aR];omega)
       rw[bq]at kg;have hdm:=hq.fld;have TT:gS req fwd[k]=bif(c_ req fwd[k]).2&&(bR [(fwd[k],(c_ req fwd[k]).1)]==0)then [(fwd[k],(c_ req fwd[k]).1)]else []:=rfl;generalize (c_ req fwd[k])=G at*;generalize fwd[k]=nm at*;obtain⟨gv,gi⟩:=G;unfold ux at kg;simp only at kg Qh TT
       rw[TT]at hmo;obtain⟨HMO,KG,H2⟩:=bu hmo (kg wr (aO _ _)) h2;clear hmo kg h2 TT
       cases gi
       ·have h3:Hid (∀W,Below wr.heap.size wr W->FtS w.heap.size w cf b1 b2 n3 b4 b5 n6 R tl v (TE++(fwd.take (k+1)).flatMap (gS req)) W):=am λW hb=>by
         rw[HMO.out,gN,cond_false,e9];exact H2.out.below hb
        have HFS:=ah PX;clear HMO H2 hdm Qh hlen T7 PX hF hq ha hu Q8;go_wp2_with fail
        refine KG.out.mono ?_;rintro e w2 ⟨rfl,M9⟩;have Na:=M9;clear KG;go_wp2_with fail
        go_roundw
        case rel=>exact⟨k+1,v,by omega,by go_num,h3.out _ ((bt Na ((aO _ _).alloc (aw _) _)))⟩
        case measure=>simp[intOf];omega
       ·have NZ:nm.length+gv.length<=20000:=by omega
        have h2:=H2.out;have kc:=λ(W1 W3:World)(hW:W1.alloc (.cells #[.string ⟨nm.toArray⟩,.string ⟨gv.toArray⟩] 70)=W3)=>sr (some ⟨W1.heap.size,0,none⟩) 1 1 [(nm,gv)] W3 (by rw[<-hW];exact Mu W1 nm gv _) (by decide) (by show nm.length+gv.length+0<=_;omega)
        have hlf:(TE++(fwd.take k).flatMap (gS req)).length<=1000:=by rw[bP];omega
        have HMO2:Hid (∀c,bR [(nm,gv)]=c->TE++(fwd.take (k+1)).flatMap (gS req)=(TE++(fwd.take k).flatMap (gS req))++(bif c==0 then [(nm,gv)]else [])):=am λc hc=>by rw[HMO.out,hc,eJ,List.append_assoc]
        generalize bR [(nm,gv)]=ck at*;have YW:=HMO2.out ck rfl;clear HMO2;obtain⟨fn,Ub⟩:=aH (TE++(fwd.take (k+1)).flatMap (gS req));rw[Ub]at YW;obtain⟨HFN,VX⟩:=az Ub YW;clear Ub YW;generalize TE++(fwd.take k).flatMap (gS req)=fo' at*;have KC:=ah kc;have HFS:=ah PX;clear kc HMO hdm Qh hlen T7 PX hF hq ha hu Q8 H2;go_wp2_with fail
        refine KG.out.mono ?_;rintro e w2 ⟨rfl,M9⟩;clear KG;obtain⟨W1,Ne⟩:=bg w2 (.cells #[.string ⟨nm.toArray⟩,.string ⟨gv.toArray⟩] 70);obtain⟨W2,Nw⟩:=bg W1 (.cells #[.string ⟨nm.toArray⟩,.string ⟨gv.toArray⟩] 70);have x1:=dU Ne;have b1':=bm Ne;have b2':=bm Nw;have kc:=KC.out W1 W2 Nw;rw[show W1.heap.size=w2.heap.size+1 by rw[<-Ne];simp]at kc;have x2:=(b2'.block _ (ae x1)).trans x1;have h3:=h2.below (bt M9 (bt b1' b2'));obtain⟨NC,Of,KC2⟩:=bu Ne Nw kc;clear Ne Nw kc KC b1' b2' h2 M9;go_wp2_with fail
        rw[NC.out,Of.out];refine KC2.out.mono ?_;rintro e w3 ⟨rfl,Na⟩;have x3:=(Na.block _ (ae x2)).trans x2;have h4:=h3.below Na;clear KC2 NC Of x1 x2 h3 Na;by_cases hc0:ck=0
        ·subst hc0;have q0:=(ab x3 0).1;have q1:=(ab x3 1).1;obtain⟨-,r3,V5⟩:=h4.cells;have Sz:=h4.room;have hO:=h4.2.2.2.2.1;have HX:=ah x3;have H4:=ah h4;clear x3 h4;go_wp2_with (at_builtin;refine mh (R+1) (nm,gv) hO Sz (by omega) rfl _ _ rfl rfl rfl ?_)
         intro v2 W4 On Nf _;obtain⟨WL,WP,rfl⟩:=On.shape;have h5:=ah (H4.out.push On Nf);obtain⟨r3',q3'⟩:=H4.out.cell3 Nf;have hm:=VX.out;rw[show((0:Int)==0)=true from rfl,cond_true]at hm;rw[<-hm]at On h5 ⊢;have HM:=ah hm;clear On hO HX H4 q0 q1 r3 V5 Sz hm VX;go_wp2_with fail
         go_roundw
         case rel=>exact⟨k+1,_,by omega,by go_num,by rw[HFN.out];exact h5.out⟩
         case measure=>simp[intOf];omega
        ·have t1:(ck==0)=false:=by simp;exact hc0
         have hm:=VX.out;rw[t1,cond_false,e9]at hm;rw[<-hm]at h4;have H4:=ah h4;clear hm VX h4 x3;go_wp2_with fail
         go_roundw
         case rel=>exact⟨k+1,v,by omega,by go_num,by rw[HFN.out];exact H4.out⟩
         case measure=>simp[intOf];omega
      ·have NI:k=fwd.length:=by omega
       rw[NI,eM]at h2;obtain⟨l1,l2⟩:=sS req 1000 fwd PX;have hdm:=hq.fld
       have P8:aE TE<=2000:=by
        rw[<-YK.out,gj];have e1:aE [(nk,hl.data.toList)]=4+hl.data.toList.length+0:=rfl;rw[<-aY]at e1
        cases CL with
        |nil=>show _+0<=_;omega
        |cons x r=>
         have e2:aE [(oW,x::r)]=20+(x::r).length+0:=rfl;show aE _+aE [(oW,x::r)]<=_
         omega
       have ND:aE (TE++fwd.flatMap (gS req))<=850000:=by rw[gj];have:fwd.length*(1000+(aE req+2*req.length))<=16*(1000+(8000+2000)):=Nat.mul_le_mul hn (by omega);omega
       have Q5:(TE++fwd.flatMap (gS req)).length<=20:=by rw[bP];omega
       have Yy:=HOUT.out;rw[YK.out]at Yy;have hak:=ha.fld;have Sg:=λA' c' W(hT':dV W)hr=>Ac ⟨mE,tl.data.toList,1,(TE++fwd.flatMap (gS req))++asks,[]⟩ A' c' W hT' hr (by show(_++asks).length<=_;rw[bP];omega) (by show aE (_++asks)<=_;rw[gj];omega) ⟨show(0:Int)<=1 by decide,show(1:Int)<=1 by decide⟩ (by show mE.length<=_;decide) (by show tl.data.toList.length<=_;rw[<-aY];omega) rfl (show mn.contains mE=false by decide)
       rw[Yy]at Sg;unfold uu at Sg;simp only[bN]at Sg;generalize TE++fwd.flatMap (gS req)=fo' at*;have hX:=ha.below M_;have d0:decide ((k:Int)<(fwd.length:Int))=false:=decide_eq_false (by omega);obtain⟨-,r3,V5⟩:=h2.cells;have Sz:=h2.room;have hO:=h2.2.2.2.2.1;have Vr:fo'.length+ka<=1000000000:=by omega
       obtain⟨H2,HPR⟩:=az h2 Sg;clear h2 Sg Yy P8 ND Rv YK HOUT hF hq ha hu Q8 PX hdm l1 l2 NI;go_wp2_with (at_builtin;refine tr (R+1) hO Sz hX Vr rfl _ _ rfl rfl rfl ?_)
       intro v2 W4 On Nf _;obtain⟨WL,WP,rfl⟩:=On.shape;obtain⟨N,hN⟩:=aH ((fo'++asks).length);rw[hN]at On ⊢;have h5:=H2.out.push On Nf;obtain⟨r3',q3'⟩:=H2.out.cell3 Nf;have x5:=h5.2.2.2.1;have p0:=(ab x5 0).1;have p1:=(ab x5 1).1;have p2:=(ab x5 2).1;have p3:=(ab x5 3).1;have p4:=(ab x5 4).1;have Ns:=ah h5.2.2.2.2.2;have kp:=HPR.out WL WP _ (hT.on h5.2.2.2.2.2) (aM.rd h5.2.2.2.2.1).2;rw[hN]at kp;have KP:=ah kp;clear hN HPR kp h5 H2 hO On Nf r3 V5 hX Sz x5;go_wp2_with fail
       refine KP.out.mono ?_;rintro e w6 ⟨rfl,NP⟩;go_wp2_with fail
       go_ret;exact⟨rfl,bt Ns.out NP⟩
theorem sM{α:Type}:∀(l:List α)(j:Nat)(h:j<l.length),l.Perm (l[j]::l.eraseIdx j)
  |x::r,0,_=>List.Perm.refl _
  |x::r,j+1,h=>by
    have ih:=sM r j (by simpa using h);exact(ih.cons x).trans (List.Perm.swap _ _ _)
theorem I0{kv:List (ByteArray × Nat)}{es:Array MapEntry}(hp:(es.toList.map λe=>(e.key,e.val)).Perm (FM kv)){e:MapEntry}(he:e∈es.toList):∃p∈kv,e.key=.string p.1/\e.val=ptr p.2:=by
  have h1:(e.key,e.val)∈es.toList.map λe=>(e.key,e.val):=eY.2 ⟨e,he,rfl⟩
  have h2:=hp.mem_iff.1 h1;unfold FM at h2;obtain⟨p,hp,e2⟩:=eY.1 h2;exact⟨p,hp,(Prod.mk.inj e2).1.symm,(Prod.mk.inj e2).2.symm⟩
theorem J8{kv:List (ByteArray × Nat)}{es:Array MapEntry}(hp:(es.toList.map λe=>(e.key,e.val)).Perm (FM kv)){p:ByteArray × Nat}(h:p∈kv):∃e∈es.toList,e.key=.string p.1/\e.val=ptr p.2:=by have h1:((Value.string p.1,ptr p.2):Value × Value)∈FM kv:=eY.2 ⟨p,h,rfl⟩;have h2:=hp.mem_iff.2 h1;obtain⟨e,he,e2⟩:=eY.1 h2;exact⟨e,he,(Prod.mk.inj e2).1,(Prod.mk.inj e2).2⟩
theorem AZ{kv:List (ByteArray × Nat)}{k:ByteArray}(h:∀p∈kv,p.1≠k):kU kv k=none:=by
  unfold kU
  rw[mM.2 (fun p hp=>by intro hq;exact h p hp (dE _ _ (by simpa using hq)))]
  rfl
theorem lH{kv:List (ByteArray × Nat)}{k:ByteArray}{b:Nat}(Oi:(kv.map Prod.fst).Nodup)(h:(k,b)∈kv):kU kv k=some b:=by
  unfold kU
  induction kv with
  |nil=>cases h
  |cons q r ih=>
    rw[bw,dK]at Oi;rw[List.find?_cons];rcases cZ.1 h with h'|h'
    · subst h';simp
    · have Ng:(q.1.data.toList==k.data.toList)=false:=by
        rw[beq_eq_false_iff_ne];intro e;exact Oi.1 (eY.2 ⟨(k,b),h',(dE _ _ e).symm⟩)
      rw[Ng];exact ih Oi.2 h'
theorem xy{P:Program}{KT:TypeId}(hk:P.underlying KT=some .string){w:World}{M:Nat}{kv:List (ByteArray × Nat)}(h:nH w M kv)(key:ByteArray)(Nv:key.size<=maxLen):∃es clock,w.heap[M]?=some (.map es clock)/\(es.toList.map λe=>(e.key,e.val)).Perm (FM kv) ∧ (((Instr.findKey KT (.string key) es.toList).run P w=.ok none w/\∀p∈kv,p.1≠key) ∨ ∃(j:Nat) (e:MapEntry) (b:Nat),(Instr.findKey KT (.string key) es.toList).run P w=.ok (some (j,e.val)) w/\es.toList[j]?=some e/\e.key=.string key/\e.val=ptr b/\(key,b)∈kv):=by
  obtain⟨es,clock,hb,hp,hs⟩:=h;refine⟨es,clock,hb,hp,?_⟩;have K:=string_keyed hk
  rcases K.find w (keyOf_string_mk hk Nv) es.toList (fun e he=>by obtain⟨p,RN,e1,_⟩:=I0 hp he;exact⟨_,by rw[e1];exact keyOf_string_mk hk (hs p RN)⟩)with⟨h1,h2⟩|⟨j,e,h1,h2,h3⟩
  · refine Or.inl ⟨h1,λp RN e=>?_⟩
    obtain⟨x,hx,e1,_⟩:=J8 hp RN;exact h2 x hx (by rw[e1,e])
  · obtain⟨p,RN,e1,e2⟩:=I0 hp (List.mem_of_getElem? h2)
    rw[h3]at e1;have e3:key=p.1:=by injection e1
    exact Or.inr ⟨j,e,p.2,h1,h2,h3,e2,by rw[e3];exact RN⟩
section
variable {P:Program}{KT ET MT:TypeId}(hk:P.underlying KT=some .string)(ht:P.underlying MT=some (.map KT ET)){w:World}{M:Nat}{kv:List (ByteArray × Nat)}
include ht
theorem LE(h:nH w M kv)(ty:TypeId):(Builtin.len_ #[MT] ty #[.map (some M)]).run P w=.ok (goInt kv.length) w:=by
  obtain⟨es,clock,hb,hp,_⟩:=h
  have hl:es.size=kv.length:=by have:=hp.length_eq;simpa[FM]using this
  simp[Builtin.len_,run_underlying ht,MapKept.run_getObj_map hb,Result.andThen,hl]
include hk
theorem E3(h:nH w M kv)(Oi:(kv.map Prod.fst).Nodup)(hz:(zeroValue ET).run P w=.ok (.pointer none) w)(key:ByteArray)(Nv:key.size<=maxLen):(Instr.lookup MT (.map (some M)) (.string key) false).run P w=.ok (uo (kU kv key)) w:=by
  obtain⟨es,clock,hb,hp,hf⟩:=xy hk h key Nv;have hc:=(string_keyed hk).check w;rcases hf with⟨h1,h2⟩|⟨j,e,b,h1,_,_,e2,h3⟩
  · rw[AZ h2]
    simp[Instr.lookup,run_underlying ht,MapKept.run_getObj_map hb,hc _ (keyOf_string_mk hk Nv),h1,hz,Result.andThen,uo]
  · rw[lH Oi h3]
    simp[Instr.lookup,run_underlying ht,MapKept.run_getObj_map hb,hc _ (keyOf_string_mk hk Nv),h1,e2,Result.andThen,uo]
theorem LC(h:nH w M kv)(key:ByteArray)(Nv:key.size<=maxLen)(ON:∀p∈kv,p.1≠key)(b:Nat):
    ∃o,(Instr.mapUpdate MT (.map (some M)) (.string key) (ptr b)).run P w=.ok () (setBlock w M o)/\nH (setBlock w M o) M (kv++[(key,b)]):=by
  have hs:=h;obtain⟨_,_,_,_,ND⟩:=hs;obtain⟨es,clock,hb,hp,hf⟩:=xy hk h key Nv;have hc:=(string_keyed hk).check w;rcases hf with⟨h1,_⟩|⟨j,e,b',_,_,_,_,h3⟩
  · refine⟨.map (es.push ⟨.string key,ptr b,clock⟩) (clock+1),?_,⟨es.push ⟨.string key,ptr b,clock⟩,clock+1,heap_setBlock_same hb _,?_,?_⟩⟩
    · simp[Instr.mapUpdate,run_underlying ht,MapKept.run_getObj_map hb,hc false (keyOf_string_mk hk Nv),h1,MapKept.run_setObj_map _ hb,Result.andThen,setBlock]
    · unfold FM
      rw[cO];simp only[Array.toList_push,cO,bw,List.map_nil];exact hp.append_right _
    · intro p RN
      rcases eB.1 RN with h'|h'
      · exact ND p h'
      · rw[cA.1 h'];exact Nv
  · exact absurd rfl (ON _ h3)
theorem LV(h:nH w M kv)(Oi:(kv.map Prod.fst).Nodup)(key:ByteArray)(Nv:key.size<=maxLen){p q:List (ByteArray × Nat)}{b:Nat}(hkv:kv=p++(key,b)::q)(ty:TypeId):
    ∃o,(Builtin.delete_ #[MT,KT] ty #[.map (some M),.string key]).run P w=.ok (.tuple #[]) (setBlock w M o)/\nH (setBlock w M o) M (p++q):=by
  have hs:=h;obtain⟨_,_,_,_,ND⟩:=hs;obtain⟨es,clock,hb,hp,hf⟩:=xy hk h key Nv;have hc:=(string_keyed hk).check w;rcases hf with⟨_,h2⟩|⟨j,e,b',h1,h2,h3,h4,h5⟩
  · exact absurd rfl (h2 (key,b) (by rw[hkv];simp))
  · have Qd:j<es.toList.length:=(mj.1 h2).1
    have ZP:j<es.size:=by simpa using Qd
    have OD:(es.eraseIdxIfInBounds j).toList=es.toList.eraseIdx j:=by unfold Array.eraseIdxIfInBounds;rw[dif_pos ZP];simp
    refine⟨.map (es.eraseIdxIfInBounds j) clock,?_,⟨es.eraseIdxIfInBounds j,clock,heap_setBlock_same hb _,?_,?_⟩⟩
    · simp[Builtin.delete_,run_underlying ht,MapKept.run_getObj_map hb,hc _ (keyOf_string_mk hk Nv),h1,MapKept.run_setObj_map _ hb,Result.andThen,setBlock]
    · rw[OD,map_eraseIdx]
      have M9:b'=b:=by have x1:=lH Oi h5;have x2:kU kv key=some b:=lH Oi (by rw[hkv];simp);rw[x1]at x2;exact lv x2
      subst M9
      have Xj:(es.toList.map λe=>(e.key,e.val))[j]?=some (.string key,ptr b'):=by rw[List.getElem?_map,h2,Option.map_some,h3,h4]
      have O5:(es.toList.map λe=>(e.key,e.val)).Perm (((.string key,ptr b'):Value × Value)::(es.toList.map λe=>(e.key,e.val)).eraseIdx j):=by
        have hl:j<(es.toList.map λe=>(e.key,e.val)).length:=by simpa using ZP
        have e1:(es.toList.map λe=>(e.key,e.val))[j]=(.string key,ptr b'):=by have:=lx hl;rw[this]at Xj;exact lv Xj
        have:=sM (es.toList.map λe=>(e.key,e.val)) j hl;rw[e1]at this;exact this
      have hkvp:(FM kv).Perm (((.string key,ptr b'):Value × Value)::FM (p++q)):=by rw[hkv];unfold FM;rw[cO,bw,cO];exact List.perm_middle
      exact(List.perm_cons _).1 ((O5.symm.trans hp).trans hkvp)
    · intro x hx
      refine ND x ?_;rw[hkv];rcases eB.1 hx with h'|h'
      · exact List.mem_append_left _ h'
      · exact sE _ (bJ _ h')
end
theorem ff{w:World}{b j:Nat}{v:Value}{cs:Array Value}{T:TypeId}{m:Nat × Nat}(h:w.heap[b]?=some (.cells cs T m)):(w.setCell ⟨b,j,none⟩ v).heap[b]?=some (.cells (cs.setIfInBounds j v) T m):=by simp[World.setCell,fJ,h]
def eb(w:World)(b:Nat)(T:TypeId)(x:Hv):Prop:=w.heap[b]?=some (.cells #[.string x.key,.int .i64 x.st,.string x.re,.int .i64 x.mi,.slice x.fA x.fn x.fc,.string x.bo,.int .i64 x.asked,.int .i64 x.got,.slice x.vA x.vn x.vc,.int .i64 x.num] T (0,0))
def M3(w:World)(b:Nat)(x:Hv):Prop:=(w.cell? ⟨b,0,none⟩=some (.string x.key)/\w.cell? ⟨b,1,none⟩=some (.int .i64 x.st)/\w.cell? ⟨b,2,none⟩=some (.string x.re)/\w.cell? ⟨b,3,none⟩=some (.int .i64 x.mi)/\w.cell? ⟨b,4,none⟩=some (.slice x.fA x.fn x.fc)/\w.cell? ⟨b,5,none⟩=some (.string x.bo)/\w.cell? ⟨b,6,none⟩=some (.int .i64 x.asked)/\w.cell? ⟨b,7,none⟩=some (.int .i64 x.got)/\w.cell? ⟨b,8,none⟩=some (.slice x.vA x.vn x.vc)/\w.cell? ⟨b,9,none⟩=some (.int .i64 x.num))/\(w.frozen? ⟨b,0,none⟩=false/\w.frozen? ⟨b,1,none⟩=false/\w.frozen? ⟨b,2,none⟩=false/\w.frozen? ⟨b,3,none⟩=false/\w.frozen? ⟨b,4,none⟩=false/\w.frozen? ⟨b,5,none⟩=false/\w.frozen? ⟨b,6,none⟩=false/\w.frozen? ⟨b,7,none⟩=false/\w.frozen? ⟨b,8,none⟩=false/\w.frozen? ⟨b,9,none⟩=false)/\b<w.heap.size
theorem eb.ten{w:World}{b:Nat}{T:TypeId}{x:Hv}(h:eb w b T x):M3 w b x:=⟨⟨(ab h 0).1,(ab h 1).1,(ab h 2).1,(ab h 3).1,(ab h 4).1,(ab h 5).1,(ab h 6).1,(ab h 7).1,(ab h 8).1,(ab h 9).1⟩,⟨(ab h 0).2.1,(ab h 1).2.1,(ab h 2).2.1,(ab h 3).2.1,(ab h 4).2.1,(ab h 5).2.1,(ab h 6).2.1,(ab h 7).2.1,(ab h 8).2.1,(ab h 9).2.1⟩,(ab h 0).2.2⟩
theorem eb.of{w w':World}{b:Nat}{T:TypeId}{x:Hv}(h:eb w b T x)(hb:w'.heap[b]?=w.heap[b]?):eb w' b T x:=hb.trans h
theorem eb.lt{w:World}{b:Nat}{T:TypeId}{x:Hv}(h:eb w b T x):b<w.heap.size:=(ab h 0).2.2
theorem eb.below{w w':World}{b:Nat}{T:TypeId}{x:Hv}(h:eb w b T x)(hb:Below w.heap.size w w'):eb w' b T x:=h.of (hb.block _ h.lt)
def setTen(w5:World)(g:Nat)(v0 v1 v2 v3 v4 v5 v6 v7 v8 v9:Value):World:=((((((((((w5.setCell ⟨g,0,none⟩ v0).setCell ⟨g,1,none⟩ v1).setCell ⟨g,2,none⟩ v2).setCell ⟨g,3,none⟩ v3).setCell ⟨g,4,none⟩ v4).setCell ⟨g,5,none⟩ v5).setCell ⟨g,6,none⟩ v6).setCell ⟨g,7,none⟩ v7).setCell ⟨g,8,none⟩ v8).setCell ⟨g,9,none⟩ v9)
theorem ie{B:Nat}{wr w5:World}{g:Nat}(h:Below B wr w5)(hB:B<=g)(v0 v1 v2 v3 v4 v5 v6 v7 v8 v9:Value):Below B wr (setTen w5 g v0 v1 v2 v3 v4 v5 v6 v7 v8 v9):=by unfold setTen;exact((((((((((h.setCell (p:=⟨g,0,none⟩) hB _).setCell (p:=⟨g,1,none⟩) hB _).setCell (p:=⟨g,2,none⟩) hB _).setCell (p:=⟨g,3,none⟩) hB _).setCell (p:=⟨g,4,none⟩) hB _).setCell (p:=⟨g,5,none⟩) hB _).setCell (p:=⟨g,6,none⟩) hB _).setCell (p:=⟨g,7,none⟩) hB _).setCell (p:=⟨g,8,none⟩) hB _).setCell (p:=⟨g,9,none⟩) hB _)
theorem lY{w5:World}{g b:Nat}(hb:b≠g)(v0 v1 v2 v3 v4 v5 v6 v7 v8 v9:Value):(setTen w5 g v0 v1 v2 v3 v4 v5 v6 v7 v8 v9).heap[b]?=w5.heap[b]?:=by
 have h1:∀(w:World)(j:Nat)(v:Value),(w.setCell ⟨g,j,none⟩ v).heap[b]?=w.heap[b]?:=λw j v=>aG w g j b v hb
 unfold setTen;rw[h1,h1,h1,h1,h1,h1,h1,h1,h1,h1]
theorem BH{w5:World}{g:Nat}{T:TypeId}{y:Hv}(h:eb w5 g T y)(x:Hv):eb (setTen w5 g (.string x.key) (.int .i64 x.st) (.string x.re) (.int .i64 x.mi) (.slice x.fA x.fn x.fc) (.string x.bo) (.int .i64 x.asked) (.int .i64 x.got) (.slice x.vA x.vn x.vc) (.int .i64 x.num)) g T x:=by unfold eb at*;unfold setTen;have h0:=ff (j:=0) (v:=.string x.key) h;have h1:=ff (j:=1) (v:=.int .i64 x.st) h0;have h2:=ff (j:=2) (v:=.string x.re) h1;have h3:=ff (j:=3) (v:=.int .i64 x.mi) h2;have h4:=ff (j:=4) (v:=.slice x.fA x.fn x.fc) h3;have h5:=ff (j:=5) (v:=.string x.bo) h4;have h6:=ff (j:=6) (v:=.int .i64 x.asked) h5;have h7:=ff (j:=7) (v:=.int .i64 x.got) h6;have h8:=ff (j:=8) (v:=.slice x.vA x.vn x.vc) h7;have h9:=ff (j:=9) (v:=.int .i64 x.num) h8;rw[h9];simp only[cH,cI,cF]
theorem yy(l a z:Nat)(w:World)(h3:w.cell? ⟨l,12,none⟩=some (ptr a))(h4:w.cell? ⟨l,13,none⟩=some (ptr z))(ha:∃u,w.cell? ⟨a,13,none⟩=some u)(hz:∃u,w.cell? ⟨z,12,none⟩=some u)(hfa:w.frozen? ⟨a,13,none⟩=false)(hfz:w.frozen? ⟨z,12,none⟩=false):Calls Tryz.prog 263 #[.pointer (some ⟨l,0,none⟩)] w λe w'=>(∃v,e=.returned v)/\∃n,w'=((w.setCell ⟨a,13,none⟩ (ptr z)).setCell ⟨z,12,none⟩ (ptr a)).drewN n:=by
 obtain⟨u1,ha⟩:=ha;obtain⟨u2,hz⟩:=hz;unfold ptr at*;go_enter Tryz.func263,Tryz.ntmps263
 go_wp2;go_region
 go_end0
 exact⟨⟨_,rfl⟩,1,rfl⟩
theorem vh(bl r l a:Nat)(w:World)(hb:w.cell? ⟨bl,4,none⟩=some (ptr r))(hr:w.cell? ⟨r,12,none⟩=some (ptr a))(h3:∃u,w.cell? ⟨l,12,none⟩=some u)(h4:∃u,w.cell? ⟨l,13,none⟩=some u)(ha:∃u,w.cell? ⟨a,13,none⟩=some u)(f3:w.frozen? ⟨l,12,none⟩=false)(f4:w.frozen? ⟨l,13,none⟩=false)(fa:w.frozen? ⟨a,13,none⟩=false)(fr:w.frozen? ⟨r,12,none⟩=false)(h1:bl≠l)(h2:r≠l)(h5:a≠l):Calls Tryz.prog 361 #[.pointer (some ⟨bl,0,none⟩),.pointer (some ⟨l,0,none⟩)] w λe w'=>(∃v,e=.returned v)/\∃n,w'=((((w.setCell ⟨l,12,none⟩ (ptr a)).setCell ⟨l,13,none⟩ (ptr r)).setCell ⟨a,13,none⟩ (ptr l)).setCell ⟨r,12,none⟩ (ptr l)).drewN n:=by
 obtain⟨u1,h3⟩:=h3;obtain⟨u2,h4⟩:=h4;obtain⟨u3,ha⟩:=ha;unfold ptr at*;go_enter Tryz.func361,Tryz.ntmps361
 go_wp2;go_region
 have q1:((w.setCell ⟨l,12,none⟩ (.pointer (some ⟨a,0,none⟩))).setCell ⟨l,13,none⟩ (.pointer (some ⟨r,0,none⟩))).drew.cell? ⟨bl,4,none⟩=some (.pointer (some ⟨r,0,none⟩)):=by rw[World.cell?_drew,World.cell?_setCell_other _ _ _ _ (by intro e;cases e<;>exact h1 rfl),World.cell?_setCell_other _ _ _ _ (by intro e;cases e)];exact hb
 have q2:((w.setCell ⟨l,12,none⟩ (.pointer (some ⟨a,0,none⟩))).setCell ⟨l,13,none⟩ (.pointer (some ⟨r,0,none⟩))).drew.cell? ⟨r,12,none⟩=some (.pointer (some ⟨a,0,none⟩)):=by rw[World.cell?_drew,World.cell?_setCell_other _ _ _ _ (by intro e;cases e),World.cell?_setCell_other _ _ _ _ (by intro e;cases e;exact h2 rfl)];exact hr
 have q3:((w.setCell ⟨l,12,none⟩ (.pointer (some ⟨a,0,none⟩))).setCell ⟨l,13,none⟩ (.pointer (some ⟨r,0,none⟩))).drew.cell? ⟨a,13,none⟩=some u3:=by rw[World.cell?_drew,World.cell?_setCell_other _ _ _ _ (by intro e;cases e;exact h5 rfl),World.cell?_setCell_other _ _ _ _ (by intro e;cases e)];exact ha
 have q4:((w.setCell ⟨l,12,none⟩ (.pointer (some ⟨a,0,none⟩))).setCell ⟨l,13,none⟩ (.pointer (some ⟨r,0,none⟩))).drew.frozen? ⟨a,13,none⟩=false:=by rw[World.frozen?_drew,World.frozen?_setCell,World.frozen?_setCell];exact fa
 have q5:((w.setCell ⟨l,12,none⟩ (.pointer (some ⟨a,0,none⟩))).setCell ⟨l,13,none⟩ (.pointer (some ⟨r,0,none⟩))).drew.frozen? ⟨r,12,none⟩=false:=by rw[World.frozen?_drew,World.frozen?_setCell,World.frozen?_setCell];exact fr
 obtain⟨W,hW⟩:=aH (((w.setCell ⟨l,12,none⟩ (.pointer (some ⟨a,0,none⟩))).setCell ⟨l,13,none⟩ (.pointer (some ⟨r,0,none⟩))).drew);rw[hW]at q1 q2 q3 q4 q5 ⊢;have HW:=ah hW;clear hW hb hr h3 h4 ha f3 f4 fa fr;go_wp2;go_region
 go_end0
 refine⟨⟨_,rfl⟩,2,?_⟩;rw[<-HW.out];rfl
def uw:cw:=⟨⟨#[]⟩,0,⟨⟨#[]⟩,0,⟨#[]⟩,0,none,0,0,⟨#[]⟩,0,0,none,0,0,0,[],[]⟩⟩
structure eR(w:World)(bl r M:Nat)(n m:Int)(xs:List Lk):Prop where
 blk:w.heap[bl]?=some (.cells #[.int .i64 n,.int .i64 m,.int .i64 (dk xs),.map (some M),ptr r] 174 (0,0))
 ring:mR 171 uw w r xs
 mp:nH w M (lJ xs)
 nd:(bl::M::r::xs.map Prod.fst).Nodup
 kn:((lJ xs).map Prod.fst).Nodup
 sz:∀p∈xs,0<=p.2.size/\p.2.size<=1073741824
 len:xs.length<=5000
 ks:∀p∈xs,p.2.key.size<=maxLen
theorem eR.low{w:World}{bl r M:Nat}{n m:Int}{xs:List Lk}(h:eR w bl r M n m xs):∀c∈bl::M::r::xs.map Prod.fst,c<w.heap.size:=by
 have hx:∀(c:Nat)(o:Obj),w.heap[c]?=some o->c<w.heap.size:=λc o ho=>by
  rcases ef c w.heap.size with h'|h'
  ·exact h'
  ·simp[fy h']at ho
 intro c hc;rcases cZ.1 hc with rfl|hc
 ·exact hx _ _ h.blk
 rcases cZ.1 hc with rfl|hc
 ·obtain⟨es,cl,h1,_⟩:=h.mp;exact hx _ _ h1
 ·obtain⟨e,va,vf,h1⟩:=h.ring.at c hc;exact hx _ _ h1
theorem eR.of{w w':World}{bl r M:Nat}{n m:Int}{xs:List Lk}(h:eR w bl r M n m xs)(hb:∀b∈bl::M::r::xs.map Prod.fst,w'.heap[b]?=w.heap[b]?):eR w' bl r M n m xs:=⟨(hb bl (by simp)).trans h.blk,h.ring.of (λb N4=>hb b (bJ _ (bJ _ N4))),h.mp.of (hb M (by simp)),h.nd,h.kn,h.sz,h.len,h.ks⟩
theorem eR.below{w w':World}{bl r M B:Nat}{n m:Int}{xs:List Lk}(h:eR w bl r M n m xs)(hb:Below B w w')(hB:∀b∈bl::M::r::xs.map Prod.fst,b<B):eR w' bl r M n m xs:=h.of λb N4=>hb.block b (hB b N4)
theorem LU(w:World):(zeroValue 169).run Tryz.prog w=.ok (.pointer none) w:=by kernel_rfl
theorem rF{w:World}{bl r M:Nat}{n m:Int}{xs:List Lk}(h:eR w bl r M n m xs):Calls Tryz.prog 261 #[.pointer (some ⟨bl,0,none⟩)] w λe w'=>e=.returned (.bool true)/\w=w':=by
 have c4:w.cell? ⟨bl,4,none⟩=some (ptr r):=by simp[World.cell?,h.blk]
 unfold ptr at c4;go_enter Tryz.func261,Tryz.ntmps261
 go_wp2;go_ret;exact⟨rfl,rfl⟩
theorem jx{w:World}{bl r M:Nat}{n m:Int}{xs:List Lk}(h:eR w bl r M n m xs)(key:ByteArray)(Nv:key.size<=maxLen):Calls Tryz.prog 262 #[.pointer (some ⟨bl,0,none⟩),.string key] w λe w'=>e=.returned (uo (kU (lJ xs) key))/\w=w':=by
 have c3:w.cell? ⟨bl,3,none⟩=some (.map (some M)):=by simp[World.cell?,h.blk]
 have hl:=E3 Tryz.underlying9 Tryz.underlying172 h.mp h.kn (LU w) key Nv;have k1:=rF h;have K1:=ah k1;clear k1;go_enter Tryz.func262,Tryz.ntmps262
 go_wp2_with fail
 refine K1.out.mono ?_;rintro e w1 ⟨rfl,rfl⟩;go_wp2;go_ret;exact⟨rfl,rfl⟩
theorem vF{w:World}{bl r M:Nat}{n m:Int}{p q:List Lk}{l:Nat}{e:cw}(h:eR w bl r M n m (p++(l,e)::q))(k:Nat):∃w1:World,w1=(((w.setCell ⟨gw r p,13,none⟩ (ptr (hd q r))).setCell ⟨hd q r,12,none⟩ (ptr (gw r p))).drewN k) ∧ w1.heap[bl]?=w.heap[bl]?/\w1.heap[M]?=w.heap[M]?/\(∃va vf,eX 171 w1 l e va vf)/\mR 171 uw w1 r (p++q) ∧ aL (bl::M::r::(p++(l,e)::q).map Prod.fst) w w1:=by
 have Oi:=h.nd;rw[dK,dK]at Oi;obtain⟨P6,Vj,QZ⟩:=Oi
 have hp:gw r p∈r::(p++(l,e)::q).map Prod.fst:=by
  rcases@fS p r with hm|⟨_,hm⟩
  ·rw[cO];exact bJ _ (List.mem_append_left _ hm)
  ·rw[hm];exact fD
 have hq:hd q r∈r::(p++(l,e)::q).map Prod.fst:=by
  rcases@ol q r with hm|⟨_,hm⟩
  ·rw[cO,bw];exact bJ _ (sE _ (bJ _ hm))
  ·rw[hm];exact fD
 have ON:∀c,c ∉ r::(p++(l,e)::q).map Prod.fst->(((w.setCell ⟨gw r p,13,none⟩ (ptr (hd q r))).setCell ⟨hd q r,12,none⟩ (ptr (gw r p))).drewN k).heap[c]?=w.heap[c]?:=λc hc=>by rw[World.heap_drewN,aG _ _ _ _ _ (λx=>hc (by rw[x];exact hq)),aG _ _ _ _ _ (λx=>hc (by rw[x];exact hp))]
 refine⟨_,rfl,ON bl (λx=>P6 (bJ _ x)),ON M Vj,?_,?_,?_⟩
 ·have hs:=h.ring.2;rw[js]at hs;have hl:eX 171 w l e (ptr (gw r p)) (ptr (hd q r)):=hs.2.1;rw[dK,cO,bw,List.nodup_append]at QZ;obtain⟨h1,h2,h3,h4⟩:=QZ;rw[dK]at h3
  have e1:l≠gw r p:=by
   intro x;rcases@fS p r with hm|⟨_,hm⟩
   ·exact h4 _ hm l (by simp) x.symm
   ·rw[hm]at x;exact h1 (sE _ (by rw[x];simp))
  have e2:l≠hd q r:=by
   intro x;rcases@ol q r with hm|⟨_,hm⟩
   ·exact h3.1 (by rw[x];exact hm)
   ·rw[hm]at x;exact h1 (sE _ (by rw[x];simp))
  exact⟨_,_,((hl.other e1).other e2).of rfl⟩
 ·exact(h.ring.out QZ).of (λ_ _=>rfl)
 ·exact(((aL.refl _ w).setCell _ 13 _ (bJ _ (bJ _ hp))).setCell _ 12 _ (bJ _ (bJ _ hq))).drewN k
theorem EY{w w1 w2:World}{bl r M:Nat}{n m:Int}{p q:List Lk}{l:Nat}{e:cw}(h:eR w bl r M n m (p++(l,e)::q))(hb:w1.heap[bl]?=w.heap[bl]?)(Ov:mR 171 uw w1 r (p++q))(k:Nat)(ht:aL (bl::M::r::(p++(l,e)::q).map Prod.fst) w w1)(OU:w2=(w1.setCell ⟨bl,2,none⟩ (.int .i64 (dk (p++q)))).drewN k){o:_}(hM:∃es c,w2.heap[M]?=some (.map es c))(hm:nH (Go.ChangeMaps.setBlock w2 M o) M (lJ (p++q))):eR (Go.ChangeMaps.setBlock w2 M o) bl r M n m (p++q)/\aL (bl::M::r::(p++(l,e)::q).map Prod.fst) w (Go.ChangeMaps.setBlock w2 M o):=by
 obtain⟨es,c,hM⟩:=hM;have Oi:=h.nd;have R7:=Oi;rw[dK,dK]at R7;obtain⟨P6,Vj,QZ⟩:=R7;have OD:(p++q).Sublist (p++(l,e)::q):=(List.Sublist.refl p).append (List.sublist_cons_self _ _);have WO:=OD.map Prod.fst;have O3:∀b,b≠M->(Go.ChangeMaps.setBlock w2 M o).heap[b]?=w2.heap[b]?:=λb Ng=>Go.ChangeMaps.heap_setBlock_other hM _ Ng
 have hMb:bl≠M:=λx=>P6 (by rw[x];simp)
 refine⟨⟨?_,?_,hm,Oi.sublist (((WO.cons_cons r).cons_cons M).cons_cons bl),?_,λx hx=>h.sz x (OD.subset hx),bj OD.length_le h.len,λx hx=>h.ks x (OD.subset hx)⟩,?_⟩
 ·rw[O3 bl hMb,OU,World.heap_drewN];have:=h.blk;rw[<-hb]at this;simp[World.setCell,fJ,this]
 ·refine Ov.of (λb N4=>?_);have XJ:b∈r::(p++(l,e)::q).map Prod.fst:=(WO.cons_cons r).subset N4;rw[O3 b (λx=>Vj (by rw[<-x];exact XJ)),OU,World.heap_drewN,aG _ _ _ _ _ (λx=>P6 (by rw[<-x];exact bJ _ XJ))]
 ·exact h.kn.sublist ((OD.map _).map _)
 ·have t2:aL (bl::M::r::(p++(l,e)::q).map Prod.fst) w w2:=by rw[OU];exact(ht.setCell bl 2 _ (by simp)).drewN k
  refine⟨t2.1,t2.2.1,t2.2.2.1,bj t2.2.2.2.1 (by simp[Go.ChangeMaps.setBlock]),λb h1 h2=>?_⟩;rw[O3 b (λx=>h2 (by rw[x];simp))];exact t2.2.2.2.2 b h1 h2
theorem E4{p q:List Lk}{l:Nat}{e:cw}(hs:∀x∈p++(l,e)::q,0<=x.2.size/\x.2.size<=1073741824)(hl:(p++(l,e)::q).length<=5000):IntKind.i64.wrap (dk (p++(l,e)::q)-e.size)=dk (p++q):=by
 have h1:=xj (p++q) (λx hx=>hs x (((List.Sublist.refl p).append (List.sublist_cons_self _ _)).subset hx));have Nq:(p++q).length<=5000:=bj ((List.Sublist.refl p).append (List.sublist_cons_self _ _)).length_le hl
 have e1:dk (p++(l,e)::q)-e.size=dk (p++q):=by
  rw[jC,jC];show dk p+(e.size+dk q)-e.size=_
  omega
 rw[e1];rw[b_];omega
theorem pS{w:World}{bl r M:Nat}{n m:Int}{p q:List Lk}{l:Nat}{e:cw}(h:eR w bl r M n m (p++(l,e)::q)):Calls Tryz.prog 186 #[.pointer (some ⟨bl,0,none⟩),.string e.key] w λx w'=>x=.returned (.bool true)/\eR w' bl r M n m (p++q)/\aL (bl::M::r::(p++(l,e)::q).map Prod.fst) w w':=by
 have Nv:=h.ks (l,e) (by simp);have U7:kU (lJ (p++(l,e)::q)) e.key=some l:=lH h.kn (by simp[lJ]);have k1:=jx h e.key Nv;rw[U7]at k1;simp only[uo,ptr]at k1;have K1:=ah k1;clear k1;have hs:=h.ring.2;rw[js]at hs;have hl:eX 171 w l e (ptr (gw r p)) (ptr (hd q r)):=hs.2.1;clear hs
 obtain⟨e1,va1,vf1,ha⟩:=h.ring.at (gw r p) (by
  rcases@fS p r with hm|⟨_,hm⟩
  ·rw[cO];exact bJ _ (List.mem_append_left _ hm)
  ·rw[hm];exact fD)
 obtain⟨e2,va2,vf2,hz⟩:=h.ring.at (hd q r) (by
  rcases@ol q r with hm|⟨_,hm⟩
  ·rw[cO,bw];exact bJ _ (sE _ (bJ _ hm))
  ·rw[hm];exact fD)
 have k2:=yy l (gw r p) (hd q r) w hl.cells.2.2.2.1 hl.cells.2.2.2.2.1 ⟨_,ha.cells.2.2.2.2.1⟩ ⟨_,hz.cells.2.2.2.1⟩ (ha.cells.2.2.2.2.2.1 13) (hz.cells.2.2.2.2.2.1 12);have K2:=ah k2;clear k2;have k3:IntKind.i64.wrap (dk (p++(l,e)::q)-e.size)=dk (p++q):=E4 h.sz h.len;have HH:=ah h;clear h hl ha hz;go_enter Tryz.func186,Tryz.ntmps186
 go_wp2_with fail
 refine K1.out.mono ?_;rintro x w1 ⟨rfl,rfl⟩;go_wp2_with fail
 refine K2.out.mono ?_;rintro x w1 ⟨⟨v,rfl⟩,k,rfl⟩;obtain⟨w1,Re,Nx,hMM,⟨va,vf,hl⟩,Ov,RO⟩:=vF HH.out k;rw[<-Re];clear Re;have c2:w1.cell? ⟨bl,2,none⟩=some (.int .i64 (dk (p++(l,e)::q))):=by simp[World.cell?,Nx,HH.out.blk]
 have f2:w1.frozen? ⟨bl,2,none⟩=false:=by simp[World.frozen?,Nx,HH.out.blk]
 have c1:w1.cell? ⟨l,1,none⟩=some (.int .i64 e.size):=hl.cells.2.1;have HB:=ah Nx;have HL:=ah hl;clear Nx hl;go_wp2;go_region
 obtain⟨w2,OU⟩:=aH ((w1.setCell ⟨bl,2,none⟩ (.int .i64 (dk (p++q)))).drew);rw[OU]
 have hM2:w2.heap[M]?=w.heap[M]?:=by rw[<-OU];refine(aG _ _ _ _ _ (λx=>?_)).trans hMM;have:=HH.out.nd;rw[dK]at this;exact this.1 (by rw[<-x];simp)
 have c3:w2.cell? ⟨bl,3,none⟩=some (.map (some M)):=by rw[<-OU,World.cell?_drew,World.cell?_setCell_other _ _ _ _ (by intro e;cases e)];simp[World.cell?,HB.out,HH.out.blk]
 have Zb:nH w2 M (lJ (p++(l,e)::q)):=HH.out.mp.of hM2;obtain⟨o,NQ,hmv2⟩:=LV Tryz.underlying9 Tryz.underlying172 Zb HH.out.kn e.key Nv (p:=lJ p) (q:=lJ q) (b:=l) (by simp[lJ]) 0
 have XK:∃es c,w2.heap[M]?=some (.map es c):=by obtain⟨es,c,h1,_⟩:=Zb;exact⟨es,c,h1⟩
 have fin:=EY HH.out HB.out Ov 1 RO OU.symm (o:=o) XK (by rw[lJ,cO];exact hmv2);have HF:=ah fin;clear fin Zb hmv2 XK OU Ov RO hM2 hMM;go_wp2;go_ret;exact⟨rfl,HF.out⟩
theorem CH{w:World}{bl r M:Nat}{n m:Int}{xs:List Lk}(h:eR w bl r M n m xs)(key:ByteArray)(Nv:key.size<=maxLen)(ON:kU (lJ xs) key=none):Calls Tryz.prog 186 #[.pointer (some ⟨bl,0,none⟩),.string key] w λx w'=>x=.returned (.bool false)/\w=w':=by
 have k1:=jx h key Nv;rw[ON]at k1;simp only[uo]at k1;have K1:=ah k1;clear k1;go_enter Tryz.func186,Tryz.ntmps186
 go_wp2_with fail
 refine K1.out.mono ?_;rintro x w1 ⟨rfl,rfl⟩;go_wp2;go_ret;exact⟨rfl,rfl⟩
theorem CY{w:World}{bl r M:Nat}{n m:Int}{xs:List Lk}(h:eR w bl r M n m xs)(key:ByteArray)(Nv:key.size<=maxLen)(ON:kU (lJ xs) key=none):Calls Tryz.prog 185 #[.pointer (some ⟨bl,0,none⟩),.string key] w λx w'=>x=.returned (.tuple #[uw.x.val,.bool false])/\Below w.heap.size w w':=by
 obtain⟨W0,Nb⟩:=bg w IZ;have b0:=bm Nb;have bx:eb W0 w.heap.size 114 uw.x:=by rw[<-Nb];exact ay w _ _ rfl
 have k1:=jx (h.below b0 h.low) key Nv;rw[ON]at k1;simp only[uo]at k1;obtain⟨K1,HW⟩:=az k1 Nb;obtain⟨⟨g0,g1,g2,g3,g4,g5,g6,g7,g8,g9⟩,⟨q0,q1,q2,q3,q4,q5,q6,q7,q8,q9⟩,VD⟩:=bx.ten;unfold uw at*;unfold Hv.val;simp only at*
 clear k1 h bx Nb;go_enter Tryz.func185,Tryz.ntmps185
 go_upto_region 1 with(fail)
 rw[HW.out];go_wp2_with fail
 refine K1.out.mono ?_;rintro x w1 ⟨rfl,rfl⟩;go_wp2_with fail
 refine bodyPost_ret_by (v:=.tuple #[.agg #[.string ⟨#[]⟩,.int .i64 0,.string ⟨#[]⟩,.int .i64 0,.slice none 0 0,.string ⟨#[]⟩,.int .i64 0,.int .i64 0,.slice none 0 0,.int .i64 0],.bool false]) ?_ rfl ?_
 ·rw[results_cell_tmp rfl];go_simp
 ·exact⟨rfl,ie b0 (aw _) _ _ _ _ _ _ _ _ _ _⟩
theorem FE{w:World}{bl r M:Nat}{n m:Int}{xs:List Lk}(h:eR w bl r M n m xs){l:Nat}{e:cw}(hm:(l,e)∈xs):Calls Tryz.prog 185 #[.pointer (some ⟨bl,0,none⟩),.string e.key] w λx w'=>x=.returned (.tuple #[e.x.val,.bool true])/\Below w.heap.size w w':=by
 have U7:kU (lJ xs) e.key=some l:=lH h.kn (eY.2 ⟨(l,e),hm,rfl⟩);obtain⟨W0,Nb⟩:=bg w IZ;have b0:=bm Nb;have bx:eb W0 w.heap.size 114 uw.x:=by rw[<-Nb];exact ay w _ _ rfl
 have k1:=jx (h.below b0 h.low) e.key (h.ks _ hm);rw[U7]at k1;simp only[uo,ptr]at k1;obtain⟨va,vf,hlk⟩:=(h.below b0 h.low).ring.2.mem hm;obtain⟨K1,HW⟩:=az k1 Nb;obtain⟨x0,x1,x2,x3,x4,x5,x6,x7,x8,x9⟩:JM W0 l e.x:=hlk.cells.2.2.1;obtain⟨⟨g0,g1,g2,g3,g4,g5,g6,g7,g8,g9⟩,⟨q0,q1,q2,q3,q4,q5,q6,q7,q8,q9⟩,VD⟩:=bx.ten;unfold uw at*;unfold Hv.val;simp only at*
 clear k1 h bx Nb hlk;go_enter Tryz.func185,Tryz.ntmps185
 go_upto_region 1 with(fail)
 rw[HW.out];go_wp2_with fail
 refine K1.out.mono ?_;rintro x w1 ⟨rfl,rfl⟩;go_wp2_with fail
 refine bodyPost_ret_by (v:=.tuple #[e.x.val,.bool true]) ?_ rfl ?_
 ·rw[results_cell_tmp rfl];go_simp;rfl
 ·exact⟨rfl,ie b0 (aw _) _ _ _ _ _ _ _ _ _ _⟩
theorem My{w w1 w2:World}{bl r M:Nat}{n m:Int}{p q:List Lk}{l:Nat}{e:cw}{va vf:Value}(h:eR w bl r M n m (p++(l,e)::q))(Nx:w1.heap[bl]?=w.heap[bl]?)(hM:w1.heap[M]?=w.heap[M]?)(hlk:eX 171 w1 l e va vf)(Ov:mR 171 uw w1 r (p++q))(ht:aL (bl::M::r::(p++(l,e)::q).map Prod.fst) w w1)(k:Nat)(OU:w2=((((w1.setCell ⟨l,12,none⟩ (ptr (gw r (p++q)))).setCell ⟨l,13,none⟩ (ptr r)).setCell ⟨gw r (p++q),13,none⟩ (ptr l)).setCell ⟨r,12,none⟩ (ptr l)).drewN k):eR w2 bl r M n m (p++q++[(l,e)])/\aL (bl::M::r::(p++(l,e)::q).map Prod.fst) w w2:=by
 have O5:(p++q++[(l,e)]).Perm (p++(l,e)::q):=(List.perm_append_singleton _ _).trans List.perm_middle.symm;have V3:=O5.map Prod.fst;have Oi:=h.nd;have R7:=Oi;rw[dK,dK]at R7;obtain⟨P6,Vj,QZ⟩:=R7;have hrn2:(r::(p++q++[(l,e)]).map Prod.fst).Nodup:=((V3.cons r).nodup_iff).2 QZ;have Zv:=hrn2;rw[cO,<-mr,List.nodup_append]at Zv;have SH:l ∉ r::(p++q).map Prod.fst:=λhm=>Zv.2.2 l hm l (by simp) rfl
 have XJ:∀c,c∈r::(p++q).map Prod.fst->c∈r::(p++(l,e)::q).map Prod.fst:=λc hc=>(V3.cons r).mem_iff.1 (by rw[cO,<-mr];exact List.mem_append_left _ hc)
 have V0:l∈r::(p++(l,e)::q).map Prod.fst:=bJ _ (eY.2 ⟨(l,e),by simp,rfl⟩)
 have Qw:gw r (p++q)∈r :: (p++(l,e) :: q).map Prod.fst:=XJ _ (by
  rcases@fS (p++q) r with hm|⟨_,hm⟩
  ·exact bJ _ hm
  ·rw[hm];exact fD)
 have ON:∀c,c ∉ r::(p++(l,e)::q).map Prod.fst->w2.heap[c]?=w1.heap[c]?:=λc hc=>by rw[OU,World.heap_drewN,aG _ _ _ _ _ (λx=>hc (by rw[x];exact fD)),aG _ _ _ _ _ (λx=>hc (by rw[x];exact Qw)),aG _ _ _ _ _ (λx=>hc (by rw[x];exact V0)),aG _ _ _ _ _ (λx=>hc (by rw[x];exact V0))]
 have f2:∀c∈r::(p++(l,e)::q).map Prod.fst,c∈bl::M::r::(p++(l,e)::q).map Prod.fst:=λc hc=>bJ _ (bJ _ hc)
 refine⟨⟨?_,?_,?_,(((V3.cons r).cons M).cons bl).nodup_iff.2 Oi,?_,λx hx=>h.sz x (O5.mem_iff.1 hx),?_,λx hx=>h.ks x (O5.mem_iff.1 hx)⟩,?_⟩
 ·rw[ON bl (λx=>P6 (bJ _ x)),Nx,h.blk]
  have e1:dk (p++(l,e)::q)=dk (p++q++[(l,e)]):=by rw[jC,jC,jC,dk,dk,dk];omega
  rw[e1]
 ·have:=Ov.last hlk Zv.1 SH;rw[OU];exact this.of (λ_ _=>rfl)
 ·obtain⟨es,c,h1,h2,h3⟩:=h.mp;refine⟨es,c,by rw[ON M Vj,hM,h1],h2.trans ?_,λx hx=>h3 x ?_⟩
  ·exact((O5.map λx:Lk=>(x.2.key,x.1)).map _).symm
  ·exact(O5.map λx:Lk=>(x.2.key,x.1)).mem_iff.1 hx
 ·exact(((O5.map _).map _).nodup_iff).2 h.kn
 ·rw[O5.length_eq];exact h.len
 ·rw[OU];exact((((ht.setCell l 12 _ (f2 _ V0)).setCell l 13 _ (f2 _ V0)).setCell _ 13 _ (f2 _ Qw)).setCell r 12 _ (f2 _ fD)).drewN k
theorem aL.of_below{fp:List Nat}{w w0 w':World}(hb:Below w.heap.size w w0)(ht:aL fp w0 w'):aL fp w w':=⟨ht.1.trans hb.os,ht.2.1.trans hb.tape,ht.2.2.1.trans hb.output,bj hb.size ht.2.2.2.1,λb h1 h2=>(ht.2.2.2.2 b (bE h1 hb.size) h2).trans (hb.block b h1)⟩
theorem aL.setTen{fp:List Nat}{w w':World}(h:aL fp w w'){g:Nat}(hg:w.heap.size<=g)(v0 v1 v2 v3 v4 v5 v6 v7 v8 v9:Value):aL fp w (setTen w' g v0 v1 v2 v3 v4 v5 v6 v7 v8 v9):=by have h1:=ie (aO g w') (aw g) v0 v1 v2 v3 v4 v5 v6 v7 v8 v9;exact⟨h1.os.trans h.1,h1.tape.trans h.2.1,h1.output.trans h.2.2.1,bj h.2.2.2.1 h1.size,λb hb hn=>(lY (by omega) _ _ _ _ _ _ _ _ _ _).trans (h.2.2.2.2 b hb hn)⟩
theorem FO{w:World}{bl r M:Nat}{n m:Int}{p q:List Lk}{l:Nat}{e:cw}(h:eR w bl r M n m (p++(l,e)::q)):Calls Tryz.prog 283 #[.pointer (some ⟨bl,0,none⟩),.string e.key] w λx w'=>x=.returned (.tuple #[e.x.val,.bool true])/\eR w' bl r M n m (p++q++[(l,e)])/\aL (bl::M::r::(p++(l,e)::q).map Prod.fst) w w':=by
 obtain⟨W0,Nb⟩:=bg w IZ;have b0:=bm Nb;have bx:eb W0 w.heap.size 114 uw.x:=by rw[<-Nb];exact ay w _ _ rfl
 have O2:=h.low;have h0:=h.below b0 O2;obtain⟨HW,BX,Ou,RV⟩:=bK Nb bx b0 O2;clear h Nb bx b0 O2;have Nv:=h0.ks (l,e) (by simp);have U7:kU (lJ (p++(l,e)::q)) e.key=some l:=lH h0.kn (by simp[lJ]);have k1:=jx h0 e.key Nv;rw[U7]at k1;simp only[uo,ptr]at k1;have K1:=ah k1;clear k1;have hs:=h0.ring.2;rw[js]at hs;have hl:eX 171 W0 l e (ptr (gw r p)) (ptr (hd q r)):=hs.2.1;clear hs
 obtain⟨e1,va1,vf1,ha⟩:=h0.ring.at (gw r p) (by
  rcases@fS p r with hm|⟨_,hm⟩
  ·rw[cO];exact bJ _ (List.mem_append_left _ hm)
  ·rw[hm];exact fD)
 obtain⟨e2,va2,vf2,hz⟩:=h0.ring.at (hd q r) (by
  rcases@ol q r with hm|⟨_,hm⟩
  ·rw[cO,bw];exact bJ _ (sE _ (bJ _ hm))
  ·rw[hm];exact fD)
 have k2:=yy l (gw r p) (hd q r) W0 hl.cells.2.2.2.1 hl.cells.2.2.2.2.1 ⟨_,ha.cells.2.2.2.2.1⟩ ⟨_,hz.cells.2.2.2.1⟩ (ha.cells.2.2.2.2.2.1 13) (hz.cells.2.2.2.2.2.1 12);have K2:=ah k2;clear k2;have HH:=ah h0;clear h0 hl ha hz;go_enter Tryz.func283,Tryz.ntmps283
 go_upto_region 1 with(fail)
 rw[HW.out];go_wp2_with fail
 refine K1.out.mono ?_;rintro x w1 ⟨rfl,rfl⟩;go_wp2_with fail
 refine K2.out.mono ?_;rintro x w1 ⟨⟨v,rfl⟩,k,rfl⟩;obtain⟨w1,Re,Nx,hMM,⟨va,vf,hl⟩,Ov,RO⟩:=vF HH.out k;rw[<-Re];clear Re
 have k3:∀c,c∈r::(p++q).map Prod.fst->c≠l:=λc hc x=>by
  have O5:(p++(l,e)::q).Perm ((l,e)::(p++q)):=List.perm_middle;have:=HH.out.nd;rw[dK,dK]at this;have h2:=(((O5.map Prod.fst).cons r).nodup_iff).1 this.2.2;rw[bw,dK,dK]at h2;subst x;rcases cZ.1 hc with rfl|hc
  ·exact h2.1 (by simp)
  ·exact h2.2.1 hc
 have Qw:gw r (p++q)∈r::(p++q).map Prod.fst:=by
  rcases@fS (p++q) r with hm|⟨_,hm⟩
  ·exact bJ _ hm
  ·rw[hm];exact fD
 have hbln:bl≠l:=λx=>by have:=HH.out.nd;rw[dK]at this;exact this.1 (by rw[x];simp)
 have c4:w1.cell? ⟨bl,4,none⟩=some (ptr r):=by simp[World.cell?,Nx,HH.out.blk]
 obtain⟨e3,va3,vf3,h3⟩:=Ov.at _ Qw;have k4:=vh bl r l (gw r (p++q)) w1 c4 Ov.1.cells.2.2.2.1 ⟨_,hl.cells.2.2.2.1⟩ ⟨_,hl.cells.2.2.2.2.1⟩ ⟨_,h3.cells.2.2.2.2.1⟩ (hl.cells.2.2.2.2.2.1 12) (hl.cells.2.2.2.2.2.1 13) (h3.cells.2.2.2.2.2.1 13) (Ov.1.cells.2.2.2.2.2.1 12) hbln (k3 r fD) (k3 _ Qw);have K4:=ah k4;clear k4 c4 h3;have H1:=ah (aB Nx (aB hMM (aB hl (aB Ov RO))));clear Nx hMM hl Ov RO;go_wp2_with fail
 refine K4.out.mono ?_;rintro x w2 ⟨⟨v2,rfl⟩,k5,OU⟩;have fin:=My HH.out H1.out.1 H1.out.2.1 H1.out.2.2.1 H1.out.2.2.2.1 H1.out.2.2.2.2 k5 OU;clear OU
 have c2:JM w2 l e.x:=by obtain⟨va,vf,hk⟩:=fin.1.ring.2.mem (l:=l) (e:=e) (by simp);exact hk.cells.2.2.1
 obtain⟨x0,x1,x2,x3,x4,x5,x6,x7,x8,x9⟩:=c2
 have hnf:∀b∈bl::M::r::(p++q++[(l,e)]).map Prod.fst,b≠w.heap.size:=λb hb=>by
  have M9:b∈bl::M::r::(p++(l,e)::q).map Prod.fst:=by simp only[cO,bw,List.map_nil,cZ,eB,List.not_mem_nil,or_false]at hb ⊢;rcases hb with h|h|h|(h|h)|h<;>simp[h]
  have:=RV.out b M9;omega
 have RP:eb w2 w.heap.size 114 uw.x:=BX.out.of (fin.2.2.2.2.2 _ BX.out.lt (λhm=>by have:=RV.out _ hm;omega));obtain⟨⟨g0,g1,g2,g3,g4,g5,g6,g7,g8,g9⟩,⟨q0,q1,q2,q3,q4,q5,q6,q7,q8,q9⟩,VD⟩:=RP.ten;unfold uw at g0 g1 g2 g3 g4 g5 g6 g7 g8 g9;simp only at g0 g1 g2 g3 g4 g5 g6 g7 g8 g9
 obtain⟨HF,HNF⟩:=az fin hnf;clear fin hnf RP;go_wp2_with fail
 refine bodyPost_ret_by (v:=.tuple #[e.x.val,.bool true]) ?_ rfl ?_
 ·rw[results_cell_tmp rfl];go_simp;rfl
 ·exact⟨rfl,HF.out.1.of (λb hb=>lY (HNF.out b hb) _ _ _ _ _ _ _ _ _ _),(aL.of_below Ou.out HF.out.2).setTen (aw _) _ _ _ _ _ _ _ _ _ _⟩
theorem Fv{w:World}{bl r M:Nat}{n m:Int}{xs:List Lk}(h:eR w bl r M n m xs)(key:ByteArray)(Nv:key.size<=maxLen)(ON:kU (lJ xs) key=none):Calls Tryz.prog 283 #[.pointer (some ⟨bl,0,none⟩),.string key] w λx w'=>x=.returned (.tuple #[uw.x.val,.bool false])/\Below w.heap.size w w':=by
 obtain⟨W0,Nb⟩:=bg w IZ;have b0:=bm Nb;have bx:eb W0 w.heap.size 114 uw.x:=by rw[<-Nb];exact ay w _ _ rfl
 have k1:=jx (h.below b0 h.low) key Nv;rw[ON]at k1;simp only[uo]at k1;obtain⟨K1,HW⟩:=az k1 Nb;obtain⟨⟨g0,g1,g2,g3,g4,g5,g6,g7,g8,g9⟩,⟨q0,q1,q2,q3,q4,q5,q6,q7,q8,q9⟩,VD⟩:=bx.ten;unfold uw at*;unfold Hv.val;simp only at*
 clear k1 h bx Nb;go_enter Tryz.func283,Tryz.ntmps283
 go_upto_region 1 with(fail)
 rw[HW.out];go_wp2_with fail
 refine K1.out.mono ?_;rintro x w1 ⟨rfl,rfl⟩;go_wp2_with fail
 refine bodyPost_ret_by (v:=.tuple #[.agg #[.string ⟨#[]⟩,.int .i64 0,.string ⟨#[]⟩,.int .i64 0,.slice none 0 0,.string ⟨#[]⟩,.int .i64 0,.int .i64 0,.slice none 0 0,.int .i64 0],.bool false]) ?_ rfl ?_
 ·rw[results_cell_tmp rfl];go_simp
 ·exact⟨rfl,ie b0 (aw _) _ _ _ _ _ _ _ _ _ _⟩
def uZ(k:ByteArray)(e:cw):Bool:=e.key.data.toList==k.data.toList
theorem lh{k:ByteArray}{e:cw}:uZ k e=true<->e.key=k:=by
 unfold uZ;constructor
 ·intro h;exact dE _ _ (by simpa using h)
 ·rintro rfl;simp
theorem qp{k:ByteArray}{e:cw}:uZ k e=false<->e.key≠k:=by rw[<-Bool.not_eq_true,lh]
def mY(k:ByteArray)(es:List cw):List cw:=es.filter λe=>!uZ k e
def ly(k:ByteArray)(es:List cw):Option cw:=es.find? (uZ k)
def py(k:ByteArray)(es:List cw):Bool:=(ly k es).isSome
def zt(k:ByteArray)(es:List cw):List cw:=match ly k es with
 |none=>es
 |some e=>mY k es++[e]
def jS:List cw->Int
 | []=>0
 |e::t=>e.size+jS t
def qx(n m:Int)(es:List cw):Bool:=decide (n<(es.length:Int))||decide (m<jS es)
def uA(n m:Int):List cw->List ByteArray × List cw
 | []=>([],[])
 |e::t=>if qx n m (e::t)then(e.key::(uA n m t).1,(uA n m t).2)else([],e::t)
def iG(n m:Int)(k:ByteArray)(s:Int)(x:Hv)(es:List cw):List ByteArray × List cw:=if m<s then(if py k es then [k]else [],mY k es)else uA n m (mY k es++[⟨k,max 0 s,x⟩])
theorem zl:∀(p q:List cw),jS (p++q)=jS p+jS q
 | [],q=>by simp[jS]
 |e::t,q=>by rw[mr,jS,jS,zl t q];omega
theorem mZ:∀(xs:List Lk),dk xs=jS (xs.map Prod.snd)
 | []=>rfl
 |(b,e)::t=>by rw[dk,bw,jS,mZ t]
theorem vI(k:ByteArray):∀(es:List cw),(es.map (·.key)).Nodup->(ly k es=none/\mY k es=es/\∀e∈es,e.key≠k)\/∃p e q,es=p++e::q/\e.key=k/\ly k es=some e/\mY k es=p++q
 | [],_=>Or.inl ⟨rfl,rfl,by simp⟩
 |x::t,h=>by
  rw[bw,dK]at h;by_cases hx:x.key=k
  ·right
   refine⟨[],x,t,rfl,hx,?_,?_⟩
   ·unfold ly;rw[List.find?_cons,lh.2 hx]
   ·unfold mY;rw[o8,lh.2 hx];simp only[di,mt,if_false,lp];rw[List.filter_eq_self];intro e he;have:e.key≠k:=λe2=>h.1 (eY.2 ⟨e,he,by rw[e2,hx]⟩)
    rw[qp.2 this];rfl
  ·have RP:=qp.2 hx;rcases vI k t h.2 with⟨h1,h2,h3⟩|⟨p,e,q,h1,h2,h3,h4⟩
   ·left
    refine⟨?_,?_,?_⟩
    ·unfold ly at*;rw[List.find?_cons,RP];exact h1
    ·unfold mY at*;rw[o8,RP];simp[h2]
    ·intro e he;rcases cZ.1 he with rfl|he
     ·exact hx
     ·exact h3 e he
   ·right
    refine⟨x::p,e,q,by rw[h1];rfl,h2,?_,?_⟩
    ·unfold ly at*;rw[List.find?_cons,RP];exact h3
    ·unfold mY at*;rw[o8,RP];simp[h4]
theorem oC(k:ByteArray):∀(xs:List Lk),((lJ xs).map Prod.fst).Nodup->(ly k (xs.map Prod.snd)=none/\mY k (xs.map Prod.snd)=xs.map Prod.snd/\kU (lJ xs) k=none/\∀p∈xs,p.2.key≠k) ∨ ∃p l e q,xs=p++(l,e)::q/\e.key=k/\ly k (xs.map Prod.snd)=some e/\mY k (xs.map Prod.snd)=(p++q).map Prod.snd/\∀x∈p++q,x.2.key≠k:=by
 intro xs Oi;have hk:(lJ xs).map Prod.fst=(xs.map Prod.snd).map (·.key):=by simp[lJ]
 rw[hk]at Oi;rcases vI k (xs.map Prod.snd) Oi with⟨h1,h2,h3⟩|⟨p,e,q,h1,h2,h3,h4⟩
 ·left
  refine⟨h1,h2,AZ (λx hx=>?_),λx hx=>h3 _ (eY.2 ⟨x,hx,rfl⟩)⟩;unfold lJ at hx;obtain⟨y,hy,rfl⟩:=eY.1 hx;exact h3 _ (eY.2 ⟨y,hy,rfl⟩)
 ·right
  obtain⟨p',r',rfl,rfl,h5⟩:=List.map_eq_append_iff.1 h1;obtain⟨⟨l,e'⟩,q',rfl,rfl,rfl⟩:=List.map_eq_cons_iff.1 h5;refine⟨p',l,e',q',rfl,h2,h3,by rw[h4,cO],λx hx e2=>?_⟩;rw[cO,bw,cO,bw]at Oi;have hp:=(List.perm_middle (a:=e'.key) (l₁:=(p'.map Prod.snd).map (·.key)) (l₂:=(q'.map Prod.snd).map (·.key))).nodup_iff.1 Oi;rw[dK]at hp;refine hp.1 ?_;rw[h2,<-e2,<-cO,<-cO];exact eY.2 ⟨x.2,eY.2 ⟨x,hx,rfl⟩,rfl⟩
theorem DO{n m:Int}(hn:1<=n)(hm:1<=m):∀(es:List cw),((uA n m es).2.length:Int)<=n/\jS (uA n m es).2<=m
 | []=>by rw[uA];simp only[ic,jS];omega
 |e::t=>by
  have ih:=DO hn hm t;rw[uA];split
  ·exact ih
  ·rename_i h;unfold qx at h;simp at h
   simp only[cg];exact⟨by omega,h.2⟩
theorem aL.mono{fp fp':List Nat}{w w':World}(h:aL fp w w')(hs:∀b∈fp,b∈fp'\/w.heap.size<=b):aL fp' w w':=
 ⟨h.1,h.2.1,h.2.2.1,h.2.2.2.1,fun b hb hn=>h.2.2.2.2 b hb (fun x=>by
  rcases hs b x with h'|h'
  ·exact hn h'
  ·omega)⟩
theorem aL.trans{fp fp':List Nat}{w w1 w':World}(h:aL fp w w1)(h2:aL fp' w1 w')(hs:∀b∈fp',b∈fp\/w.heap.size<=b):aL fp w w':=
 ⟨h2.1.trans h.1,h2.2.1.trans h.2.1,h2.2.2.1.trans h.2.2.1,bj h.2.2.2.1 h2.2.2.2.1,fun b hb hn=>(h2.2.2.2.2 b (bE hb h.2.2.2.1) (fun x=>by
  rcases hs b x with h'|h'
  ·exact hn h'
  ·omega)).trans (h.2.2.2.2 b hb hn)⟩
theorem aL.below{fp:List Nat}{w w':World}{B:Nat}(h:aL fp w w')(hs:∀b∈fp,B<=b)(hB:B<=w.heap.size):Below B w w':=⟨h.1,h.2.1,h.2.2.1,h.2.2.2.1,λb hb=>h.2.2.2.2 b (by omega) (λx=>by have:=hs b x;omega)⟩
section
variable {P:Program}{w:World}{tp te:TypeId}{n:Nat}
theorem xE(hp:P.underlying tp=some (.pointer te))(hte:(P.info? te).map (·.size)=some (n+1))(a:Nat):(binOp .neq tp (.pointer (some ⟨a,0,none⟩)) (.pointer (some ⟨a,0,none⟩))).run P w=.ok (.bool false) w:=by
 obtain⟨j,hj,_⟩:=Option.map_eq_some_iff.1 hte
 have h:∀d:Nat,(Op.equalIn (d+1) tp (.pointer (some ⟨a,0,none⟩)) (.pointer (some ⟨a,0,none⟩))).run P w=.ok true w:=λd=>by simp[Op.equalIn,run_underlying hp,typeInfo,sizeOf,run_sameAddr_same,hj]
 simp only[binOp];simp[Op.equal,Op.maxDepth,h 9999]
theorem ut(hp:P.underlying tp=some (.pointer te))(hte:(P.info? te).map (·.size)=some (n+1)){a b:Nat}{ca cb:Array Value}{ta tb:TypeId}(Ng:a≠b)(ha:w.heap[a]?=some (.cells ca ta (0,0)))(hb:w.heap[b]?=some (.cells cb tb (0,0))):(binOp .neq tp (.pointer (some ⟨a,0,none⟩)) (.pointer (some ⟨b,0,none⟩))).run P w=.ok (.bool true) w:=by
 obtain⟨j,hj,hs⟩:=Option.map_eq_some_iff.1 hte;have SO:(⟨a,0,none⟩:Addr)≠⟨b,0,none⟩:=λe=>by cases e;exact Ng rfl
 have h:∀d:Nat,(Op.equalIn (d+1) tp (.pointer (some ⟨a,0,none⟩)) (.pointer (some ⟨b,0,none⟩))).run P w=.ok false w:=λd=>by simp[Op.equalIn,run_underlying hp,typeInfo,sizeOf,run_sameAddr_other w SO ha hb,hj,hs]
 simp only[binOp];simp[Op.equal,Op.maxDepth,h 9999]
end
theorem aL.alloc{fp:List Nat}{w w':World}(h:aL fp w w')(o:Obj):aL fp w (w'.alloc o):=⟨h.1,h.2.1,h.2.2.1,by have:=h.2.2.2.1;simp only[World.alloc,Array.size_push];omega,λb hb hn=>(gG _ _ _ (bE hb h.2.2.2.1)).trans (h.2.2.2.2 b hb hn)⟩
def fu(ks:List ByteArray):List (List UInt8):=ks.map λk=>k.data.toList
theorem ng(k:ByteArray):(⟨k.data.toList.toArray⟩:ByteArray)=k:=by cases k;simp
theorem Dc{xs:List Lk}(h:∀p∈xs,0<=p.2.size/\p.2.size<=1073741824)(hl:xs.length<=5000):0<=dk xs/\dk xs<=5368709120000:=by have:=xj xs h;omega
theorem aQ.touch{B:Nat}{v:Value}{ls:List (List UInt8)}{w w':World}{fp:List Nat}(h:aQ B v ls w)(ht:aL fp w w')(TT:∀b∈fp,b<B\/w.heap.size<=b):aQ B v ls w':=by
 obtain⟨h1,h2⟩:=h;refine⟨h1,?_⟩;rcases h2 with h2|⟨g,cap,cur,hv,hg,hh,r⟩
 ·exact Or.inl h2
 ·refine Or.inr ⟨g,cap,cur,hv,hg,?_,r⟩
  have Nc:g<w.heap.size:=by
   rcases ef g w.heap.size with h'|h'
   ·exact h'
   ·simp[fy h']at hh
  rw[ht.2.2.2.2 g Nc (λx=>by rcases TT g x with h|h<;>omega)];exact hh
theorem aQ.lt'{B:Nat}{v:Value}{ls:List (List UInt8)}{w:World}(h:aQ B v ls w)(g:Nat)(hg:v.ownBlock=some g):B<=g:=by
 rcases h.2 with⟨rfl,_⟩|⟨g',cap,cur,rfl,h1,_⟩
 ·cases hg
 ·cases hg;exact h1
theorem aL.belowR{fp:List Nat}{w w1 w':World}(h:aL fp w w1)(hb:Below w.heap.size w1 w'):aL fp w w':=⟨hb.os.trans h.1,hb.tape.trans h.2.1,hb.output.trans h.2.2.1,bj h.2.2.2.1 hb.size,λb h1 h2=>(hb.block b h1).trans (h.2.2.2.2 b h1 h2)⟩
def tV:Value->Nat
 |.slice _ n _=>n
 |_=>0
theorem lz(w:World)(o:Obj):(w.alloc o).heap.size=w.heap.size+1:=by simp only[World.alloc,Array.size_push]
def mA(xs:List Lk):List ByteArray:=xs.map λp=>p.2.key
theorem Id{NE es:List cw}(h:NE.Sublist es):(∀e∈es,0<=e.size)->jS NE<=jS es:=by
 induction h with
 |slnil=>intro _;exact iR _
 |cons a h ih=>
  intro hs;have h1:=ih (λe he=>hs e (bJ _ he));have h2:=hs a fD;rw[jS];omega
 |cons_cons a h ih=>
  intro hs;have h1:=ih (λe he=>hs e (bJ _ he));rw[jS,jS];omega
def Iu(z:Hv)(k:ByteArray)(es:List cw):Hv:=match ly k es with
 |some e=>e.x
 |none=>z
theorem F6{w w2 w3:World}{bl r M:Nat}{n m:Int}{xs:List Lk}(h:eR w bl r M n m xs)(e:cw)(s':Int){va vf:Value}{o:_}(k:Nat)(OU:w2=setBlock (w.alloc (.cells #[.string e.key,.int .i64 e.size,.string e.x.key,.int .i64 e.x.st,.string e.x.re,.int .i64 e.x.mi,.slice e.x.fA e.x.fn e.x.fc,.string e.x.bo,.int .i64 e.x.asked,.int .i64 e.x.got,.slice e.x.vA e.x.vn e.x.vc,.int .i64 e.x.num,va,vf] 171 (0,0))) M o)(hm:nH w2 M (lJ xs++[(e.key,w.heap.size)]))(QI:w3=(w2.setCell ⟨bl,2,none⟩ (.int .i64 s')).drewN k):w3.heap[bl]?=some (.cells #[.int .i64 n,.int .i64 m,.int .i64 s',.map (some M),ptr r] 174 (0,0))/\nH w3 M (lJ (xs++[(w.heap.size,e)]))/\eX 171 w3 w.heap.size e va vf/\mR 171 uw w3 r xs/\aL (bl::M::r::xs.map Prod.fst) w w3:=by
 have NV:=h.low;have Oi:=h.nd;rw[dK,dK]at Oi;obtain⟨P6,Vj,QZ⟩:=Oi;obtain⟨es,cl,hM0,_⟩:=h.mp;have hM:(w.alloc (.cells #[.string e.key,.int .i64 e.size,.string e.x.key,.int .i64 e.x.st,.string e.x.re,.int .i64 e.x.mi,.slice e.x.fA e.x.fn e.x.fc,.string e.x.bo,.int .i64 e.x.asked,.int .i64 e.x.got,.slice e.x.vA e.x.vn e.x.vc,.int .i64 e.x.num,va,vf] 171 (0,0))).heap[M]?=some (.map es cl):=(gG _ _ _ (NV M (by simp))).trans hM0;have O3:∀b,b≠M->w2.heap[b]?=(w.alloc (.cells #[.string e.key,.int .i64 e.size,.string e.x.key,.int .i64 e.x.st,.string e.x.re,.int .i64 e.x.mi,.slice e.x.fA e.x.fn e.x.fc,.string e.x.bo,.int .i64 e.x.asked,.int .i64 e.x.got,.slice e.x.vA e.x.vn e.x.vc,.int .i64 e.x.num,va,vf] 171 (0,0))).heap[b]?:=λb Ng=>by rw[OU];exact Go.ChangeMaps.heap_setBlock_other hM _ Ng
 have Ww:w2.heap[bl]?=w.heap[bl]?:=(O3 bl (λx=>P6 (by rw[x];simp))).trans (gG _ _ _ (NV bl (by simp)));have h3:∀b,b≠bl->w3.heap[b]?=w2.heap[b]?:=λb Ng=>by rw[QI,World.heap_drewN,aG _ _ _ _ _ Ng]
 refine⟨?_,?_,?_,?_,?_⟩
 ·rw[QI,World.heap_drewN];have:=Ww.trans h.blk;simp[World.setCell,fJ,this]
 ·have e1:lJ (xs++[(w.heap.size,e)])=lJ xs++[(e.key,w.heap.size)]:=by simp[lJ]
  rw[e1];exact hm.of (h3 M (λx=>P6 (by rw[<-x];simp)))
 ·have Vq:w.heap.size≠bl:=λx=>by have:=NV bl (by simp);omega
  have hlM:w.heap.size≠M:=λx=>by have:=NV M (by simp);omega
  unfold eX;rw[h3 _ Vq,O3 _ hlM];exact heap_alloc_last w _
 ·refine h.ring.of (λb hb=>?_);rw[h3 b (λx=>P6 (by rw[<-x];exact bJ _ hb)),O3 b (λx=>Vj (by rw[<-x];exact hb))];exact gG _ _ _ (NV b (bJ _ (bJ _ hb)))
 ·have t1:aL (bl::M::r::xs.map Prod.fst) w w2:=by
   have t0:=(aL.refl (bl::M::r::xs.map Prod.fst) w).alloc (.cells #[.string e.key,.int .i64 e.size,.string e.x.key,.int .i64 e.x.st,.string e.x.re,.int .i64 e.x.mi,.slice e.x.fA e.x.fn e.x.fc,.string e.x.bo,.int .i64 e.x.asked,.int .i64 e.x.got,.slice e.x.vA e.x.vn e.x.vc,.int .i64 e.x.num,va,vf] 171 (0,0));refine⟨by rw[OU];exact t0.1,by rw[OU];exact t0.2.1,by rw[OU];exact t0.2.2.1,?_,λb h1 h2=>(O3 b (λx=>h2 (by rw[x];simp))).trans (t0.2.2.2.2 b h1 h2)⟩;rw[OU];exact bj t0.2.2.2.1 (by simp[setBlock])
  rw[QI];exact(t1.setCell bl 2 _ (by simp)).drewN k
theorem E7{w w3 w4:World}{bl r M:Nat}{n m:Int}{xs:List Lk}{e:cw}{va vf:Value}(h:eR w bl r M n m xs)(ON:∀p∈xs,p.2.key≠e.key)(Nv:e.key.size<=maxLen)(ND:0<=e.size/\e.size<=1073741824)(hlen:xs.length<5000)(hb:w3.heap[bl]?=some (.cells #[.int .i64 n,.int .i64 m,.int .i64 (dk xs+e.size),.map (some M),ptr r] 174 (0,0)))(hm:nH w3 M (lJ (xs++[(w.heap.size,e)])))(hl:eX 171 w3 w.heap.size e va vf)(Ov:mR 171 uw w3 r xs)(ht:aL (bl::M::r::xs.map Prod.fst) w w3)(k:Nat)(T_:w4=((((w3.setCell ⟨w.heap.size,12,none⟩ (ptr (gw r xs))).setCell ⟨w.heap.size,13,none⟩ (ptr r)).setCell ⟨gw r xs,13,none⟩ (ptr w.heap.size)).setCell ⟨r,12,none⟩ (ptr w.heap.size)).drewN k):eR w4 bl r M n m (xs++[(w.heap.size,e)])/\aL (bl::M::r::xs.map Prod.fst) w w4:=by
 have NV:=h.low;have Oi:=h.nd;have R7:=Oi;rw[dK,dK]at R7;obtain⟨P6,Vj,QZ⟩:=R7;have TS:w.heap.size ∉ bl::M::r::xs.map Prod.fst:=λx=>Nat.lt_irrefl _ (NV _ x)
 have SH:w.heap.size ∉ r::xs.map Prod.fst:=λx=>TS (bJ _ (bJ _ x))
 have Qw:gw r xs∈r::xs.map Prod.fst:=by
  rcases@fS xs r with hm|⟨_,hm⟩
  ·exact bJ _ hm
  ·rw[hm];exact fD
 have Y4:∀c,c ∉ r::xs.map Prod.fst->c≠w.heap.size->w4.heap[c]?=w3.heap[c]?:=λc hc Ng=>by rw[T_,World.heap_drewN,aG _ _ _ _ _ (λx=>hc (by rw[x];exact fD)),aG _ _ _ _ _ (λx=>hc (by rw[x];exact Qw)),aG _ _ _ _ _ Ng,aG _ _ _ _ _ Ng]
 have Nx:bl≠w.heap.size:=λx=>TS (by rw[<-x];simp)
 have hMl:M≠w.heap.size:=λx=>TS (by rw[<-x];simp)
 refine⟨⟨?_,?_,hm.of (Y4 M Vj hMl),?_,?_,?_,by rw[bP];exact hlen,?_⟩,?_⟩
 ·rw[Y4 bl (λx=>P6 (bJ _ x)) Nx,hb];have e1:dk xs+e.size=dk (xs++[(w.heap.size,e)]):=by rw[jC,dk,dk];omega
  rw[e1]
 ·rw[T_];exact(Ov.last hl QZ SH).of (λ_ _=>rfl)
 ·have e1:bl::M::r::(xs++[(w.heap.size,e)]).map Prod.fst=(bl::M::r::xs.map Prod.fst)++[w.heap.size]:=by simp
  rw[e1,List.nodup_append];exact⟨Oi,by simp,λa ha b N4 x=>TS (by rw[cA.1 N4]at x;rw[<-x];exact ha)⟩
 ·have e1:(lJ (xs++[(w.heap.size,e)])).map Prod.fst=(lJ xs).map Prod.fst++[e.key]:=by simp[lJ]
  rw[e1,List.nodup_append];refine⟨h.kn,by simp,λa ha b N4 x=>?_⟩;rw[cA.1 N4]at x;obtain⟨q,hq,rfl⟩:=eY.1 ha;obtain⟨p,hp,rfl⟩:=eY.1 hq;exact ON p hp x
 ·intro p hp;rcases eB.1 hp with h'|h'
  ·exact h.sz p h'
  ·rw[cA.1 h'];exact ND
 ·intro p hp;rcases eB.1 hp with h'|h'
  ·exact h.ks p h'
  ·rw[cA.1 h'];exact Nv
 ·refine⟨?_,?_,?_,?_,λb h1 h2=>?_⟩
  ·rw[T_];exact ht.1
  ·rw[T_];exact ht.2.1
  ·rw[T_];exact ht.2.2.1
  ·rw[T_];simpa using ht.2.2.2.1
  ·rw[Y4 b (λx=>h2 (bJ _ (bJ _ x))) (by omega)];exact ht.2.2.2.2 b h1 h2
theorem uU{w:World}{bl r M:Nat}{n m:Int}{xs:List Lk}(h:eR w bl r M n m xs)(key:ByteArray)(Nv:key.size<=maxLen):Calls Tryz.prog 186 #[.pointer (some ⟨bl,0,none⟩),.string key] w λx w'=>x=.returned (.bool (py key (xs.map Prod.snd)))/\∃ys,ys.map Prod.snd=mY key (xs.map Prod.snd)/\ys.Sublist xs/\(∀p∈ys,p.2.key≠key)/\eR w' bl r M n m ys/\aL (bl::M::r::xs.map Prod.fst) w w':=by
 rcases oC key xs h.kn with⟨h1,h2,h3,h4⟩|⟨p,l,e,q,rfl,rfl,h3,h4,h5⟩
 ·refine(CH h key Nv h3).mono ?_;rintro x w' ⟨rfl,rfl⟩;exact⟨by unfold py;rw[h1];rfl,xs,h2.symm,List.Sublist.refl _,h4,h,aL.refl _ _⟩
 ·refine(pS h).mono ?_;rintro x w' ⟨rfl,hb,ht⟩;exact⟨by unfold py;rw[h3];rfl,p++q,h4.symm,(List.Sublist.refl p).append (List.sublist_cons_self _ _),h5,hb,ht⟩
theorem Bh{w:World}{bl r M:Nat}{n m:Int}{l:Nat}{e:cw}{ys:List Lk}(h:eR w bl r M n m ((l,e)::ys)):w.cell? ⟨r,13,none⟩=some (ptr l)/\w.cell? ⟨l,0,none⟩=some (.string e.key):=by obtain⟨va,vf,hl⟩:=h.ring.2.mem (l:=l) (e:=e) (by simp);exact⟨h.ring.1.cells.2.2.2.2.1,hl.cells.1⟩
def gZ(w:World)(bl r M:Nat)(n m:Int)(fp:List Nat)(ks:List ByteArray)(es:List cw)(x:Ending)(w':World):Prop:=∃a cap ys,x=.returned (.slice a ks.length cap)/\ys.map Prod.snd=es/\eR w' bl r M n m ys/\aQ w.heap.size (.slice a ks.length cap) (fu ks) w'/\(∀g,(Value.slice a ks.length cap).ownBlock=some g->g ∉ bl::M::r::ys.map Prod.fst)/\aL fp w w'/\(∀b∈bl::M::r::ys.map Prod.fst,b∈fp\/w.heap.size<=b)
theorem gZ.lift{w0 w:World}{bl r M:Nat}{n m:Int}{fp:List Nat}{ks:List ByteArray}{es:List cw}{x:Ending}{w':World}(hb:Below w0.heap.size w0 w)(h:gZ w bl r M n m fp ks es x w'):gZ w0 bl r M n m fp ks es x w':=by obtain⟨a,cap,ys,h1,h2,h3,h4,h5,h6,h7⟩:=h;exact⟨a,cap,ys,h1,h2,h3,h4.base hb.size,h5,aL.of_below hb h6,λb N4=>(h7 b N4).imp id (λh=>bj hb.size h)⟩
theorem FW{w0:World}{bl r M:Nat}{n m:Int}{xs:List Lk}(h0:eR w0 bl r M n m xs)(key:ByteArray)(Nv:key.size<=maxLen)(s:Int)(x0:Hv)(hs:m<s):Calls Tryz.prog 304 #[.pointer (some ⟨bl,0,none⟩),.string key,.int .i64 s,x0.val] w0 (gZ w0 bl r M n m (bl::M::r::xs.map Prod.fst) (iG n m key s x0 (xs.map Prod.snd)).1 (iG n m key s x0 (xs.map Prod.snd)).2):=by
 unfold Hv.val;obtain⟨w,Nb⟩:=bg w0 (.cells #[.string x0.key,.int .i64 x0.st,.string x0.re,.int .i64 x0.mi,.slice x0.fA x0.fn x0.fc,.string x0.bo,.int .i64 x0.asked,.int .i64 x0.got,.slice x0.vA x0.vn x0.vc,.int .i64 x0.num] 114);have b0:=bm Nb;have bx:eb w w0.heap.size 114 x0:=by rw[<-Nb];exact ay w0 _ _ rfl
 have O2:=h0.low;have h:=h0.below b0 O2;obtain⟨HW,Ou,BX,HL0⟩:=bK Nb b0 bx O2;clear h0 Nb b0 bx O2;have e0:iG n m key s x0 (xs.map Prod.snd)=(if py key (xs.map Prod.snd)then [key]else [],mY key (xs.map Prod.snd)):=by unfold iG;rw[if_pos hs]
 rw[e0];clear e0;have k1:=rF h;have K1:=ah k1;have k2:=uU h key Nv;have K2:=ah k2;have NV:=ah h.low;clear k1 k2 h;generalize py key (xs.map Prod.snd)=was at*;obtain⟨y,rfl⟩:∃y:List UInt8,key=⟨y.toArray⟩:=⟨key.data.toList,(ng key).symm⟩
 cases was
 ·go_enter Tryz.func304,Tryz.ntmps304
  go_upto_region 1 with(fail)
  rw[HW.out];go_wp2_with fail
  refine K1.out.mono ?_;rintro z w1 ⟨rfl,rfl⟩;go_wp2_with fail
  refine K2.out.mono ?_;rintro z w1 ⟨rfl,ys,h1,h2,h3,hB,ht⟩;have c1:w1.cell? ⟨bl,1,none⟩=some (.int .i64 m):=by simp[World.cell?,hB.blk]
  have t1:decide (s>m)=true:=by simpa using hs
  have HB:=ah hB;clear hB;go_wp2;go_ret;exact gZ.lift Ou.out ⟨none,0,ys,rfl,h1,HB.out,aQ.nil _ _,(λg hg=>by cases hg),ht,λb hb=>Or.inl (((((h2.map Prod.fst).cons_cons r).cons_cons M).cons_cons bl).subset hb)⟩
 ·go_enter Tryz.func304,Tryz.ntmps304
  go_upto_region 1 with(fail)
  rw[HW.out];go_wp2_with fail
  refine K1.out.mono ?_;rintro z w1 ⟨rfl,rfl⟩;go_wp2_with fail
  refine K2.out.mono ?_;rintro z w1 ⟨rfl,ys,h1,h2,h3,hB,ht⟩;have c1:w1.cell? ⟨bl,1,none⟩=some (.int .i64 m):=by simp[World.cell?,hB.blk]
  have t1:decide (s>m)=true:=by simpa using hs
  have HB:=ah hB;have ND:w.heap.size<=w1.heap.size:=ht.2.2.2.1;clear hB;go_wp2_with (at_builtin;refine gq w.heap.size y (aQ.nil _ _) ND (by decide) rfl _ _ rfl rfl rfl ?_)
  intro v' w2 hO M9 Qj;obtain⟨oa,oc,rfl⟩:=hO.shape;go_wp2;go_ret;have OD:=(((h2.map Prod.fst).cons_cons r).cons_cons M).cons_cons bl;exact gZ.lift Ou.out ⟨oa,oc,ys,rfl,h1,HB.out.below M9 (λb hb=>NV.out b (OD.subset hb)),hO,(λg hg hn=>by have:=NV.out g (OD.subset hn);have:=(hO.lt' g hg);omega),ht.belowR M9,λb hb=>Or.inl (OD.subset hb)⟩
theorem Ix{w:World}{bl r M:Nat}{n m:Int}{xs:List Lk}(h:eR w bl r M n m xs)(e:cw){va vf:Value}{o:_}:(setBlock (w.alloc (.cells #[.string e.key,.int .i64 e.size,.string e.x.key,.int .i64 e.x.st,.string e.x.re,.int .i64 e.x.mi,.slice e.x.fA e.x.fn e.x.fc,.string e.x.bo,.int .i64 e.x.asked,.int .i64 e.x.got,.slice e.x.vA e.x.vn e.x.vc,.int .i64 e.x.num,va,vf] 171 (0,0))) M o).cell? ⟨bl,2,none⟩=some (.int .i64 (dk xs))/\(setBlock (w.alloc (.cells #[.string e.key,.int .i64 e.size,.string e.x.key,.int .i64 e.x.st,.string e.x.re,.int .i64 e.x.mi,.slice e.x.fA e.x.fn e.x.fc,.string e.x.bo,.int .i64 e.x.asked,.int .i64 e.x.got,.slice e.x.vA e.x.vn e.x.vc,.int .i64 e.x.num,va,vf] 171 (0,0))) M o).frozen? ⟨bl,2,none⟩=false ∧ (setBlock (w.alloc (.cells #[.string e.key,.int .i64 e.size,.string e.x.key,.int .i64 e.x.st,.string e.x.re,.int .i64 e.x.mi,.slice e.x.fA e.x.fn e.x.fc,.string e.x.bo,.int .i64 e.x.asked,.int .i64 e.x.got,.slice e.x.vA e.x.vn e.x.vc,.int .i64 e.x.num,va,vf] 171 (0,0))) M o).cell? ⟨w.heap.size,1,none⟩=some (.int .i64 e.size):=by
 have NV:=h.low;have Oi:=h.nd;rw[dK,dK]at Oi;obtain⟨P6,Vj,QZ⟩:=Oi;obtain⟨es,cl,hM0,_⟩:=h.mp;have hM:(w.alloc (.cells #[.string e.key,.int .i64 e.size,.string e.x.key,.int .i64 e.x.st,.string e.x.re,.int .i64 e.x.mi,.slice e.x.fA e.x.fn e.x.fc,.string e.x.bo,.int .i64 e.x.asked,.int .i64 e.x.got,.slice e.x.vA e.x.vn e.x.vc,.int .i64 e.x.num,va,vf] 171 (0,0))).heap[M]?=some (.map es cl):=(gG _ _ _ (NV M (by simp))).trans hM0
 have O3:∀b,b≠M->(setBlock (w.alloc (.cells #[.string e.key,.int .i64 e.size,.string e.x.key,.int .i64 e.x.st,.string e.x.re,.int .i64 e.x.mi,.slice e.x.fA e.x.fn e.x.fc,.string e.x.bo,.int .i64 e.x.asked,.int .i64 e.x.got,.slice e.x.vA e.x.vn e.x.vc,.int .i64 e.x.num,va,vf] 171 (0,0))) M o).heap[b]?=(w.alloc (.cells #[.string e.key,.int .i64 e.size,.string e.x.key,.int .i64 e.x.st,.string e.x.re,.int .i64 e.x.mi,.slice e.x.fA e.x.fn e.x.fc,.string e.x.bo,.int .i64 e.x.asked,.int .i64 e.x.got,.slice e.x.vA e.x.vn e.x.vc,.int .i64 e.x.num,va,vf] 171 (0,0))).heap[b]?:=λb Ng=>Go.ChangeMaps.heap_setBlock_other hM _ Ng
 have Ww:=(O3 bl (λx=>P6 (by rw[x];simp))).trans ((gG _ _ _ (NV bl (by simp))).trans h.blk);have Nq:=(O3 w.heap.size (λx=>by have:=NV M (by simp);omega)).trans (heap_alloc_last w _);exact⟨by simp[World.cell?,Ww],by simp[World.frozen?,Ww],by simp[World.cell?,Nq]⟩
theorem BB{w0:World}{bl r M:Nat}{n m:Int}{xs:List Lk}(h0:eR w0 bl r M n m xs)(hn:1<=n/\n<=4096)(hm:1<=m/\m<=1073741824)(QV:(xs.length:Int)<=n)(key:ByteArray)(Nv:key.size<=maxLen)(s:Int)(x0:Hv)(hs:¬m<s):Calls Tryz.prog 304 #[.pointer (some ⟨bl,0,none⟩),.string key,.int .i64 s,x0.val] w0 (gZ w0 bl r M n m (bl::M::r::xs.map Prod.fst) (iG n m key s x0 (xs.map Prod.snd)).1 (iG n m key s x0 (xs.map Prod.snd)).2):=by
 unfold Hv.val;obtain⟨w,Nb⟩:=bg w0 (.cells #[.string x0.key,.int .i64 x0.st,.string x0.re,.int .i64 x0.mi,.slice x0.fA x0.fn x0.fc,.string x0.bo,.int .i64 x0.asked,.int .i64 x0.got,.slice x0.vA x0.vn x0.vc,.int .i64 x0.num] 114);have b0:=bm Nb;have bx:eb w w0.heap.size 114 x0:=by rw[<-Nb];exact ay w0 _ _ rfl
 have O2:=h0.low;have h:=h0.below b0 O2;obtain⟨HW,Ou,BX,HL0⟩:=bK Nb b0 bx O2;clear h0 Nb b0 bx O2;have e0:iG n m key s x0 (xs.map Prod.snd)=uA n m (mY key (xs.map Prod.snd)++[⟨key,max 0 s,x0⟩]):=by unfold iG;rw[if_neg hs]
 rw[e0];clear e0;obtain⟨R,hR⟩:=aH (uA n m (mY key (xs.map Prod.snd)++[⟨key,max 0 s,x0⟩]));rw[hR];have HR:=ah hR;clear hR;have k1:=rF h;have K1:=ah k1;have k2:=uU h key Nv;have K2:=ah k2;have NV:=ah h.low;clear k1 k2 h;generalize py key (xs.map Prod.snd)=was at*;go_enter Tryz.func304,Tryz.ntmps304
 go_upto_region 1 with(fail)
 rw[HW.out];go_wp2_with fail
 refine K1.out.mono ?_;rintro z w1 ⟨rfl,rfl⟩;go_wp2_with fail
 refine K2.out.mono ?_;rintro z w1 ⟨rfl,ys,h1,h2,h3,hB,ht⟩;have c1:w1.cell? ⟨bl,1,none⟩=some (.int .i64 m):=by simp[World.cell?,hB.blk]
 obtain⟨⟨g0,g1,g2,g3,g4,g5,g6,g7,g8,g9⟩,_,_⟩:=(BX.out.of (ht.2.2.2.2 _ BX.out.lt (λhm=>by have:=HL0.out _ hm;omega))).ten;have t1:decide (s>m)=false:=by simpa using hs
 have HB:=ah hB;clear hB;have ND:w.heap.size<=w1.heap.size:=ht.2.2.2.1;have Tg:=ah HB.out.low;obtain⟨z,N_⟩:∃z,z=max 0 s:=⟨_,rfl⟩;have hz:(if 0<s then s else 0)=z:=by rw[N_];split<;>omega
 have hzm:max 0 s=z:=N_.symm;have Na:(w1.alloc (.cells #[.string key,.int .i64 z,.string x0.key,.int .i64 x0.st,.string x0.re,.int .i64 x0.mi,.slice x0.fA x0.fn x0.fc,.string x0.bo,.int .i64 x0.asked,.int .i64 x0.got,.slice x0.vA x0.vn x0.vc,.int .i64 x0.num,.pointer none,.pointer none] 171 (0,0))).heap[bl]?=some (.cells #[.int .i64 n,.int .i64 m,.int .i64 (dk ys),.map (some M),ptr r] 174 (0,0)):=(gG _ _ _ (Tg.out bl (by simp))).trans HB.out.blk;have c3:(w1.alloc (.cells #[.string key,.int .i64 z,.string x0.key,.int .i64 x0.st,.string x0.re,.int .i64 x0.mi,.slice x0.fA x0.fn x0.fc,.string x0.bo,.int .i64 x0.asked,.int .i64 x0.got,.slice x0.vA x0.vn x0.vc,.int .i64 x0.num,.pointer none,.pointer none] 171 (0,0))).cell? ⟨bl,3,none⟩=some (.map (some M)):=by simp[World.cell?,Na]
 obtain⟨o,Tu,Zb⟩:=LC Tryz.underlying9 Tryz.underlying172 (HB.out.mp.of (w':=w1.alloc (.cells #[.string key,.int .i64 z,.string x0.key,.int .i64 x0.st,.string x0.re,.int .i64 x0.mi,.slice x0.fA x0.fn x0.fc,.string x0.bo,.int .i64 x0.asked,.int .i64 x0.got,.slice x0.vA x0.vn x0.vc,.int .i64 x0.num,.pointer none,.pointer none] 171 (0,0))) (gG _ _ _ (Tg.out M (by simp)))) key Nv (fun p hp=>by unfold lJ at hp;obtain⟨q,hq,rfl⟩:=eY.1 hp;exact h3 q hq) w1.heap.size
 unfold ptr at Tu;have HZ:=ah N_;clear N_ Na;have HMV:=ah Zb;clear Zb;obtain⟨p1,p2,p3⟩:=Ix HB.out ⟨key,z,x0⟩ (va:=.pointer none) (vf:=.pointer none) (o:=o);have hsum:=Dc HB.out.sz HB.out.len;have NZ:0<=z/\z<=1073741824:=by rw[HZ.out];omega
 have hwr:IntKind.i64.wrap (dk ys+z)=dk ys+z:=by rw[b_];omega
 simp only at p1 p2 p3
 go_wp2;have HP:=ah (aB Tu hsum);clear Tu hsum;(first|go_region|skip)
 obtain⟨w3,QI⟩:=aH (((setBlock (w1.alloc (.cells #[.string key,.int .i64 z,.string x0.key,.int .i64 x0.st,.string x0.re,.int .i64 x0.mi,.slice x0.fA x0.fn x0.fc,.string x0.bo,.int .i64 x0.asked,.int .i64 x0.got,.slice x0.vA x0.vn x0.vc,.int .i64 x0.num,.pointer none,.pointer none] 171 (0,0))) M o).setCell ⟨bl,2,none⟩ (.int .i64 (dk ys+z))).drew);rw[QI];have S2:=F6 HB.out ⟨key,z,x0⟩ (dk ys+z) 1 rfl HMV.out QI.symm;clear QI HMV HP p1 p2 p3 hwr hz hzm c3 c1;obtain⟨q1,q2,q3,q4,q5⟩:=S2
 have Qw:gw r ys∈r::ys.map Prod.fst:=by
  rcases@fS ys r with hm|⟨_,hm⟩
  ·exact bJ _ hm
  ·rw[hm];exact fD
 obtain⟨e3,va3,vf3,r3⟩:=q4.at _ Qw;have c4:w3.cell? ⟨bl,4,none⟩=some (ptr r):=by simp[World.cell?,q1]
 have Ng:∀b∈bl::M::r::ys.map Prod.fst,b≠w1.heap.size:=λb hb=>Nat.ne_of_lt (Tg.out b hb)
 have k4:=vh bl r w1.heap.size (gw r ys) w3 c4 q4.1.cells.2.2.2.1 ⟨_,q3.cells.2.2.2.1⟩ ⟨_,q3.cells.2.2.2.2.1⟩ ⟨_,r3.cells.2.2.2.2.1⟩ (q3.cells.2.2.2.2.2.1 12) (q3.cells.2.2.2.2.2.1 13) (r3.cells.2.2.2.2.2.1 13) (q4.1.cells.2.2.2.2.2.1 12) (Ng bl (by simp)) (Ng r (by simp)) (Ng _ (bJ _ (bJ _ Qw)));have K4:=ah k4;have Q:=ah (aB q1 (aB q2 (aB q3 (aB q4 q5))));clear k4 c4 r3 q1 q2 q3 q4 q5 Ng Qw;go_wp2_with fail
 refine K4.out.mono ?_;rintro z2 w4 ⟨⟨v2,rfl⟩,k5,T_⟩;have hyl:ys.length<=xs.length:=h2.length_le;have fin:=E7 HB.out h3 Nv NZ (by omega) Q.out.1 Q.out.2.1 Q.out.2.2.1 Q.out.2.2.2.1 Q.out.2.2.2.2 k5 T_;clear T_ K4 Q;obtain⟨f1,f2⟩:=fin;have XE:=f1.low;have hyl2:((ys++[(w1.heap.size,(⟨key,z,x0⟩:cw))]).length:Int)<=4097:=by rw[bP,dM];omega
 have OD:=(((h2.map Prod.fst).cons_cons r).cons_cons M).cons_cons bl;have ht4:aL (bl::M::r::xs.map Prod.fst) w w4:=ht.trans f2 (λb hb=>Or.inl (OD.subset hb))
 have TT:∀b∈bl::M::r::(ys++[(w1.heap.size,(⟨key,z,x0⟩:cw))]).map Prod.fst,b∈bl::M::r::xs.map Prod.fst\/w.heap.size<=b:=λb hb=>by
  have e1:bl::M::r::(ys++[(w1.heap.size,(⟨key,z,x0⟩:cw))]).map Prod.fst=(bl::M::r::ys.map Prod.fst)++[w1.heap.size]:=by simp
  rw[e1]at hb;rcases eB.1 hb with h'|h'
  ·exact Or.inl (OD.subset h')
  ·rw[cA.1 h'];exact Or.inr ND
 have he:mY key (xs.map Prod.snd)++[⟨key,z,x0⟩]=(ys++[(w1.heap.size,(⟨key,z,x0⟩:cw))]).map Prod.snd:=by rw[<-h1];simp
 have hR:=HR.out;rw[<-HZ.out,he]at hR;clear HR;have hsz4:w.heap.size<=w4.heap.size:=ht4.2.2.2.1;generalize ys++[(w1.heap.size,(⟨key,z,x0⟩:cw))]=zs at*;have HR:=ah hR;clear hR he hyl HB K1 K2 h1 h2 h3 ht f2 Tg OD HZ NZ;have HL:=ah XE;have F1:=ah f1;have HT:=ah ht4;have HF:=ah TT;clear XE f1 ht4 TT;go_wp2_with fail
 go_loopw [8] (λg wr=>∃(ks:List ByteArray) (zz:List Lk),Hid (R=(ks++(uA n m (zz.map Prod.snd)).1,(uA n m (zz.map Prod.snd)).2))/\zz.Sublist zs/\Hid (eR wr bl r M n m zz)/\aQ w4.heap.size g (fu ks) wr/\Hid (aL (bl::M::r::zs.map Prod.fst) w4 wr)/\ks.length+zz.length<=4097) (λg _=>5000-tV g)
 case atStart=>exact⟨[],zs,am (by rw[HR.out];rfl),List.Sublist.refl _,F1,aQ.nil _ _,am (aL.refl _ _),by rw[ic];omega⟩
 case round=>
  obtain⟨ks,zz,ZS,RU,HZ,hO,NX,hlen⟩:=hrel;obtain⟨oa,oc,rfl⟩:=hO.shape;have c0:wr.cell? ⟨bl,0,none⟩=some (.int .i64 n):=by simp[World.cell?,HZ.out.blk]
  have c1:wr.cell? ⟨bl,1,none⟩=some (.int .i64 m):=by simp[World.cell?,HZ.out.blk]
  have c2:wr.cell? ⟨bl,2,none⟩=some (.int .i64 (dk zz)):=by simp[World.cell?,HZ.out.blk]
  have c3:wr.cell? ⟨bl,3,none⟩=some (.map (some M)):=by simp[World.cell?,HZ.out.blk]
  have hl:(Builtin.len_ #[172] 3 #[.map (some M)]).run Tryz.prog wr.drew=.ok (goInt (lJ zz).length) wr.drew:=LE Tryz.underlying172 (HZ.out.mp.of (w':=wr.drew) rfl) _;have e1:(lJ zz).length=zz.length:=by simp[lJ]
  rw[e1]at hl;clear e1;by_cases PN:n<(zz.length:Int)
  ·have t0:decide (n<(zz.length:Int))=true:=by simpa using PN
   have t2:decide ((zz.length:Int)>n)=true:=by simpa using PN
   go_wp2;go_region
   have Ng:zz≠[]:=by rintro rfl;simp at PN;omega
   rcases zz with _|⟨⟨l,e⟩,tt⟩
   ·exact absurd rfl Ng
   obtain⟨ek,es,ex⟩:=e;obtain⟨y,rfl⟩:∃y:List UInt8,ek=⟨y.toArray⟩:=⟨ek.data.toList,(ng ek).symm⟩
   have Qp:qx n m (((l,(⟨⟨y.toArray⟩,es,ex⟩:cw))::tt).map Prod.snd)=true:=by unfold qx;rw[<-mZ,eE];rw[t0];rfl
   have T6:R=((ks++[⟨y.toArray⟩])++(uA n m (tt.map Prod.snd)).1,(uA n m (tt.map Prod.snd)).2):=by rw[ZS.out,bw,uA];rw[bw]at Qp;rw[if_pos Qp];simp
   have HEV:=ah T6;have HD:Hid (eR wr.drew bl r M n m ((l,⟨⟨y.toArray⟩,es,ex⟩)::tt)):=am (HZ.out.of (λ_ _=>rfl));have Um:aQ w4.heap.size (.slice oa (fu ks).length oc) (fu ks) wr.drew:=hO.drew;have HT1:Hid (aL (bl::M::r::zs.map Prod.fst) w4 wr.drew):=am NX.out.drew;clear T6 Qp c0 c1 c2 c3 hl hO HZ NX ZS Ng;generalize wr.drew=wd at*;obtain⟨d1,d2⟩:=Bh HD.out;have d3:wd.cell? ⟨bl,4,none⟩=some (ptr r):=by simp[World.cell?,HD.out.blk]
   unfold ptr at d1 d3;simp only at d2
   have kd:=pS (p:=[]) (q:=tt) HD.out;simp only at kd
   have KD:=ah kd;clear kd;have PS:ks.length<=4097:=by omega
   have hkt:ks.length+(tt.length+1)<=4097:=hlen;clear hlen;go_wp2_with fail
   refine KD.out.mono ?_;rintro zx w5 ⟨rfl,Ns,ht5⟩;have Q9:=(((RU.map Prod.fst).cons_cons r).cons_cons M).cons_cons bl;have SC:=ht5.mono (fp':=bl::M::r::zs.map Prod.fst) (λb hb=>Or.inl (Q9.subset hb));have YZ:=HT1.out.trans SC (λb hb=>Or.inl hb);have Ud:=Um.touch SC (λb hb=>Or.inl (HL.out b hb));have Yz:w4.heap.size<=w5.heap.size:=YZ.2.2.2.1;have Zo:(fu ks).length<=1000000000:=by unfold fu;rw[eE];omega
   have Pi:=ah Ns;have HT6:=ah YZ;clear Ns YZ ht5 SC KD;go_wp2_with (at_builtin;refine gq w4.heap.size y Ud Yz Zo rfl _ _ rfl rfl rfl ?_)
   intro v' w6 hO6 NP Qj;obtain⟨oa6,oc6,rfl⟩:=hO6.shape;have Nd:fu (ks++[⟨y.toArray⟩])=fu ks++[y]:=by unfold fu;simp
   go_wp2;go_roundw
   case rel=>have hzt:tt.Sublist zs:=(List.sublist_cons_self _ _).trans RU;refine⟨ks++[⟨y.toArray⟩],tt,HEV,hzt,am (Pi.out.below NP (λb hb=>HL.out b (((((hzt.map Prod.fst).cons_cons r).cons_cons M).cons_cons bl).subset hb))),by rw[Nd];exact hO6,am (HT6.out.belowR NP),by rw[bP,dM];omega⟩
   case measure=>simp only[tV];unfold fu;rw[bP,eE,dM];omega
  ·have t2:decide ((zz.length:Int)>n)=false:=by simpa using PN
   by_cases hov2:m<dk zz
   ·have t0:decide (m<dk zz)=true:=by simpa using hov2
    have t3:decide (dk zz>m)=true:=by simpa using hov2
    go_wp2;go_region
    have Ng:zz≠[]:=by rintro rfl;simp[dk]at hov2;omega
    rcases zz with _|⟨⟨l,e⟩,tt⟩
    ·exact absurd rfl Ng
    obtain⟨ek,es,ex⟩:=e;obtain⟨y,rfl⟩:∃y:List UInt8,ek=⟨y.toArray⟩:=⟨ek.data.toList,(ng ek).symm⟩
    have Qp:qx n m (((l,(⟨⟨y.toArray⟩,es,ex⟩:cw))::tt).map Prod.snd)=true:=by unfold qx;rw[<-mZ,eE];rw[t0,Bool.or_true]
    have T6:R=((ks++[⟨y.toArray⟩])++(uA n m (tt.map Prod.snd)).1,(uA n m (tt.map Prod.snd)).2):=by rw[ZS.out,bw,uA];rw[bw]at Qp;rw[if_pos Qp];simp
    have HEV:=ah T6;have HD:Hid (eR wr.drew bl r M n m ((l,⟨⟨y.toArray⟩,es,ex⟩)::tt)):=am (HZ.out.of (λ_ _=>rfl));have Um:aQ w4.heap.size (.slice oa (fu ks).length oc) (fu ks) wr.drew:=hO.drew;have HT1:Hid (aL (bl::M::r::zs.map Prod.fst) w4 wr.drew):=am NX.out.drew;clear T6 Qp c0 c1 c2 c3 hl hO HZ NX ZS Ng;generalize wr.drew=wd at*;obtain⟨d1,d2⟩:=Bh HD.out;have d3:wd.cell? ⟨bl,4,none⟩=some (ptr r):=by simp[World.cell?,HD.out.blk]
    unfold ptr at d1 d3;simp only at d2
    have kd:=pS (p:=[]) (q:=tt) HD.out;simp only at kd
    have KD:=ah kd;clear kd;have PS:ks.length<=4097:=by omega
    have hkt:ks.length+(tt.length+1)<=4097:=hlen;clear hlen;go_wp2_with fail
    refine KD.out.mono ?_;rintro zx w5 ⟨rfl,Ns,ht5⟩;have Q9:=(((RU.map Prod.fst).cons_cons r).cons_cons M).cons_cons bl;have SC:=ht5.mono (fp':=bl::M::r::zs.map Prod.fst) (λb hb=>Or.inl (Q9.subset hb));have YZ:=HT1.out.trans SC (λb hb=>Or.inl hb);have Ud:=Um.touch SC (λb hb=>Or.inl (HL.out b hb));have Yz:w4.heap.size<=w5.heap.size:=YZ.2.2.2.1;have Zo:(fu ks).length<=1000000000:=by unfold fu;rw[eE];omega
    have Pi:=ah Ns;have HT6:=ah YZ;clear Ns YZ ht5 SC KD;go_wp2_with (at_builtin;refine gq w4.heap.size y Ud Yz Zo rfl _ _ rfl rfl rfl ?_)
    intro v' w6 hO6 NP Qj;obtain⟨oa6,oc6,rfl⟩:=hO6.shape;have Nd:fu (ks++[⟨y.toArray⟩])=fu ks++[y]:=by unfold fu;simp
    go_wp2;go_roundw
    case rel=>have hzt:tt.Sublist zs:=(List.sublist_cons_self _ _).trans RU;refine⟨ks++[⟨y.toArray⟩],tt,HEV,hzt,am (Pi.out.below NP (λb hb=>HL.out b (((((hzt.map Prod.fst).cons_cons r).cons_cons M).cons_cons bl).subset hb))),by rw[Nd];exact hO6,am (HT6.out.belowR NP),by rw[bP,dM];omega⟩
    case measure=>simp only[tV];unfold fu;rw[bP,eE,dM];omega
   ·have t3:decide (dk zz>m)=false:=by simpa using hov2
    go_wp2;go_region
    have Qp:qx n m (zz.map Prod.snd)=false:=by
     unfold qx;rw[<-mZ,eE];have z1:decide (n<(zz.length:Int))=false:=by simpa using PN
     have z2:decide (m<dk zz)=false:=by simpa using hov2
     rw[z1,z2];rfl
    have T6:uA n m (zz.map Prod.snd)=([],zz.map Prod.snd):=by
     cases zz with
     |nil=>rfl
     |cons p tt=>
      rw[bw,uA];rw[bw]at Qp;rw[Qp];rfl
    have hRe:R=(ks,zz.map Prod.snd):=by rw[ZS.out,T6,e9]
    have PS:(fu ks).length=ks.length:=by unfold fu;rw[eE]
    have HRE:=ah (aB hRe PS);clear hRe T6 Qp ZS HR PS;go_wp2;go_ret;rw[HRE.out.1];have Q9:=(((RU.map Prod.fst).cons_cons r).cons_cons M).cons_cons bl
    have Nz:aQ w4.heap.size (.slice oa ks.length oc) (fu ks) wr:=by have:=hO;rw[HRE.out.2]at this;exact this
    refine gZ.lift Ou.out ⟨oa,oc,zz,?_,rfl,HZ.out.of (λ_ _=>rfl),(Nz.base hsz4).drew,(λg hg hn=>?_),HT.out.trans NX.out.drew HF.out,λb hb=>HF.out b (Q9.subset hb)⟩
    ·rw[<-HRE.out.2];rfl
    ·have x1:=Nz.lt' g hg;have x2:=HL.out g (Q9.subset hn);omega
theorem He{w:World}{bl r M:Nat}{n m:Int}{xs:List Lk}(h:eR w bl r M n m xs)(hn:1<=n/\n<=4096)(hm:1<=m/\m<=1073741824)(QV:(xs.length:Int)<=n)(key:ByteArray)(Nv:key.size<=maxLen)(s:Int)(x0:Hv):Calls Tryz.prog 304 #[.pointer (some ⟨bl,0,none⟩),.string key,.int .i64 s,x0.val] w (gZ w bl r M n m (bl::M::r::xs.map Prod.fst) (iG n m key s x0 (xs.map Prod.snd)).1 (iG n m key s x0 (xs.map Prod.snd)).2):=by
 by_cases hs:m<s
 ·exact FW h key Nv s x0 hs
 ·exact BB h hn hm QV key Nv s x0 hs
theorem rU:(Tryz.prog.info? 171).map (·.size)=some (13+1):=by kernel_rfl
theorem Fl{w:World}{bl r M:Nat}{n m:Int}{xs:List Lk}(h:eR w bl r M n m xs):Calls Tryz.prog 184 #[.pointer (some ⟨bl,0,none⟩)] w (fi w (fu (mA xs))):=by
 have k1:=rF h;have K1:=ah k1;have NV:=ah h.low;have hx5:=h.len;have c4:w.cell? ⟨bl,4,none⟩=some (ptr r):=by simp[World.cell?,h.blk]
 have c5:w.cell? ⟨r,13,none⟩=some (ptr (hd xs r)):=h.ring.1.cells.2.2.2.2.1;unfold ptr at c4 c5;have HB:=ah h;clear h k1;go_enter Tryz.func184,Tryz.ntmps184
 go_wp2_with fail
 refine K1.out.mono ?_;rintro z w1 ⟨rfl,rfl⟩;go_wp2_with fail
 go_loopw [2,3] (λout l wr=>∃(p q:List Lk),Hid (xs=p++q)/\l=.pointer (some ⟨hd q r,0,none⟩)/\Hid (eR wr bl r M n m xs)/\aQ w.heap.size out (fu (mA p)) wr/\Below w.heap.size w wr) (λout _ _=>xs.length-tV out)
 case atStart=>exact⟨[],xs,am rfl,rfl,HB,aQ.nil _ _,aO _ _⟩
 case round=>
  obtain⟨p,q,PG,rfl,SF,hO,M_⟩:=hrel;obtain⟨oa,oc,rfl⟩:=hO.shape;have c6:wr.cell? ⟨bl,4,none⟩=some (ptr r):=by simp[World.cell?,SF.out.blk]
  unfold ptr at c6;have Oe:(fu (mA p)).length=p.length:=by unfold fu mA;rw[eE,eE]
  have WF:p.length+q.length=xs.length:=by rw[PG.out,bP]
  have Ui:=ah (aB Oe WF);clear Oe WF;rcases q with _|⟨⟨l,e⟩,qq⟩
  ·have e0:hd [] r=r:=rfl;rw[e0];have hxe:mA xs=mA p:=by rw[PG.out,e9]
   rw[hxe];have Up:=xE (w:=wr) Tryz.underlying169 rU r;go_wp2;go_ret;rw[hxe];exact⟨oa,oc,rfl,hO,M_⟩
  ·have e0:hd ((l,e)::qq) r=l:=rfl;rw[e0];have hs:=SF.out.ring.2;rw[PG.out,js]at hs;have hl:eX 171 wr l e (ptr (gw r p)) (ptr (hd qq r)):=hs.2.1
   have Xy:l≠r:=λx=>by have:=SF.out.nd;rw[dK,dK,dK]at this;refine this.2.2.1 ?_;rw[<-x,PG.out];simp
   obtain⟨ek,es,ex⟩:=e;obtain⟨y,rfl⟩:∃y:List UInt8,ek=⟨y.toArray⟩:=⟨ek.data.toList,(ng ek).symm⟩;have c0:wr.cell? ⟨l,0,none⟩=some (.string ⟨y.toArray⟩):=hl.cells.1;have c7:wr.cell? ⟨l,13,none⟩=some (.pointer (some ⟨hd qq r,0,none⟩)):=hl.cells.2.2.2.2.1;have Q5:l<w.heap.size:=NV.out l (by rw[PG.out];simp);have hn9:(fu (mA p)).length<=1000000000:=by rw[Ui.out.1];have:=Ui.out.2;omega
   obtain⟨er,var,vfr,hrr⟩:=SF.out.ring.at r fD;have Up:=ut Tryz.underlying169 rU Xy hl hrr;clear hs hl hrr;go_wp2_with (at_builtin;refine gq w.heap.size y hO M_.size hn9 rfl _ _ rfl rfl rfl ?_)
   intro v' w2 On M9 Qj;obtain⟨oa2,oc2,rfl⟩:=On.shape;have Nk:=ah (SF.out.below M9 NV.out);have c8:w2.cell? ⟨l,13,none⟩=some (.pointer (some ⟨hd qq r,0,none⟩)):=(World.cell?_of_block (a:=⟨l,13,none⟩) (M9.block l Q5)).trans c7;have Oq:Below w.heap.size w w2:=M_.trans (M9.mono (aw _));have Nd:fu (mA (p++[(l,(⟨⟨y.toArray⟩,es,ex⟩:cw))]))=fu (mA p)++[y]:=by unfold fu mA;simp
   have hpq2:xs=(p++[(l,(⟨⟨y.toArray⟩,es,ex⟩:cw))])++qq:=by rw[PG.out];simp
   have YL:=ah hpq2;clear hpq2 c7 Up SF M_;go_wp2;go_roundw
   case rel=>exact⟨_,qq,YL,rfl,Nk,by rw[Nd];exact On,Oq⟩
   case measure=>simp only[tV];have h1:=Ui.out.1;have h2:=Ui.out.2;rw[cg]at h2;rw[bP,dM];omega
theorem IG(n m:Int)(w:World)(hn:1<=n/\n<=4096)(hm:1<=m/\m<=1073741824):Calls Tryz.prog 45 #[.int .i64 n,.int .i64 m] w λx w'=>∃bl r M,x=.returned (.pointer (some ⟨bl,0,none⟩))/\eR w' bl r M n m []/\Below w.heap.size w w'/\∀b∈[bl,M,r],w.heap.size<=b:=by
 obtain⟨h1,h2⟩:=hn;obtain⟨h3,h4⟩:=hm;have t1:decide (n<1)=false:=by simpa using h1
 have t2:decide (n>4096)=false:=by simpa using h2
 have t3:decide (m<1)=false:=by simpa using h3
 have t4:decide (m>1073741824)=false:=by simpa using h4
 have hmk:∀w0:World,(Instr.makeMap 172 none).run Tryz.prog w0=.ok (.map (some w0.heap.size)) (w0.alloc (.map #[] 0)):=λ_=>rfl
 go_enter Tryz.func45,Tryz.ntmps45
 go_wp2;go_ret;refine⟨w.heap.size+2,w.heap.size,w.heap.size+1,rfl,?_,((aO _ w).alloc (aw _) _).alloc (by rw[lz];omega) _ |>.alloc (by rw[lz,lz];omega) _,by intro b hb;simp at hb;omega⟩;generalize Nr:Obj.cells #[Value.string ⟨#[]⟩,.int .i64 0,.string ⟨#[]⟩,.int .i64 0,.string ⟨#[]⟩,.int .i64 0,.slice none 0 0,.string ⟨#[]⟩,.int .i64 0,.int .i64 0,.slice none 0 0,.int .i64 0,.pointer (some ⟨w.heap.size,0,none⟩),.pointer (some ⟨w.heap.size,0,none⟩)] 171 (0,0)=o1;generalize NN:Obj.cells #[Value.int .i64 n,.int .i64 m,.int .i64 0,.map (some (w.heap.size+1)),.pointer (some ⟨w.heap.size,0,none⟩)] 174 (0,0)=o3;have s1:(w.alloc o1).heap.size=w.heap.size+1:=lz _ _;have s2:((w.alloc o1).alloc (.map #[] 0)).heap.size=w.heap.size+2:=by rw[lz,lz]
 have p1:(((w.alloc o1).alloc (.map #[] 0)).alloc o3).heap[w.heap.size]?=some o1:=(gG _ _ _ (by omega)).trans ((gG _ _ _ (by omega)).trans (heap_alloc_last w o1));have p2:(((w.alloc o1).alloc (.map #[] 0)).alloc o3).heap[w.heap.size+1]?=some (.map #[] 0):=(gG _ _ _ (by omega)).trans (by rw[<-s1];exact heap_alloc_last _ _);have p3:(((w.alloc o1).alloc (.map #[] 0)).alloc o3).heap[w.heap.size+2]?=some o3:=by rw[<-s2];exact heap_alloc_last _ _
 refine⟨by rw[p3,<-NN];rfl,⟨by unfold eX;rw[p1,<-Nr];rfl,trivial⟩,⟨#[],0,p2,by simp[FM,lJ],by simp[lJ]⟩,by simp,by simp[lJ],by simp,by simp,by simp⟩
def qP(w:World)(fp:List Nat)(bl:Nat)(n m:Int)(es:List cw):Prop:=∃r M xs,fp=bl::M::r::xs.map Prod.fst/\es=xs.map Prod.snd/\eR w bl r M n m xs/\(1<=n/\n<=4096)/\(1<=m/\m<=1073741824)/\(es.length:Int)<=n/\jS es<=m
def MK(w w':World)(fp:List Nat)(bl:Nat)(n m:Int)(es:List cw):Prop:=∃fp',qP w' fp' bl n m es/\aL fp w w'/\∀b∈fp',b∈fp\/w.heap.size<=b
theorem qP.low{w:World}{fp:List Nat}{bl:Nat}{n m:Int}{es:List cw}(h:qP w fp bl n m es):∀b∈fp,b<w.heap.size:=by obtain⟨r,M,xs,rfl,rfl,h,_⟩:=h;exact h.low
theorem qP.keep{w w':World}{fp Uw:List Nat}{bl:Nat}{n m:Int}{es:List cw}(h:qP w fp bl n m es)(ht:aL Uw w w')(hs:∀b∈fp,b ∉ Uw):qP w' fp bl n m es:=by have hl:=h.low;obtain⟨r,M,xs,rfl,rfl,h,r⟩:=h;exact⟨_,M,xs,rfl,rfl,h.of (λb hb=>ht.2.2.2.2 b (hl b hb) (hs b hb)),r⟩
theorem qP.below{w w':World}{fp:List Nat}{bl:Nat}{n m:Int}{es:List cw}(h:qP w fp bl n m es)(hb:Below w.heap.size w w'):qP w' fp bl n m es:=by have hl:=h.low;obtain⟨r,M,xs,rfl,rfl,h,r⟩:=h;exact⟨_,M,xs,rfl,rfl,h.below hb hl,r⟩
theorem qP.nd{w:World}{fp:List Nat}{bl:Nat}{n m:Int}{es:List cw}(h:qP w fp bl n m es):(es.map (·.key)).Nodup:=by
 obtain⟨r,M,xs,rfl,rfl,h,_⟩:=h;have:=h.kn;have e:(lJ xs).map Prod.fst=(xs.map Prod.snd).map (·.key):=by simp[lJ]
 rw[<-e];exact this
theorem qP.sz{w:World}{fp:List Nat}{bl:Nat}{n m:Int}{es:List cw}(h:qP w fp bl n m es):∀e∈es,(0<=e.size/\e.size<=1073741824)/\e.key.size<=maxLen:=by obtain⟨r,M,xs,rfl,rfl,h,_⟩:=h;intro e he;obtain⟨p,hp,rfl⟩:=eY.1 he;exact⟨h.sz p hp,h.ks p hp⟩
theorem qP.ends{w:World}{fp:List Nat}{bl:Nat}{n m:Int}{es:List cw}(h:qP w fp bl n m es):(es.length:Int)<=n/\0<=jS es/\jS es<=m/\n<=4096/\m<=1073741824/\1<=n/\1<=m:=by obtain⟨r,M,xs,rfl,rfl,h,hn,hm,h1,h2⟩:=h;have:=Dc h.sz h.len;rw[mZ]at this;exact⟨h1,this.1,h2,hn.2,hm.2,hn.1,hm.1⟩
theorem DD{w:World}{fp:List Nat}{bl:Nat}{n m:Int}{es:List cw}(h:qP w fp bl n m es)(key:ByteArray)(Nv:key.size<=maxLen):Calls Tryz.prog 185 #[.pointer (some ⟨bl,0,none⟩),.string key] w λx w'=>x=.returned (.tuple #[(Iu uw.x key es).val,.bool (py key es)])/\Below w.heap.size w w':=by
 obtain⟨r,M,xs,rfl,rfl,h,hn,hm,h1,h2⟩:=h;unfold Iu py;rcases oC key xs h.kn with⟨h1,h2,h3,h4⟩|⟨p,l,e,q,rfl,rfl,h3,h4,h5⟩
 ·rw[h1];exact CY h key Nv h3
 ·rw[h3];exact FE h (l:=l) (e:=e) (by simp)
theorem LG{w:World}{fp:List Nat}{bl:Nat}{n m:Int}{es:List cw}(h:qP w fp bl n m es)(key:ByteArray)(Nv:key.size<=maxLen):Calls Tryz.prog 283 #[.pointer (some ⟨bl,0,none⟩),.string key] w λx w'=>x=.returned (.tuple #[(Iu uw.x key es).val,.bool (py key es)])/\MK w w' fp bl n m (zt key es):=by
 have h0:=h;obtain⟨r,M,xs,rfl,rfl,h,hn,hm,h1,h2⟩:=h;unfold Iu py zt;rcases oC key xs h.kn with⟨e1,e2,e3,e4⟩|⟨p,l,e,q,rfl,rfl,e3,e4,e5⟩
 ·rw[e1];refine(Fv h key Nv e3).mono ?_;rintro x w' ⟨rfl,hb⟩;exact⟨rfl,_,h0.below hb,aL.of_below hb (aL.refl _ _),λ_ hb=>Or.inl hb⟩
 ·rw[e3];refine(FO h).mono ?_;rintro x w' ⟨rfl,hb,ht⟩;refine⟨rfl,_,⟨r,M,p++q++[(l,e)],rfl,by show mY e.key ((p++(l,e)::q).map Prod.snd)++[e]=_;rw[e4];simp only[cO,bw,List.map_nil],hb,hn,hm,?_,?_⟩,ht,λb N4=>Or.inl ?_⟩
  ·simp only[e4];simp only[bP,eE,cg,ic]at h1 ⊢;omega
  ·simp only[e4];simp only[cO,bw,zl,jS]at h2 ⊢;omega
  ·simp only[cO,bw,List.map_nil,cZ,eB,List.not_mem_nil,or_false]at N4 ⊢;rcases N4 with h|h|h|(h|h)|h<;>simp[h]
theorem Dh{w:World}{fp:List Nat}{bl:Nat}{n m:Int}{es:List cw}(h:qP w fp bl n m es):Calls Tryz.prog 184 #[.pointer (some ⟨bl,0,none⟩)] w (fi w (fu (es.map (·.key)))):=by
 obtain⟨r,M,xs,rfl,rfl,h,hn,hm,h1,h2⟩:=h;have e:(xs.map Prod.snd).map (·.key)=mA xs:=by simp[mA]
 rw[e];exact Fl h
theorem L8{w:World}{fp:List Nat}{bl:Nat}{n m:Int}{es:List cw}(h:qP w fp bl n m es)(key:ByteArray)(Nv:key.size<=maxLen)(s:Int)(x0:Hv):Calls Tryz.prog 304 #[.pointer (some ⟨bl,0,none⟩),.string key,.int .i64 s,x0.val] w λx w'=>∃a cap fp',x=.returned (.slice a (iG n m key s x0 es).1.length cap)/\aQ w.heap.size (.slice a (iG n m key s x0 es).1.length cap) (fu (iG n m key s x0 es).1) w' ∧ qP w' fp' bl n m (iG n m key s x0 es).2/\aL fp w w'/\(∀b∈fp',b∈fp\/w.heap.size<=b)/\∀g,(Value.slice a (iG n m key s x0 es).1.length cap).ownBlock=some g->g ∉ fp':=by
 have WN:((iG n m key s x0 es).2.length:Int)<=n/\jS (iG n m key s x0 es).2<=m:=by
  have he:=h.ends;unfold iG;split
  ·have hs:(mY key es).Sublist es:=List.filter_sublist;have h1:=hs.length_le;have h2:=Id hs (λe he=>(h.sz e he).1.1);exact⟨by simp only;omega,by simp only;omega⟩
  ·exact DO he.2.2.2.2.2.1 he.2.2.2.2.2.2 _
 obtain⟨r,M,xs,rfl,rfl,h,hn,hm,h1,h2⟩:=h;refine(He h hn hm (by rw[eE]at h1;exact h1) key Nv s x0).mono ?_;rintro x w' ⟨a,cap,ys,rfl,e1,hb,hO,hg,ht,hf⟩;exact⟨a,cap,_,rfl,hO,⟨r,M,ys,rfl,e1.symm,hb,hn,hm,WN.1,WN.2⟩,ht,hf,hg⟩
theorem LP(n m:Int)(w:World)(hn:1<=n/\n<=4096)(hm:1<=m/\m<=1073741824):Calls Tryz.prog 45 #[.int .i64 n,.int .i64 m] w λx w'=>∃bl fp,x=.returned (.pointer (some ⟨bl,0,none⟩))/\qP w' fp bl n m []/\Below w.heap.size w w'/\∀b∈fp,w.heap.size<=b:=by refine(IG n m w hn hm).mono ?_;rintro x w' ⟨bl,r,M,rfl,hb,M_,hf⟩;exact⟨bl,_,rfl,⟨r,M,[],rfl,rfl,hb,hn,hm,by simp;omega,by simp[jS];omega⟩,M_,hf⟩
theorem qP.kind{w:World}{fp:List Nat}{bl:Nat}{n m:Int}{es:List cw}(h:qP w fp bl n m es):∀b∈fp,∀cs T z,w.heap[b]?=some (.cells cs T z)->T=171\/T=174:=by
 obtain⟨r,M,xs,rfl,rfl,h,hn,hm,h1,h2⟩:=h;intro b hb cs T z hc;rcases cZ.1 hb with rfl|hb
 ·rw[h.blk]at hc;injection hc with hc
  injection hc with _ hc _
  exact Or.inr hc.symm
 rcases cZ.1 hb with rfl|hb
 ·obtain⟨es,cl,h3,_⟩:=h.mp;rw[h3]at hc
  cases hc
 ·obtain⟨e,va,vf,h3⟩:=h.ring.at b hb;unfold eX at h3;rw[h3]at hc;injection hc with hc
  injection hc with _ hc _
  exact Or.inl hc.symm
def fN(v:List UInt8):List (List UInt8):=bif(ax 44 v).2==0 then(ax 44 v).1 else [bT v]
def i8(ps:List (List UInt8)):List (List UInt8):=ps.filter λp=>!p.isEmpty
def k_(vs:List (List UInt8)):List (List UInt8):=vs.flatMap λv=>i8 (fN v)
def cs:List UInt8:=[44,32]
def eq(xs:List aU)(name:List UInt8):List UInt8:=Lib.join (k_ (af xs name)) cs
theorem oD(sep:UInt8)(l:List UInt8):(ax sep l).1.length<=64:=by
 unfold ax
 cases(sep.toNat==34||sep.toNat==92)
 ·cases ea sep false false [] [] l with
  |none=>simp[fG]
  |some ls=>
   simp only[fG,cond_false]
   cases h:decide (64<ls.length)
   ·simp at h ⊢;exact h
   ·simp
 ·simp
theorem qL(v:List UInt8):(fN v).length<=64:=by
 unfold fN
 cases((ax 44 v).2==0)
 ·simp
 ·exact oD 44 v
theorem At(ps:List (List UInt8)):(i8 ps).length<=ps.length:=List.length_filter_le _ _
theorem BJ(ps:List (List UInt8))(p:List UInt8):i8 (ps++[p])=if p.isEmpty then i8 ps else i8 ps++[p]:=by
 unfold i8;rw[List.filter_append]
 cases h:p.isEmpty<;>simp[h]
theorem EF(vs:List (List UInt8))(v:List UInt8):k_ (vs++[v])=k_ vs++i8 (fN v):=by unfold k_;simp[List.flatMap_append]
theorem Df(vs:List (List UInt8)):(k_ vs).length<=64*vs.length:=by
 unfold k_
 induction vs with
 |nil=>simp
 |cons v r ih=>
  have h1:=At (fN v);have h2:=qL v;rw[jk,bP,cg];omega
theorem Bj(ps:List (List UInt8)):aT (i8 ps)<=aT ps:=by
 unfold i8 aT
 induction ps with
 |nil=>simp
 |cons p r ih=>
  rw[o8]
  cases h:p.isEmpty
  ·simp at ih ⊢;exact ih
  ·simp at ih ⊢;omega
theorem vw(a b:List (List UInt8)):aT (a++b)=aT a+aT b:=by unfold aT;simp
theorem wY(v:List UInt8):aT (fN v)<=v.length:=by
 unfold fN
 cases((ax 44 v).2==0)
 ·have:=lr v;unfold aT;simpa using this
 ·exact ci 44 v
theorem s_(vs:List (List UInt8)):aT (k_ vs)<=aT vs:=by
 induction vs with
 |nil=>simp[k_,aT]
 |cons v r ih=>
  have h1:=Bj (fN v);have h2:=wY v;have e1:k_ (v::r)=i8 (fN v)++k_ r:=rfl;have e2:aT (v::r)=v.length+aT r:=by unfold aT;simp
  rw[e1,e2,vw];omega
theorem qU(M:Nat):∀ls:List (List UInt8),(∀x∈ls,x.length<=M)->aT ls<=ls.length*M
 | [],_=>by simp[aT]
 |x::r,h=>by
  have ih:=qU M r (λy hy=>h y (by simp[hy]));have h1:=h x (by simp);have e2:aT (x::r)=x.length+aT r:=by unfold aT;simp
  rw[e2,cg,Nat.add_mul];omega
theorem i_{xs:List aU}{name v:List UInt8}(h:v∈af xs name):∃f∈xs,f.2=v:=by unfold af at h;obtain⟨f,hf,e⟩:=eY.1 h;exact⟨f,(lD.1 hf).1,e⟩
theorem H7(ps:List (List UInt8)):∀p∈i8 ps,p≠[]:=by intro p hp;have:=(lD.1 hp).2;simpa using this
theorem JA(vs:List (List UInt8)):∀p∈k_ vs,p≠[]:=by intro p hp;obtain⟨v,_,h⟩:=List.mem_flatMap.1 hp;exact H7 _ p h
end Go.Proofs.YtdbjnlkbhhebbaaGreatDoor
