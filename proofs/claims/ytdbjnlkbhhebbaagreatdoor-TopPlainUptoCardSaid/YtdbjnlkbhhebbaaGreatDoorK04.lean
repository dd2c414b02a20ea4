/- Line7, Frm3, Msg1, Msg2, Msg3, Msg4, Msg5, Msg6. -/
import Derived.Test.YtdbjnlkbhhebbaaGreatDoorK01
import Derived.Test.YtdbjnlkbhhebbaaGreatDoorK02
import Derived.Test.YtdbjnlkbhhebbaaGreatDoorK03
import Derived.Lib.AtoiTie
import Derived.Laws.ResultCell
set_option maxRecDepth 100000
set_option maxHeartbeats 16000000
set_option linter.all false
namespace Go.Proofs.YtdbjnlkbhhebbaaGreatDoor
open Go.RowKit
theorem CO(b0 b1 b2 b3:Nat)(u:FrameMode)(w:World)(h:w.cell? ⟨b0,0,none⟩=some (.int .i64 0)):CallsD Tryz.prog 101 #[.pointer (some ⟨b0,0,none⟩),.pointer (some ⟨b1,0,none⟩),.pointer (some ⟨b2,0,none⟩),.pointer (some ⟨b3,0,none⟩)] u w λe u' w'=>u'=u/\(e=.returned (.tuple #[])/\w'=w):=by
 go_enter_d Tryz.func101,Tryz.ntmps101
 go_wp2;go_end0
 exact⟨rfl,rfl⟩
theorem CK(b0 b1 b2 b3:Nat)(er:Int)(v1 v2 v3:Value)(T1 T2 T3:TypeId)(u:FrameMode)(w:World)(h:w.cell? ⟨b0,0,none⟩=some (.int .i64 er))(he:(er !=0)=true)(h1:aq b1 v1 T1 w)(h2:aq b2 v2 T2 w)(h3:aq b3 v3 T3 w)(n12:b2≠b1)(n13:b3≠b1)(n23:b3≠b2):CallsD Tryz.prog 101 #[.pointer (some ⟨b0,0,none⟩),.pointer (some ⟨b1,0,none⟩),.pointer (some ⟨b2,0,none⟩),.pointer (some ⟨b3,0,none⟩)] u w λe u' w'=>u'=u/\(e=.returned (.tuple #[])/\w'=((w.setCell ⟨b1,0,none⟩ (.int .i64 0)).setCell ⟨b2,0,none⟩ (.string ⟨#[]⟩)).setCell ⟨b3,0,none⟩ (.int .i64 0)):=by
 obtain⟨a1,f1⟩:=h1.cell;obtain⟨a2,f2⟩:=(h2.other (j:=0) (u:=.int .i64 0) n12).cell;obtain⟨a3,f3⟩:=((h3.other (j:=0) (u:=.int .i64 0) n13).other (j:=0) (u:=.string ⟨#[]⟩) n23).cell;clear h1 h2 h3;go_enter_d Tryz.func101,Tryz.ntmps101
 go_wp2;go_end0
 exact⟨rfl,rfl⟩
theorem Ms:∀x y z:Fin 10,Lib.atoi [UInt8.ofNat (48+x.val),UInt8.ofNat (48+y.val),UInt8.ofNat (48+z.val)]=some ((cx [UInt8.ofNat (48+x.val),UInt8.ofNat (48+y.val),UInt8.ofNat (48+z.val)]:Nat):Int):=by decide +kernel
theorem wT{c:UInt8}(h:f_ c=true):∃x:Fin 10,c=UInt8.ofNat (48+x.val):=by
 unfold f_ at h;simp at h
 refine⟨⟨c.toNat-48,by omega⟩,?_⟩;apply UInt8.toNat_inj.1
 simp;omega
theorem oF{c:UInt8}{l:List UInt8}(h:aZ nJ l=true)(hc:c∈l):f_ c=true:=by have:=dH.1 h c hc;unfold fq nJ fq at this;unfold f_;simpa using this
theorem Fj{l:List UInt8}(h3:l.length=3)(h:aZ nJ l=true):mB l=(cx l:Int):=by
 match l,h3 with
 | [a,b,c],_=>
  obtain⟨x,rfl⟩:=wT (oF h (c:=a) (by simp));obtain⟨y,rfl⟩:=wT (oF h (c:=b) (by simp));obtain⟨z,rfl⟩:=wT (oF h (c:=c) (by simp));unfold mB;rw[Lib.atoiAll_short _ (by simp),Ms x y z];rfl
def oH(b4:Bool)(code:List UInt8):Bool:=b4||(code.length !=3)||decide ((code.getD 0 0).toNat<49)||decide (53<(code.getD 0 0).toNat)
theorem Gx(s:List UInt8)(h:s.length<=2048):ce s =
  let c1:=Lib.cut s [32]
  let c2:=Lib.cut c1.2.1 [32]
  let v:=jt (oH (!c1.2.2||!c2.2.2||!aZ iO c2.2.1||!aZ nJ c2.1) c2.1) c1.1
  bif v.2==0 then⟨cx c2.1,c2.2.1,v.1,0⟩else⟨0,[],0,v.2⟩:=by
 unfold ce;rw[show decide (2048<s.length)=false from by simp;omega];rfl
theorem DY(s:ByteArray)(w:World)(hM:cq w)(hE:gD w)(hs:s.size<=1000000):Calls Tryz.prog 52 #[.string s] w λe w'=>e=.returned (.tuple #[.int .i64 (ce s.data.toList).status,.string ⟨(ce s.data.toList).words.toArray⟩,.int .i64 (ce s.data.toList).minor,.int .i64 (ce s.data.toList).err])/\Below w.heap.size w w':=by
 have VT:=wG;by_cases h2048:s.size<=2048
 ·have t0:decide ((s.size:Int)>2048)=false:=by simp;omega
  rw[Gx _ (by rw[<-aY];exact h2048)];have Qm:=h_ s.data.toList [32];have Vh:=h_ (Lib.cut s.data.toList [32]).2.1 [32];rw[<-aY]at Qm;obtain⟨W0,Nb,Nm,hz,q0,q1,q2,q3,q4⟩:=yN w Ag BF Ag (.cells #[.int .i64 0] 27) (.cells #[.string s,.bool false] 184);have k1:=nB _ s false W0 q4 (hM.below Nm) (by omega);generalize Lib.cut s.data.toList [32]=c1 at*;obtain⟨v1,r1,ZE⟩:=c1;simp only at Qm Vh k1 ⊢
  obtain⟨K1,Q0,Q1,Q2,Q3,Nl⟩:=eN k1 q0 q1 q2 q3 Nb;clear k1 q0 q1 q2 q3 q4 Nb;have SB:∀c,Lib.cut r1 [32]=c->c.1.length<=r1.length/\c.2.1.length<=r1.length:=λc h=>h ▸ Vh
  obtain⟨c2,PF⟩:=aH (Lib.cut r1 [32]);rw[PF]at Vh ⊢;obtain⟨code,words,ZV⟩:=c2;simp only at Vh ⊢
  obtain⟨S,hS⟩:=aH (bif(jt (oH (!ZE||!ZV||!aZ iO words||!aZ nJ code) code) v1).2==0 then(⟨(cx code:Int),words,(jt (oH (!ZE||!ZV||!aZ iO words||!aZ nJ code) code) v1).1,0⟩:FP)else⟨0,[],0,(jt (oH (!ZE||!ZV||!aZ iO words||!aZ nJ code) code) v1).2⟩);rw[hS];have HS:=ah hS;clear hS SB;go_enter_defers Tryz.func52,Tryz.ntmps52
  go_wp2_with fail
  rw[Nl.out];refine K1.out.mono ?_;rintro e w1 ⟨rfl,O0,OO⟩;have Ni:Below w.heap.size w w1:=Nm.trans (fj OO (by omega) (by omega));have q0:aq w.heap.size (.int .i64 0) 3 w1:=aq.grown Q0.out OO (by omega);have q1:aq (w.heap.size+1) (.string ⟨#[]⟩) 9 w1:=aq.grown Q1.out OO (by omega);have q2:aq (w.heap.size+1+1) (.int .i64 0) 3 w1:=aq.grown Q2.out OO (by omega);have q3:aq (w.heap.size+1+1+1) (.int .i64 0) 27 w1:=aq.grown Q3.out OO (by omega);have k2:=nB _ ⟨r1.toArray⟩ _ w1 O0 (hM.below Ni) (by rw[aR];omega);rw[bq,PF]at k2;simp only[ig]at k2;have K2:=ah k2;clear k2 O0 K1 Nl;obtain⟨P0,P1,P2,P3⟩:=bK q0 q1 q2 q3;clear q0 q1 q2 q3 Q0 Q1 Q2 Q3;go_wp2_with fail
  refine K2.out.mono ?_;rintro e w2 ⟨rfl,Om,N8⟩;have N6:w.heap.size+5<=w2.heap.size:=by have:=OO.size;have:=N8.size;omega
  have Nk:Below w.heap.size w w2:=Ni.trans (fj N8 (by omega) (by have:=OO.size;omega));have q0:aq w.heap.size (.int .i64 0) 3 w2:=aq.grown P0.out N8 (by omega);have q1:aq (w.heap.size+1) (.string ⟨#[]⟩) 9 w2:=aq.grown P1.out N8 (by omega);have q2:aq (w.heap.size+1+1) (.int .i64 0) 3 w2:=aq.grown P2.out N8 (by omega);have q3:aq (w.heap.size+1+1+1) (.int .i64 0) 27 w2:=aq.grown P3.out N8 (by omega);clear OO N8 P0 P1 P2 P3 K2 Ni Nm hz;have d0:=(ab Om 0).1;simp only[cT,cS]at d0;obtain⟨W3,NW⟩:=aH (w2.setCell ⟨w.heap.size+1,0,none⟩ (.string ⟨words.toArray⟩));have p0:aq w.heap.size (.int .i64 0) 3 W3:=by rw[<-NW];exact q0.other (by omega)
  have p1:aq (w.heap.size+1) (.string ⟨words.toArray⟩) 9 W3:=by rw[<-NW];exact q1.set
  have p2:aq (w.heap.size+1+1) (.int .i64 0) 3 W3:=by rw[<-NW];exact q2.other (by omega)
  have p3:aq (w.heap.size+1+1+1) (.int .i64 0) 27 W3:=by rw[<-NW];exact q3.other (by omega)
  have p4:gT (w.heap.size+1+1+1+1) ⟨words.toArray⟩ (!ZE||!ZV) W3:=by rw[<-NW];exact(aG _ _ _ _ _ (by omega)).trans Om
  have Nu:Below w.heap.size w W3:=by rw[<-NW];exact Nk.setCell (by show w.heap.size<=w.heap.size+1;omega) _
  have VF:w.heap.size+5<=W3.heap.size:=by rw[<-NW];simpa using N6
  obtain⟨c1a,c1b⟩:=q1.cell;have e1:(w2.setCell ⟨w.heap.size+1,0,none⟩ (.string ⟨words.toArray⟩)).cell? ⟨w.heap.size+1,0,none⟩=some (.string ⟨words.toArray⟩):=by rw[NW];exact p1.cell.1
  have k3:=tB _ ⟨words.toArray⟩ _ C_ ⟨words.toArray⟩ 3 W3 p4 rfl (by omega) (by rw[aR];omega);rw[show(C_:ByteArray).data.toList=iO from rfl,bq]at k3;obtain⟨K3,Qk⟩:=az k3 NW;obtain⟨P0,P1,P2,P3⟩:=bK p0 p1 p2 p3;clear k3 NW p0 p1 p2 p3 p4 q0 q1 q2 q3 Om Nk;go_wp2_with fail
  rw[Qk.out];refine K3.out.mono ?_;rintro e w4 ⟨rfl,UQ,Sy⟩;have Ny:Below w.heap.size w w4:=Nu.trans (fj Sy (by omega) (by omega));have hz4:w.heap.size+5<=w4.heap.size:=by have:=Sy.size;omega
  have q0:aq w.heap.size (.int .i64 0) 3 w4:=aq.grown P0.out Sy (by omega);have q1:aq (w.heap.size+1) (.string ⟨words.toArray⟩) 9 w4:=aq.grown P1.out Sy (by omega);have q2:aq (w.heap.size+1+1) (.int .i64 0) 3 w4:=aq.grown P2.out Sy (by omega);have q3:aq (w.heap.size+1+1+1) (.int .i64 0) 27 w4:=aq.grown P3.out Sy (by omega);clear Qk K3 P0 P1 P2 P3 Sy e1 c1a c1b d0 Nu N6 VF;have k4:=tB _ ⟨words.toArray⟩ _ ⟨#[48,57]⟩ ⟨code.toArray⟩ 1 w4 UQ rfl (by omega) (by rw[aR];omega);rw[show(⟨#[48,57]⟩:ByteArray).data.toList=nJ from rfl,bq]at k4;have K4:=ah k4;obtain⟨P0,P1,P2,P3⟩:=bK q0 q1 q2 q3;clear k4 q0 q1 q2 q3 UQ;go_wp2_with fail
  refine K4.out.mono ?_;rintro e w5 ⟨rfl,hr5,Ya⟩;have Oh:Below w.heap.size w w5:=Ny.trans (fj Ya (by omega) (by omega));have Zf:w.heap.size+5<=w5.heap.size:=by have:=Ya.size;omega
  have q0:aq w.heap.size (.int .i64 0) 3 w5:=aq.grown P0.out Ya (by omega);have q1:aq (w.heap.size+1) (.string ⟨words.toArray⟩) 9 w5:=aq.grown P1.out Ya (by omega);have q2:aq (w.heap.size+1+1) (.int .i64 0) 3 w5:=aq.grown P2.out Ya (by omega);have q3:aq (w.heap.size+1+1+1) (.int .i64 0) 27 w5:=aq.grown P3.out Ya (by omega);clear K4 P0 P1 P2 P3 Ya hz4 Ny;obtain⟨P0,P1,P2,P3,R5⟩:=gB q0 q1 q2 q3 hr5;clear q0 q1 q2 q3 hr5;generalize Nf:((!ZE||!ZV)||!aZ iO words||!aZ nJ code)=b4 at*;go_upto_region 9 with(fail)
  go_cut []from 9 to 66 (λwx=>wx=w5.setCell ⟨w.heap.size+1+1+1+1,1,none⟩ (.bool (oH b4 code)))
  case first=>
   have d1:=(ab R5.out 1).1;have d1f:=(ab R5.out 1).2.1;simp only[cT,cv,cS]at d1;clear HS P0 P1 P2 P3 R5 hM hE
   cases b4
   ·by_cases h3:code.length=3
    ·match code,h3 with
     | [x,y,z],_=>
      have g:∀T:ByteArray,(⟨[x,y,z].toArray⟩:ByteArray)=T->∃hz:T.size=3,T[0]=x:=λT h=>by subst h;exact⟨rfl,rfl⟩
      generalize hT:(⟨[x,y,z].toArray⟩:ByteArray)=T at*;obtain⟨RU,g0⟩:=g T rfl;clear hT PF g
      cases PQ:decide ((x.toNat:Int)<49)
      ·cases RP:decide ((x.toNat:Int)>53)
       ·have hq:oH false [x,y,z]=false:=by
         simp at PQ RP
         unfold oH;simp;omega
        have HQ:=ah hq;clear hq;go_wp2_with fail
        go_meet;rw[HQ.out]
       ·have hq:oH false [x,y,z]=true:=by
         simp at RP
         unfold oH;simp;omega
        have HQ:=ah hq;clear hq;go_wp2_with fail
        go_meet;rw[HQ.out]
      ·have hq:oH false [x,y,z]=true:=by
        simp at PQ
        unfold oH;simp;omega
       have HQ:=ah hq;clear hq;go_wp2_with fail
       go_meet;rw[HQ.out]
    ·have hq:oH false code=true:=by
      unfold oH;rw[show(code.length !=3)=true from by simp[h3]];rfl
     have hz:(⟨code.toArray⟩:ByteArray).size≠3:=by rw[aR];exact h3
     have t1:(((⟨code.toArray⟩:ByteArray).size:Int)!=3)=true:=by simp;omega
     have HQ:=ah hq;clear hq hz h3 Vh PF;generalize hT:(⟨code.toArray⟩:ByteArray)=T at*;clear hT;go_wp2_with fail
     go_meet;rw[HQ.out]
   ·go_wp2_with fail
    go_meet;rfl
  case rest=>
   generalize Ns:oH b4 code=b5 at*;have r6:gT (w.heap.size+1+1+1+1) ⟨words.toArray⟩ b5 wc:=by rw[hcut];exact R5.out.bad
   have q0:aq w.heap.size (.int .i64 0) 3 wc:=by rw[hcut];exact P0.out.other (by omega)
   have q1:aq (w.heap.size+1) (.string ⟨words.toArray⟩) 9 wc:=by rw[hcut];exact P1.out.other (by omega)
   have q2:aq (w.heap.size+1+1) (.int .i64 0) 3 wc:=by rw[hcut];exact P2.out.other (by omega)
   have q3:aq (w.heap.size+1+1+1) (.int .i64 0) 27 wc:=by rw[hcut];exact P3.out.other (by omega)
   have Yj:Below w.heap.size w wc:=by rw[hcut];exact Oh.setCell (by show w.heap.size<=w.heap.size+1+1+1+1;omega) _
   have hzc:w.heap.size+5<=wc.heap.size:=by rw[hcut];simpa using Zf
   have k6:=qC _ ⟨words.toArray⟩ b5 ⟨v1.toArray⟩ wc r6;rw[bq]at k6;have k7:=λw h=>sG ⟨code.toArray⟩ w h (by rw[aR];omega)
   rw[bq]at k7;obtain⟨K6,K7⟩:=az k6 k7;obtain⟨Q0,Q1,Q2,Q3⟩:=bK q0 q1 q2 q3;clear k6 k7 q0 q1 q2 q3 r6 hcut P0 P1 P2 P3 R5 Oh Zf;generalize hvv:jt b5 v1=vv at*;obtain⟨mi,er⟩:=vv;simp only at K6 HS
   go_wp2_with fail
   refine K6.out.mono ?_;rintro e w6 ⟨rfl,⟨bx,hr6⟩,Tw⟩;have Ow:Below w.heap.size w w6:=Yj.trans (fj Tw (by omega) (by omega));have q0:aq w.heap.size (.int .i64 0) 3 w6:=aq.grown Q0.out Tw (by omega);have q1:aq (w.heap.size+1) (.string ⟨words.toArray⟩) 9 w6:=aq.grown Q1.out Tw (by omega);have q2:aq (w.heap.size+1+1) (.int .i64 0) 3 w6:=aq.grown Q2.out Tw (by omega);have q3:aq (w.heap.size+1+1+1) (.int .i64 0) 27 w6:=aq.grown Q3.out Tw (by omega);clear K6 Tw hr6 Q0 Q1 Q2 Q3;obtain⟨W7,Pt⟩:=aH ((w6.setCell ⟨w.heap.size+1+1,0,none⟩ (.int .i64 mi)).setCell ⟨w.heap.size+1+1+1,0,none⟩ (.int .i64 er));have p0:aq w.heap.size (.int .i64 0) 3 W7:=by rw[<-Pt];exact(q0.other (by omega)).other (by omega)
   have p1:aq (w.heap.size+1) (.string ⟨words.toArray⟩) 9 W7:=by rw[<-Pt];exact(q1.other (by omega)).other (by omega)
   have p2:aq (w.heap.size+1+1) (.int .i64 mi) 3 W7:=by rw[<-Pt];exact(q2.set).other (by omega)
   have p3:aq (w.heap.size+1+1+1) (.int .i64 er) 27 W7:=by rw[<-Pt];exact(q3.other (by omega)).set
   have OE:Below w.heap.size w W7:=by rw[<-Pt];exact(Ow.setCell (by show w.heap.size<=w.heap.size+1+1;omega) _).setCell (by show w.heap.size<=w.heap.size+1+1+1;omega) _
   obtain⟨c2a,c2b⟩:=q2.cell;obtain⟨c3a,c3b⟩:=(q3.other (g:=w.heap.size+1+1) (j:=0) (u:=.int .i64 mi) (by omega)).cell;have TH:=ah Pt;obtain⟨P0,P1,P2,P3⟩:=bK p0 p1 p2 p3;clear Pt q0 q1 q2 q3 p0 p1 p2 p3;go_upto_region 11 with(fail)
   rw[TH.out];clear c2a c2b c3a c3b TH;go_wp2_with fail
   refine(K7.out _ (hE.below OE)).mono ?_;rintro e w8 ⟨ev,rfl,T6,Oa⟩;clear T6;have TY:=bt OE Oa;have q0:=P0.out.below Oa;have q1:=P1.out.below Oa;have q2:=P2.out.below Oa;have q3:=P3.out.below Oa;clear Oa P0 P1 P2 P3 K7;obtain⟨W9,Zh⟩:=aH (w8.setCell ⟨w.heap.size,0,none⟩ (.int .i64 (mB code)));have p0:aq w.heap.size (.int .i64 (mB code)) 3 W9:=by rw[<-Zh];exact q0.set
   have p1:aq (w.heap.size+1) (.string ⟨words.toArray⟩) 9 W9:=by rw[<-Zh];exact q1.other (by omega)
   have p2:aq (w.heap.size+1+1) (.int .i64 mi) 3 W9:=by rw[<-Zh];exact q2.other (by omega)
   have p3:aq (w.heap.size+1+1+1) (.int .i64 er) 27 W9:=by rw[<-Zh];exact q3.other (by omega)
   have OP:Below w.heap.size w W9:=by rw[<-Zh];exact TY.setCell (aw _) _
   obtain⟨c0a,c0b⟩:=q0.cell;have HW9:=ah Zh;clear Zh q0 q1 q2 q3;go_upto_region 12 with(fail)
   rw[HW9.out];obtain⟨a0,a0f⟩:=p0.cell;obtain⟨a1,a1f⟩:=p1.cell;obtain⟨a2,a2f⟩:=p2.cell;obtain⟨a3,a3f⟩:=p3.cell;obtain⟨P0,P1,P2,P3⟩:=bK p0 p1 p2 p3;clear c0a c0b HW9 p0 p1 p2 p3;go_region
   go_wp2_with fail
   obtain⟨D,hD⟩:=aH (((((W9.setCell ⟨w.heap.size,0,none⟩ (.int .i64 (mB code))).setCell ⟨w.heap.size+1,0,none⟩ (.string ⟨words.toArray⟩)).setCell ⟨w.heap.size+1+1,0,none⟩ (.int .i64 mi)).setCell ⟨w.heap.size+1+1+1,0,none⟩ (.int .i64 er)).drew);rw[hD];have b0:aq w.heap.size (.int .i64 (mB code)) 3 D:=by rw[<-hD];exact(((P0.out.set.other (by omega)).other (by omega)).other (by omega))
   have b1:aq (w.heap.size+1) (.string ⟨words.toArray⟩) 9 D:=by rw[<-hD];exact((((P1.out.other (by omega)).set).other (by omega)).other (by omega))
   have b2:aq (w.heap.size+1+1) (.int .i64 mi) 3 D:=by rw[<-hD];exact((((P2.out.other (by omega)).other (by omega)).set).other (by omega))
   have b3:aq (w.heap.size+1+1+1) (.int .i64 er) 27 D:=by rw[<-hD];exact((((P3.out.other (by omega)).other (by omega)).other (by omega)).set)
   have Vm:Below w.heap.size w D:=by rw[<-hD];exact((((OP.setCell (aw _) _).setCell (by show w.heap.size<=w.heap.size+1;omega) _).setCell (by show w.heap.size<=w.heap.size+1+1;omega) _).setCell (by show w.heap.size<=w.heap.size+1+1+1;omega) _).drew
   clear a0 a1 a2 a3 a0f a1f a2f a3f hD P0 P1 P2 P3;refine leaves_cons (f:=101) (args:=#[.pointer (some ⟨w.heap.size+1+1+1,0,none⟩),.pointer (some ⟨w.heap.size,0,none⟩),.pointer (some ⟨w.heap.size+1,0,none⟩),.pointer (some ⟨w.heap.size+1+1,0,none⟩)]) (by simp) (by simp[go_sem]) ?_
   cases he:(er==0)
   ·have hs:=HS.out;rw[he,cond_false]at hs;subst hs;refine(CK _ _ _ _ er _ _ _ _ _ _ .returning _ b3.cell.1 (by unfold bne;rw[he];rfl) b0 b1 b2 (by omega) (by omega) (by omega)).mono ?_;rintro e u' w'' ⟨rfl,rfl,rfl⟩;have a0:=((b0.set (u:=.int .i64 0)).other (g:=w.heap.size+1) (j:=0) (u:=.string ⟨#[]⟩) (by omega)).other (g:=w.heap.size+1+1) (j:=0) (u:=.int .i64 0) (by omega);have a1:=((b1.other (g:=w.heap.size) (j:=0) (u:=.int .i64 0) (by omega)).set (u:=.string ⟨#[]⟩)).other (g:=w.heap.size+1+1) (j:=0) (u:=.int .i64 0) (by omega);have a2:=((b2.other (g:=w.heap.size) (j:=0) (u:=.int .i64 0) (by omega)).other (g:=w.heap.size+1) (j:=0) (u:=.string ⟨#[]⟩) (by omega)).set (u:=.int .i64 0)
    have a3:=((b3.other (g:=w.heap.size) (j:=0) (u:=.int .i64 0) (by omega)).other (g:=w.heap.size+1) (j:=0) (u:=.string ⟨#[]⟩) (by omega)).other (g:=w.heap.size+1+1) (j:=0) (u:=.int .i64 0) (by omega);have hBE:=((Vm.setCell (p:=⟨w.heap.size,0,none⟩) (aw _) (.int .i64 0)).setCell (p:=⟨w.heap.size+1,0,none⟩) (by show w.heap.size<=w.heap.size+1;omega) (.string ⟨#[]⟩)).setCell (p:=⟨w.heap.size+1+1,0,none⟩) (by show w.heap.size<=w.heap.size+1+1;omega) (.int .i64 0);generalize ((D.setCell ⟨w.heap.size,0,none⟩ (.int .i64 0)).setCell ⟨w.heap.size+1,0,none⟩ (.string ⟨#[]⟩)).setCell ⟨w.heap.size+1+1,0,none⟩ (.int .i64 0)=E at*;have x0:=a0.cell.1;have x1:=a1.cell.1;have x2:=a2.cell.1;have x3:=a3.cell.1;clear a0 a1 a2 a3 b0 b1 b2 b3;refine⟨.tuple #[.int .i64 0,.string ⟨#[]⟩,.int .i64 0,.int .i64 er],?_,rfl,hBE⟩;simp[results,Tryz.results52,go_sem,x0,x1,x2,x3]
   ·have he0:er=0:=by simpa using he
    subst he0;have hs:=HS.out;rw[he,cond_true]at hs;subst hs
    have hcode:mB code=(cx code:Int):=by
     have hb50:b5=false:=by
      cases b5
      ·rfl
      ·rw[pu]at hvv;cases hvv
     rw[hb50]at Ns;unfold oH at Ns;simp only[qV]at Ns;obtain⟨⟨⟨rfl,h3⟩,_⟩,_⟩:=Ns;simp only[qV]at Nf;exact Fj (by simpa using h3) (by simpa using Nf.2)
    refine(CO _ _ _ _ .returning _ b3.cell.1).mono ?_;rintro e u' w'' ⟨rfl,rfl,rfl⟩;rw[hcode]at b0;have x0:=b0.cell.1;have x1:=b1.cell.1;have x2:=b2.cell.1;have x3:=b3.cell.1;clear b0 b1 b2 b3;refine⟨.tuple #[.int .i64 (cx code:Int),.string ⟨words.toArray⟩,.int .i64 mi,.int .i64 0],?_,rfl,Vm⟩;simp[results,Tryz.results52,go_sem,x0,x1,x2,x3]
 ·have t0:decide ((s.size:Int)>2048)=true:=by simp;omega
  have Nd:ce s.data.toList=⟨0,[],0,3⟩:=by unfold ce;rw[<-aY,show decide (2048<s.size)=true from by simp;omega];rfl
  rw[Nd];clear Nd;go_enter_defers Tryz.func52,Tryz.ntmps52
  go_wp2_with fail
  refine⟨.tuple #[.int .i64 0,.string ⟨#[]⟩,.int .i64 0,.int .i64 3],?_,rfl,?_⟩
  ·simp[results,Tryz.results52,go_sem]
  ·exact((((aO _ w).alloc (aw _) _).alloc (by simp) _).alloc (by simp;omega) _).alloc (by simp;omega) _
def yF(f:JJ):Value:=.tuple #[.agg #[.int .i64 f.kind,.int .i64 f.n],.int .i64 f.err]
def eh(b:Nat)(k n:Int)(w:World):Prop:=w.heap[b]?=some (.cells #[.int .i64 k,.int .i64 n] 124 (0,0))
theorem eh.below{b:Nat}{k n:Int}{w w':World}(h:eh b k n w)(hb:Below w.heap.size w w'):eh b k n w':=(hb.block b (ab h 0).2.2).trans h
theorem eh.cells{b:Nat}{k n:Int}{w:World}(h:eh b k n w):w.cell? ⟨b,0,none⟩=some (.int .i64 k)/\w.cell? ⟨b,1,none⟩=some (.int .i64 n)/\w.frozen? ⟨b,0,none⟩=false/\w.frozen? ⟨b,1,none⟩=false:=⟨(ab h 0).1,(ab h 1).1,(ab h 0).2.1,(ab h 1).2.1⟩
def Ct(xs:List aU):Prop:=xs.length<=100/\∀f∈xs,f.1.length<=100000/\f.2.length<=100000
theorem qQ{xs:List aU}(h:Ct xs)(nm:List UInt8):(af xs nm).length<=100/\∀v∈af xs nm,v.length<=100000:=by refine⟨bj (cD xs nm) h.1,λv hv=>?_⟩;unfold af at hv;obtain⟨f,hf,rfl⟩:=eY.1 hv;exact(h.2 f (lD.1 hf).1).2
theorem A9(A:Option Addr)(n c:Nat)(xs:List aU)(other:Int)(w:World)(hE:gD w)(hr:Rd A n 2 (aJ xs) w)(hx:Ct xs):Calls Tryz.prog 106 #[.slice A n c,.int .i64 other] w λe w'=>e=.returned (yF (kX xs other))/\Below w.heap.size w w':=by
 have QV:=hr.fld;obtain⟨W0,Nb⟩:=bg w Jb;have Nm:=bm Nb;have Uu:eh w.heap.size 0 0 W0:=by rw[<-Nb];exact ay w _ _ rfl
 have k1:=cX A n c xs uY W0 (hr.below Nm) (by have:=hx.1;omega) (λf hf=>bj (hx.2 f hf).1 (by decide)) (by decide);rw[show(uY:ByteArray).data.toList=fW from rfl]at k1;have k2:=λW(hb:Below w.heap.size w W)=>cX A n c xs Da W (hr.below hb) (by have:=hx.1;omega) (λf hf=>bj (hx.2 f hf).1 (by decide)) (by decide)
 rw[show(Da:ByteArray).data.toList=je from rfl]at k2;obtain⟨V,hV⟩:=aH (kX xs other);rw[hV];unfold kX at hV;obtain⟨Rv,Nq⟩:=qQ hx fW;obtain⟨ht1,P_⟩:=qQ hx je;generalize af xs fW=ls at*;generalize af xs je=ts at*;obtain⟨K1,K2,HV,Nl,Wd⟩:=gB k1 k2 hV Nb Uu;obtain⟨Oo,SV⟩:=az Nq P_;clear k1 k2 hV Nb Uu hr hx QV Nq P_;unfold yF;go_enter Tryz.func106,Tryz.ntmps106
 go_upto_region 1 with(fail)
 rw[Nl.out];go_wp2_with fail
 refine K1.out.mono ?_;rintro e w1 ⟨a1,c1,rfl,Nr,M8⟩;have Ni:=bt Nm M8;have SP:=ah Nr.rd.2;have HF1:=ah (Wd.out.below M8);clear Nr M8 K1 Wd Nl;go_wp2_with fail
 refine(K2.out _ Ni).mono ?_;rintro e w2 ⟨a2,c2,rfl,Nz,M9⟩;have Nk:=bt Ni M9;have Pk:=ah Nz.rd.2;have UN:=ah (SP.out.below M9);have VH:=ah (HF1.out.below M9);clear Nz M9 K2 HF1 SP Ni Nm;by_cases Yv:0<ls.length
 ·have tl:decide ((ls.length:Int)>0)=true:=decide_eq_true (by omega);have tl2:decide (0<(ls.length:Int))=true:=decide_eq_true (by omega);have dl:decide (0<ls.length)=true:=decide_eq_true (by omega);by_cases ht0:0<ts.length
  ·have tt:decide ((ts.length:Int)>0)=true:=decide_eq_true (by omega);have dt:decide (0<ts.length)=true:=decide_eq_true (by omega);have hv:=HV.out;rw[dl,dt]at hv;have Od:V=⟨0,0,8⟩:=hv.symm;subst Od;obtain⟨g0,g1,q0,q1⟩:=VH.out.cells;clear hv HV VH UN Pk Oo SV;go_wp2_with fail
   refine bodyPost_ret_by (v:=.tuple #[.agg #[.int .i64 0,.int .i64 0],.int .i64 8]) ?_ rfl ?_
   ·rw[results_cell_tmp rfl];go_simp
   ·exact⟨rfl,(Nk.setCell (p:=⟨w.heap.size,0,none⟩) (aw _) _).setCell (p:=⟨w.heap.size,1,none⟩) (aw _) _⟩
  ·have tt:decide ((ts.length:Int)>0)=false:=decide_eq_false (by omega);have dt:decide (0<ts.length)=false:=decide_eq_false (by omega);have hv:=HV.out;rw[dl,dt]at hv;have Od:V=bif(nM ls).2==0 then⟨1,(nM ls).1,0⟩else⟨0,0,(nM ls).2⟩:=hv.symm;have k3:=FU a1 ls.length c1 ls w2 (hE.below Nk) UN.out Rv Oo.out;generalize nM ls=r at*;obtain⟨m,er⟩:=r;simp only at Od k3
   obtain⟨Pe,K3⟩:=az Od k3;clear hv Od k3 HV UN Pk Oo SV;go_wp2_with fail
   refine K3.out.mono ?_;rintro e w3 ⟨rfl,Na⟩;have Nu:=bt Nk Na;obtain⟨g0,g1,q0,q1⟩:=(VH.out.below Na).cells;clear Na VH K3
   cases he:(er==0)
   ·have n1:(er !=0)=true:=by unfold bne;rw[he];rfl
    have Od:=Pe.out;rw[he,cond_false]at Od;subst Od;clear Pe;go_wp2_with fail
    refine bodyPost_ret_by (v:=.tuple #[.agg #[.int .i64 0,.int .i64 0],.int .i64 er]) ?_ rfl ?_
    ·rw[results_cell_tmp rfl];go_simp
    ·exact⟨rfl,(Nu.setCell (p:=⟨w.heap.size,0,none⟩) (aw _) _).setCell (p:=⟨w.heap.size,1,none⟩) (aw _) _⟩
   ·have n1:(er !=0)=false:=by unfold bne;rw[he];rfl
    have Od:=Pe.out;rw[he,cond_true]at Od;subst Od;clear Pe;go_wp2_with fail
    refine bodyPost_ret_by (v:=.tuple #[.agg #[.int .i64 1,.int .i64 m],.int .i64 0]) ?_ rfl ?_
    ·rw[results_cell_tmp rfl];go_simp
    ·exact⟨rfl,(Nu.setCell (p:=⟨w.heap.size,0,none⟩) (aw _) _).setCell (p:=⟨w.heap.size,1,none⟩) (aw _) _⟩
 ·have tl:decide ((ls.length:Int)>0)=false:=decide_eq_false (by omega);have tl2:decide (0<(ls.length:Int))=false:=decide_eq_false (by omega);have dl:decide (0<ls.length)=false:=decide_eq_false (by omega);by_cases ht0:0<ts.length
  ·have tt:decide ((ts.length:Int)>0)=true:=decide_eq_true (by omega);have dt:decide (0<ts.length)=true:=decide_eq_true (by omega);have hv:=HV.out;rw[dl,dt]at hv;have Od:V=bif(fF ts).2 !=0||((fF ts).1.length !=1)||(ai ((fF ts).1.headD [])!=ai Le)then⟨0,0,4⟩else⟨2,0,0⟩:=hv.symm;have k3:=Dw a2 ts.length c2 ts w2 Pk.out ht1 (λv hv=>bj (SV.out v hv) (by decide))
   have Rw:aT (fF ts).1<=10000000:=by have h1:=(wM ts []).2;have h2:=total_most ts 100000 SV.out;have h3:aT ([]:List (List UInt8))=0:=rfl;have h4:lQ [] ts=fF ts:=rfl;rw[h3,h4]at h1;omega
   generalize fF ts=r at*;obtain⟨ps,er⟩:=r;simp only at Od k3 Rw
   obtain⟨Pe,K3,HPT⟩:=bu Od k3 Rw;clear hv Od k3 Rw HV UN Pk Oo SV;go_wp2_with fail
   refine K3.out.mono ?_;rintro e w3 ⟨a3,c3,rfl,NN,Na⟩;have Nu:=bt Nk Na;have WJ:=ah (VH.out.below Na);have RE:=ah NN.rd.2;simp only at RE ⊢
   clear Na VH K3 NN
   cases he:(er==0)
   ·have n1:(er !=0)=true:=by unfold bne;rw[he];rfl
    have Od:=Pe.out;rw[n1]at Od;have Rh:V=⟨0,0,4⟩:=Od;subst Rh;obtain⟨g0,g1,q0,q1⟩:=WJ.out.cells;clear Pe Od HPT RE WJ;go_wp2_with fail
    refine bodyPost_ret_by (v:=.tuple #[.agg #[.int .i64 0,.int .i64 0],.int .i64 4]) ?_ rfl ?_
    ·rw[results_cell_tmp rfl];go_simp
    ·exact⟨rfl,(Nu.setCell (p:=⟨w.heap.size,0,none⟩) (aw _) _).setCell (p:=⟨w.heap.size,1,none⟩) (aw _) _⟩
   ·have n1:(er !=0)=false:=by unfold bne;rw[he];rfl
    by_cases h1:ps.length=1
    ·match ps,h1 with
     | [p],_=>
      have Od:=Pe.out;rw[n1]at Od;have Rh:V=bif(ai p !=ai Le)then⟨0,0,4⟩else⟨2,0,0⟩:=Od;obtain⟨b,o,rfl,hl,c1⟩:=RE.out.str_at (k:=0) (by simp);have hpm:p.length<=10000000:=by have:=cG (ls:=[p]) (x:=p) (by simp);have:=HPT.out;omega
      have k4:=jD ⟨p.toArray⟩ ⟨#[99,104,117,110,107,101,100]⟩ w3 (by rw[aR];omega) (by decide);rw[bq,show(⟨#[99,104,117,110,107,101,100]⟩:ByteArray).data.toList=Le from rfl]at k4;simp only[List.getElem_cons_zero,Nat.add_zero,dM]at c1 ⊢;obtain⟨K4,HV3⟩:=az k4 Rh;clear Od Rh k4 Pe RE HPT hpm
      cases hq:(ai p==ai Le)
      ·have Rh:=HV3.out;rw[show(ai p !=ai Le)=true from by unfold bne;rw[hq];rfl,cond_true]at Rh;subst Rh;rw[hq]at K4;clear HV3 hq;go_wp2_with fail
       refine K4.out.mono ?_;rintro e w4 ⟨rfl,Nf⟩;have Ny:=bt Nu Nf;obtain⟨g0,g1,q0,q1⟩:=(WJ.out.below Nf).cells;clear Nf WJ K4 c1;go_wp2_with fail
       refine bodyPost_ret_by (v:=.tuple #[.agg #[.int .i64 0,.int .i64 0],.int .i64 4]) ?_ rfl ?_
       ·rw[results_cell_tmp rfl];go_simp
       ·exact⟨rfl,(Ny.setCell (p:=⟨w.heap.size,0,none⟩) (aw _) _).setCell (p:=⟨w.heap.size,1,none⟩) (aw _) _⟩
      ·have Rh:=HV3.out;rw[show(ai p !=ai Le)=false from by unfold bne;rw[hq];rfl,cond_false]at Rh;subst Rh;rw[hq]at K4;clear HV3 hq;go_wp2_with fail
       refine K4.out.mono ?_;rintro e w4 ⟨rfl,Nf⟩;have Ny:=bt Nu Nf;obtain⟨g0,g1,q0,q1⟩:=(WJ.out.below Nf).cells;clear Nf WJ K4 c1;go_wp2_with fail
       refine bodyPost_ret_by (v:=.tuple #[.agg #[.int .i64 2,.int .i64 0],.int .i64 0]) ?_ rfl ?_
       ·rw[results_cell_tmp rfl];go_simp
       ·exact⟨rfl,(Ny.setCell (p:=⟨w.heap.size,0,none⟩) (aw _) _).setCell (p:=⟨w.heap.size,1,none⟩) (aw _) _⟩
    ·have Od:=Pe.out;rw[n1,show(ps.length !=1)=true from by simp[h1]]at Od;have Rh:V=⟨0,0,4⟩:=Od;subst Rh;have t1:((ps.length:Int)!=1)=true:=by simp;omega
     obtain⟨g0,g1,q0,q1⟩:=WJ.out.cells;clear Pe Od HPT RE WJ;go_wp2_with fail
     refine bodyPost_ret_by (v:=.tuple #[.agg #[.int .i64 0,.int .i64 0],.int .i64 4]) ?_ rfl ?_
     ·rw[results_cell_tmp rfl];go_simp
     ·exact⟨rfl,(Nu.setCell (p:=⟨w.heap.size,0,none⟩) (aw _) _).setCell (p:=⟨w.heap.size,1,none⟩) (aw _) _⟩
  ·have tt:decide ((ts.length:Int)>0)=false:=decide_eq_false (by omega);have dt:decide (0<ts.length)=false:=decide_eq_false (by omega);have hv:=HV.out;rw[dl,dt]at hv;have Od:V=⟨other,0,0⟩:=hv.symm;subst Od;obtain⟨g0,g1,q0,q1⟩:=VH.out.cells;clear hv HV VH UN Pk Oo SV;go_wp2_with fail
   refine bodyPost_ret_by (v:=.tuple #[.agg #[.int .i64 other,.int .i64 0],.int .i64 0]) ?_ rfl ?_
   ·rw[results_cell_tmp rfl];go_simp
   ·exact⟨rfl,(Nk.setCell (p:=⟨w.heap.size,0,none⟩) (aw _) _).setCell (p:=⟨w.heap.size,1,none⟩) (aw _) _⟩
theorem uL(w:World):∃W,w.alloc Jb=W/\Below w.heap.size w W/\eh w.heap.size 0 0 W/\W.heap.size=w.heap.size+1:=⟨_,rfl,(aO _ w).alloc (aw _) _,ay w _ _ rfl,by simp⟩
theorem eh.set{b:Nat}{k n k2 n2:Int}{w:World}(h:eh b k n w):eh b k2 n2 ((w.setCell ⟨b,0,none⟩ (.int .i64 k2)).setCell ⟨b,1,none⟩ (.int .i64 n2)):=ar (ar h)
theorem GG(A:Option Addr)(n c:Nat)(xs:List aU)(w:World)(hE:gD w)(hr:Rd A n 2 (aJ xs) w)(hx:Ct xs):Calls Tryz.prog 117 #[.slice A n c] w λe w'=>e=.returned (yF (cM xs))/\Below w.heap.size w w':=by
 obtain⟨W0,Nb,Nm,Uu,N_⟩:=uL w;have k1:=A9 A n c xs 0 W0 (hE.below Nm) (hr.below Nm) hx;obtain⟨V,hV⟩:=aH (cM xs);rw[hV];unfold cM at hV;generalize kX xs 0=f at*;obtain⟨k,m,er⟩:=f;simp only at hV
 unfold yF at k1 ⊢;simp only at k1
 obtain⟨K1,HV,Nl,Wd⟩:=bK k1 hV Nb Uu;clear k1 hV Nb Uu hr hx;go_enter Tryz.func117,Tryz.ntmps117
 go_upto_region 1 with(fail)
 rw[Nl.out];go_wp2_with fail
 refine K1.out.mono ?_;rintro e w1 ⟨rfl,M8⟩;have Ni:=bt Nm M8;obtain⟨g0,g1,q0,q1⟩:=(Wd.out.below M8).cells;have NZ:w.heap.size<w1.heap.size:=by have:=M8.size;omega
 have hz1':w.heap.size<=w1.heap.size:=by omega
 clear K1 Nl
 cases hb:decide ((65536:Int)<m)
 ·have t1:decide (m>65536)=false:=hb;have hv:=HV.out;rw[hb,cond_false]at hv;subst hv;clear HV Wd Nm;go_wp2_with fail
  refine bodyPost_ret_by (v:=.tuple #[.agg #[.int .i64 k,.int .i64 m],.int .i64 er]) ?_ rfl ?_
  ·rw[results_cell_tmp rfl];go_simp
  ·exact⟨rfl,((Ni.setCell (p:=⟨w.heap.size,0,none⟩) (aw _) _).setCell (p:=⟨w.heap.size,1,none⟩) (aw _) _).alloc (by simp;omega) _⟩
 ·have t1:decide (m>65536)=true:=hb;have hv:=HV.out;rw[hb,cond_true]at hv;subst hv;clear HV Wd Nm;go_wp2_with fail
  refine bodyPost_ret_by (v:=.tuple #[.agg #[.int .i64 0,.int .i64 0],.int .i64 3]) ?_ rfl ?_
  ·rw[results_cell_tmp rfl];go_simp
  ·exact⟨rfl,((Ni.setCell (p:=⟨w.heap.size,0,none⟩) (aw _) _).setCell (p:=⟨w.heap.size,1,none⟩) (aw _) _).alloc (by simp;omega) _⟩
theorem I1(A:Option Addr)(n c:Nat)(xs:List aU)(st:Int)(head:Bool)(w:World)(hE:gD w)(hr:Rd A n 2 (aJ xs) w)(hx:Ct xs)(Nd:-1000000<=st/\st<=1000000):Calls Tryz.prog 56 #[.slice A n c,.int .i64 st,.bool head] w λe w'=>e=.returned (yF (cC xs st head))/\Below w.heap.size w w':=by
 obtain⟨W0,Nb,Nm,Uu,N_⟩:=uL w;have k1:=A9 A n c xs 3 W0 (hE.below Nm) (hr.below Nm) hx;obtain⟨V,hV⟩:=aH (cC xs st head);rw[hV];unfold cC gV at hV;generalize kX xs 3=f at*;obtain⟨k,m,er⟩:=f;simp only at hV
 unfold yF at k1 ⊢;simp only at k1
 obtain⟨K1,HV,Nl,Wd⟩:=bK k1 hV Nb Uu;clear k1 hV Nb Uu hr hx;go_enter Tryz.func56,Tryz.ntmps56
 go_upto_region 1 with(fail)
 rw[Nl.out];go_wp2_with fail
 refine K1.out.mono ?_;rintro e w1 ⟨rfl,M8⟩;have Ni:=bt Nm M8;obtain⟨g0,g1,q0,q1⟩:=(Wd.out.below M8).cells;have NZ:w.heap.size<w1.heap.size:=by have:=M8.size;omega
 have hz1':w.heap.size<=w1.heap.size:=by omega
 clear K1 Nl Wd Nm
 have hq:IntKind.i64.wrap (st.tdiv 100)=st.tdiv 100:=by rw[b_];have h1:=Int.natAbs_tdiv_le_natAbs st 100;omega
 cases he:(er==0)
 ·have n1:(er !=0)=true:=by unfold bne;rw[he];rfl
  have hv:=HV.out;rw[n1,cond_true]at hv;subst hv;clear HV;go_wp2_with fail
  refine bodyPost_ret_by (v:=.tuple #[.agg #[.int .i64 0,.int .i64 0],.int .i64 er]) ?_ rfl ?_
  ·rw[results_cell_tmp rfl];go_simp
  ·exact⟨rfl,((Ni.setCell (p:=⟨w.heap.size,0,none⟩) (aw _) _).setCell (p:=⟨w.heap.size,1,none⟩) (aw _) _).alloc (by simp;omega) _⟩
 ·have n1:(er !=0)=false:=by unfold bne;rw[he];rfl
  have hv:=HV.out;rw[n1,cond_false]at hv;have Pe:=ah hv;clear hv HV
  have no:∀b,(head||((st.tdiv 100==1)||(st==204)||(st==304)))=b->Hid ((bif b then(⟨0,0,0⟩:JJ)else bif decide (262144<m)then⟨0,0,3⟩else⟨k,m,er⟩)=V):=λb hb=>by have h:=Pe.out;rw[hb]at h;exact am h
  have PY:er=0:=by simpa using he
  cases hh:head
  rotate_left
  ·have hv:=(no true (by rw[hh];rfl)).out;rw[cond_true]at hv;subst hv;clear Pe no;go_wp2_with fail
   refine bodyPost_ret_by (v:=.tuple #[.agg #[.int .i64 0,.int .i64 0],.int .i64 0]) ?_ rfl ?_
   ·rw[results_cell_tmp rfl];go_simp
   ·exact⟨rfl,((Ni.setCell (p:=⟨w.heap.size,0,none⟩) (aw _) _).setCell (p:=⟨w.heap.size,1,none⟩) (aw _) _).alloc (by simp;omega) _⟩
  cases h1:(st.tdiv 100==1)
  rotate_left
  ·have hv:=(no true (by rw[hh,h1];rfl)).out;rw[cond_true]at hv;subst hv;clear Pe no;go_wp2_with fail
   refine bodyPost_ret_by (v:=.tuple #[.agg #[.int .i64 0,.int .i64 0],.int .i64 0]) ?_ rfl ?_
   ·rw[results_cell_tmp rfl];go_simp
   ·exact⟨rfl,((Ni.setCell (p:=⟨w.heap.size,0,none⟩) (aw _) _).setCell (p:=⟨w.heap.size,1,none⟩) (aw _) _).alloc (by simp;omega) _⟩
  cases h2:(st==204)
  rotate_left
  ·have hv:=(no true (by rw[hh,h1,h2];rfl)).out;rw[cond_true]at hv;subst hv;clear Pe no;go_wp2_with fail
   refine bodyPost_ret_by (v:=.tuple #[.agg #[.int .i64 0,.int .i64 0],.int .i64 0]) ?_ rfl ?_
   ·rw[results_cell_tmp rfl];go_simp
   ·exact⟨rfl,((Ni.setCell (p:=⟨w.heap.size,0,none⟩) (aw _) _).setCell (p:=⟨w.heap.size,1,none⟩) (aw _) _).alloc (by simp;omega) _⟩
  cases h3:(st==304)
  rotate_left
  ·have hv:=(no true (by rw[hh,h1,h2,h3];rfl)).out;rw[cond_true]at hv;subst hv;clear Pe no;go_wp2_with fail
   refine bodyPost_ret_by (v:=.tuple #[.agg #[.int .i64 0,.int .i64 0],.int .i64 0]) ?_ rfl ?_
   ·rw[results_cell_tmp rfl];go_simp
   ·exact⟨rfl,((Ni.setCell (p:=⟨w.heap.size,0,none⟩) (aw _) _).setCell (p:=⟨w.heap.size,1,none⟩) (aw _) _).alloc (by simp;omega) _⟩
  have hv:=(no false (by rw[hh,h1,h2,h3];rfl)).out;rw[cond_false]at hv;subst PY
  cases hb:decide ((262144:Int)<m)
  ·have t1:decide (m>262144)=false:=hb;rw[hb,cond_false]at hv;subst hv;clear Pe no;go_wp2_with fail
   refine bodyPost_ret_by (v:=.tuple #[.agg #[.int .i64 k,.int .i64 m],.int .i64 0]) ?_ rfl ?_
   ·rw[results_cell_tmp rfl];go_simp
   ·exact⟨rfl,((Ni.setCell (p:=⟨w.heap.size,0,none⟩) (aw _) _).setCell (p:=⟨w.heap.size,1,none⟩) (aw _) _).alloc (by simp;omega) _⟩
  ·have t1:decide (m>262144)=true:=hb;rw[hb,cond_true]at hv;subst hv;clear Pe no;go_wp2_with fail
   refine bodyPost_ret_by (v:=.tuple #[.agg #[.int .i64 0,.int .i64 0],.int .i64 3]) ?_ rfl ?_
   ·rw[results_cell_tmp rfl];go_simp
   ·exact⟨rfl,((Ni.setCell (p:=⟨w.heap.size,0,none⟩) (aw _) _).setCell (p:=⟨w.heap.size,1,none⟩) (aw _) _).alloc (by simp;omega) _⟩
def MD:Nat->Nat
 |0=>112
 |1=>113
 |2=>115
 |3=>116
 |_=>118
theorem CD(S:Nat)(cp:Nat->Array Value)(E:Nat->Int)(I:Nat->World->Prop)(G:World->Prop)(hI:∀k W,I k W->∀j,j<5->W.cell? ⟨S,j,none⟩=some (.func (.func (MD j)) #[] (cp j)))(hC:∀k W,k<5->I k W->Calls Tryz.prog (MD k) (cp k) W λe w'=>e=.returned (.int .i64 (E k))/\G w'/\(E k=0->I (k+1) w'))(w:World)(h:I 0 w)(hG:G w):Calls Tryz.prog 48 #[.slice (some ⟨S,0,none⟩) 5 5] w λe w'=>∃er,e=.returned (.int .i64 er)/\G w'/\((er=0/\(∀k,k<5->E k=0)/\I 5 w')\/(er≠0/\∃k,k<5/\E k=er/\∀j,j<k->E j=0)):=by
 obtain⟨HI,HC⟩:=az hI hC;clear hI hC;go_enter Tryz.func48,Tryz.ntmps48
 go_wp2_with fail
 go_loopw [8] (λi wr=>∃k:Nat,i=.int .i64 k/\k<=5/\Hid (I k wr)/\Hid (G wr)/\Hid (∀j,j<k->E j=0)) (λi _=>5-(intOf i).toNat)
 case atStart=>exact⟨0,rfl,by decide,am h,am hG,am (λj hj=>absurd hj (Nat.not_lt_zero j))⟩
 case round=>
  clear h hG;obtain⟨k,rfl,hk,HK,HG,HE⟩:=hrel;by_cases h5:k<5
  ·have c0:=HI.out k _ HK.out k h5;have kc:=HC.out k _ h5 HK.out;have HX:Hid (∃k',k'<5/\E k'=E k/\∀j,j<k'->E j=0):=am ⟨k,h5,rfl,HE.out⟩
   have Ps:E k=0->Hid (∀j,j<k+1->E j=0):=λhz=>am λj hj=>by
    rcases ef j k with h|h
    ·exact HE.out j h
    ·have:j=k:=by omega
     rw[this];exact hz
   clear HI HC HE hk;generalize he0:E k=e0 at*;have S_:k=0\/k=1\/k=2\/k=3\/k=4:=by omega
   clear h5 he0;rcases S_ with rfl|rfl|rfl|rfl|rfl<;>simp only[MD]at c0 kc
   ·generalize cp 0=cc at*;by_cases hz:e0=0
    ·rw[hz]at kc;have KC:=ah kc;have Qn:=Ps hz;clear kc Ps;go_wp2_with fail
     refine KC.out.mono ?_;rintro e w1 ⟨rfl,NU,NJ⟩;obtain⟨OK,PP⟩:=az NU (NJ trivial);clear NU NJ KC HG HK hz;go_wp2;exact⟨⟨_,rfl,by decide,PP,OK,Qn⟩,by decide⟩
    ·have KC:=ah kc;have HZ:=ah hz;have tz:(e0 !=0)=true:=by simp;exact hz
     clear kc Ps hz;go_wp2_with fail
     refine KC.out.mono ?_;rintro e w1 ⟨rfl,NU,NJ⟩;have OK:=ah NU;clear NU NJ KC HG HK;go_wp2;go_ret;exact⟨_,rfl,OK.out,Or.inr ⟨HZ.out,HX.out⟩⟩
   ·generalize cp 1=cc at*;by_cases hz:e0=0
    ·rw[hz]at kc;have KC:=ah kc;have Qn:=Ps hz;clear kc Ps;go_wp2_with fail
     refine KC.out.mono ?_;rintro e w1 ⟨rfl,NU,NJ⟩;obtain⟨OK,PP⟩:=az NU (NJ trivial);clear NU NJ KC HG HK hz;go_wp2;exact⟨⟨_,rfl,by decide,PP,OK,Qn⟩,by decide⟩
    ·have KC:=ah kc;have HZ:=ah hz;have tz:(e0 !=0)=true:=by simp;exact hz
     clear kc Ps hz;go_wp2_with fail
     refine KC.out.mono ?_;rintro e w1 ⟨rfl,NU,NJ⟩;have OK:=ah NU;clear NU NJ KC HG HK;go_wp2;go_ret;exact⟨_,rfl,OK.out,Or.inr ⟨HZ.out,HX.out⟩⟩
   ·generalize cp 2=cc at*;by_cases hz:e0=0
    ·rw[hz]at kc;have KC:=ah kc;have Qn:=Ps hz;clear kc Ps;go_wp2_with fail
     refine KC.out.mono ?_;rintro e w1 ⟨rfl,NU,NJ⟩;obtain⟨OK,PP⟩:=az NU (NJ trivial);clear NU NJ KC HG HK hz;go_wp2;exact⟨⟨_,rfl,by decide,PP,OK,Qn⟩,by decide⟩
    ·have KC:=ah kc;have HZ:=ah hz;have tz:(e0 !=0)=true:=by simp;exact hz
     clear kc Ps hz;go_wp2_with fail
     refine KC.out.mono ?_;rintro e w1 ⟨rfl,NU,NJ⟩;have OK:=ah NU;clear NU NJ KC HG HK;go_wp2;go_ret;exact⟨_,rfl,OK.out,Or.inr ⟨HZ.out,HX.out⟩⟩
   ·generalize cp 3=cc at*;by_cases hz:e0=0
    ·rw[hz]at kc;have KC:=ah kc;have Qn:=Ps hz;clear kc Ps;go_wp2_with fail
     refine KC.out.mono ?_;rintro e w1 ⟨rfl,NU,NJ⟩;obtain⟨OK,PP⟩:=az NU (NJ trivial);clear NU NJ KC HG HK hz;go_wp2;exact⟨⟨_,rfl,by decide,PP,OK,Qn⟩,by decide⟩
    ·have KC:=ah kc;have HZ:=ah hz;have tz:(e0 !=0)=true:=by simp;exact hz
     clear kc Ps hz;go_wp2_with fail
     refine KC.out.mono ?_;rintro e w1 ⟨rfl,NU,NJ⟩;have OK:=ah NU;clear NU NJ KC HG HK;go_wp2;go_ret;exact⟨_,rfl,OK.out,Or.inr ⟨HZ.out,HX.out⟩⟩
   ·generalize cp 4=cc at*;by_cases hz:e0=0
    ·rw[hz]at kc;have KC:=ah kc;have Qn:=Ps hz;clear kc Ps;go_wp2_with fail
     refine KC.out.mono ?_;rintro e w1 ⟨rfl,NU,NJ⟩;obtain⟨OK,PP⟩:=az NU (NJ trivial);clear NU NJ KC HG HK hz;go_wp2;exact⟨⟨_,rfl,by decide,PP,OK,Qn⟩,by decide⟩
    ·have KC:=ah kc;have HZ:=ah hz;have tz:(e0 !=0)=true:=by simp;exact hz
     clear kc Ps hz;go_wp2_with fail
     refine KC.out.mono ?_;rintro e w1 ⟨rfl,NU,NJ⟩;have OK:=ah NU;clear NU NJ KC HG HK;go_wp2;go_ret;exact⟨_,rfl,OK.out,Or.inr ⟨HZ.out,HX.out⟩⟩
  ·obtain rfl:k=5:=by omega
   go_wp2;go_ret;exact⟨0,rfl,HG.out,Or.inl ⟨rfl,HE.out,HK.out⟩⟩
def ME:Nat->Nat
 |0=>49
 |1=>51
 |2=>53
 |3=>55
 |_=>57
theorem Cw(S:Nat)(cp:Nat->Array Value)(E:Nat->Int)(I:Nat->World->Prop)(G:World->Prop)(hI:∀k W,I k W->∀j,j<5->W.cell? ⟨S,j,none⟩=some (.func (.func (ME j)) #[] (cp j)))(hC:∀k W,k<5->I k W->Calls Tryz.prog (ME k) (cp k) W λe w'=>e=.returned (.int .i64 (E k))/\G w'/\(E k=0->I (k+1) w'))(w:World)(h:I 0 w)(hG:G w):Calls Tryz.prog 48 #[.slice (some ⟨S,0,none⟩) 5 5] w λe w'=>∃er,e=.returned (.int .i64 er)/\G w'/\((er=0/\(∀k,k<5->E k=0)/\I 5 w')\/(er≠0/\∃k,k<5/\E k=er/\∀j,j<k->E j=0)):=by
 obtain⟨HI,HC⟩:=az hI hC;clear hI hC;go_enter Tryz.func48,Tryz.ntmps48
 go_wp2_with fail
 go_loopw [8] (λi wr=>∃k:Nat,i=.int .i64 k/\k<=5/\Hid (I k wr)/\Hid (G wr)/\Hid (∀j,j<k->E j=0)) (λi _=>5-(intOf i).toNat)
 case atStart=>exact⟨0,rfl,by decide,am h,am hG,am (λj hj=>absurd hj (Nat.not_lt_zero j))⟩
 case round=>
  clear h hG;obtain⟨k,rfl,hk,HK,HG,HE⟩:=hrel;by_cases h5:k<5
  ·have c0:=HI.out k _ HK.out k h5;have kc:=HC.out k _ h5 HK.out;have HX:Hid (∃k',k'<5/\E k'=E k/\∀j,j<k'->E j=0):=am ⟨k,h5,rfl,HE.out⟩
   have Ps:E k=0->Hid (∀j,j<k+1->E j=0):=λhz=>am λj hj=>by
    rcases ef j k with h|h
    ·exact HE.out j h
    ·have:j=k:=by omega
     rw[this];exact hz
   clear HI HC HE hk;generalize he0:E k=e0 at*;have S_:k=0\/k=1\/k=2\/k=3\/k=4:=by omega
   clear h5 he0;rcases S_ with rfl|rfl|rfl|rfl|rfl<;>simp only[ME]at c0 kc
   ·generalize cp 0=cc at*;by_cases hz:e0=0
    ·rw[hz]at kc;have KC:=ah kc;have Qn:=Ps hz;clear kc Ps;go_wp2_with fail
     refine KC.out.mono ?_;rintro e w1 ⟨rfl,NU,NJ⟩;obtain⟨OK,PP⟩:=az NU (NJ trivial);clear NU NJ KC HG HK hz;go_wp2;exact⟨⟨_,rfl,by decide,PP,OK,Qn⟩,by decide⟩
    ·have KC:=ah kc;have HZ:=ah hz;have tz:(e0 !=0)=true:=by simp;exact hz
     clear kc Ps hz;go_wp2_with fail
     refine KC.out.mono ?_;rintro e w1 ⟨rfl,NU,NJ⟩;have OK:=ah NU;clear NU NJ KC HG HK;go_wp2;go_ret;exact⟨_,rfl,OK.out,Or.inr ⟨HZ.out,HX.out⟩⟩
   ·generalize cp 1=cc at*;by_cases hz:e0=0
    ·rw[hz]at kc;have KC:=ah kc;have Qn:=Ps hz;clear kc Ps;go_wp2_with fail
     refine KC.out.mono ?_;rintro e w1 ⟨rfl,NU,NJ⟩;obtain⟨OK,PP⟩:=az NU (NJ trivial);clear NU NJ KC HG HK hz;go_wp2;exact⟨⟨_,rfl,by decide,PP,OK,Qn⟩,by decide⟩
    ·have KC:=ah kc;have HZ:=ah hz;have tz:(e0 !=0)=true:=by simp;exact hz
     clear kc Ps hz;go_wp2_with fail
     refine KC.out.mono ?_;rintro e w1 ⟨rfl,NU,NJ⟩;have OK:=ah NU;clear NU NJ KC HG HK;go_wp2;go_ret;exact⟨_,rfl,OK.out,Or.inr ⟨HZ.out,HX.out⟩⟩
   ·generalize cp 2=cc at*;by_cases hz:e0=0
    ·rw[hz]at kc;have KC:=ah kc;have Qn:=Ps hz;clear kc Ps;go_wp2_with fail
     refine KC.out.mono ?_;rintro e w1 ⟨rfl,NU,NJ⟩;obtain⟨OK,PP⟩:=az NU (NJ trivial);clear NU NJ KC HG HK hz;go_wp2;exact⟨⟨_,rfl,by decide,PP,OK,Qn⟩,by decide⟩
    ·have KC:=ah kc;have HZ:=ah hz;have tz:(e0 !=0)=true:=by simp;exact hz
     clear kc Ps hz;go_wp2_with fail
     refine KC.out.mono ?_;rintro e w1 ⟨rfl,NU,NJ⟩;have OK:=ah NU;clear NU NJ KC HG HK;go_wp2;go_ret;exact⟨_,rfl,OK.out,Or.inr ⟨HZ.out,HX.out⟩⟩
   ·generalize cp 3=cc at*;by_cases hz:e0=0
    ·rw[hz]at kc;have KC:=ah kc;have Qn:=Ps hz;clear kc Ps;go_wp2_with fail
     refine KC.out.mono ?_;rintro e w1 ⟨rfl,NU,NJ⟩;obtain⟨OK,PP⟩:=az NU (NJ trivial);clear NU NJ KC HG HK hz;go_wp2;exact⟨⟨_,rfl,by decide,PP,OK,Qn⟩,by decide⟩
    ·have KC:=ah kc;have HZ:=ah hz;have tz:(e0 !=0)=true:=by simp;exact hz
     clear kc Ps hz;go_wp2_with fail
     refine KC.out.mono ?_;rintro e w1 ⟨rfl,NU,NJ⟩;have OK:=ah NU;clear NU NJ KC HG HK;go_wp2;go_ret;exact⟨_,rfl,OK.out,Or.inr ⟨HZ.out,HX.out⟩⟩
   ·generalize cp 4=cc at*;by_cases hz:e0=0
    ·rw[hz]at kc;have KC:=ah kc;have Qn:=Ps hz;clear kc Ps;go_wp2_with fail
     refine KC.out.mono ?_;rintro e w1 ⟨rfl,NU,NJ⟩;obtain⟨OK,PP⟩:=az NU (NJ trivial);clear NU NJ KC HG HK hz;go_wp2;exact⟨⟨_,rfl,by decide,PP,OK,Qn⟩,by decide⟩
    ·have KC:=ah kc;have HZ:=ah hz;have tz:(e0 !=0)=true:=by simp;exact hz
     clear kc Ps hz;go_wp2_with fail
     refine KC.out.mono ?_;rintro e w1 ⟨rfl,NU,NJ⟩;have OK:=ah NU;clear NU NJ KC HG HK;go_wp2;go_ret;exact⟨_,rfl,OK.out,Or.inr ⟨HZ.out,HX.out⟩⟩
  ·obtain rfl:k=5:=by omega
   go_wp2;go_ret;exact⟨0,rfl,HG.out,Or.inl ⟨rfl,HE.out,HK.out⟩⟩
def cB(b:Nat)(T:TypeId)(st re:ByteArray)(A:Option Addr)(n c:Nat)(lg:Int)(x0 x1:Value)(mi:Int)(F:Value)(bo:ByteArray)(w:World):Prop:=w.heap[b]?=some (.cells #[.string st,.string re,.slice A n c,.int .i64 lg,x0,x1,.int .i64 mi,F,.string bo] T (0,0))
section
variable {b:Nat}{T:TypeId}{st re:ByteArray}{A:Option Addr}{n c:Nat}{lg:Int}{x0 x1:Value}{mi:Int}{F:Value}{bo:ByteArray}{w w':World}
theorem cB.below(h:cB b T st re A n c lg x0 x1 mi F bo w)(hb:Below w.heap.size w w'):cB b T st re A n c lg x0 x1 mi F bo w':=(hb.block b (ab h 0).2.2).trans h
theorem cB.grown{g:Nat}(h:cB b T st re A n c lg x0 x1 mi F bo w)(hb:w.grownBy w' (some g))(Ng:b≠g):cB b T st re A n c lg x0 x1 mi F bo w':=(hb.block b (ab h 0).2.2 (by intro x;cases x;exact Ng rfl)).trans h
theorem cB.cells(h:cB b T st re A n c lg x0 x1 mi F bo w):w.cell? ⟨b,0,none⟩=some (.string st)/\w.cell? ⟨b,1,none⟩=some (.string re)/\w.cell? ⟨b,2,none⟩=some (.slice A n c)/\w.cell? ⟨b,3,none⟩=some (.int .i64 lg)/\w.cell? ⟨b,4,none⟩=some x0/\w.cell? ⟨b,5,none⟩=some x1/\w.cell? ⟨b,6,none⟩=some (.int .i64 mi)/\w.cell? ⟨b,7,none⟩=some F/\w.cell? ⟨b,8,none⟩=some (.string bo):=⟨(ab h 0).1,(ab h 1).1,(ab h 2).1,(ab h 3).1,(ab h 4).1,(ab h 5).1,(ab h 6).1,(ab h 7).1,(ab h 8).1⟩
theorem cB.free(h:cB b T st re A n c lg x0 x1 mi F bo w)(j:Nat):w.frozen? ⟨b,j,none⟩=false:=(ab h j).2.1
theorem cB.lt(h:cB b T st re A n c lg x0 x1 mi F bo w):b<w.heap.size:=(ab h 0).2.2
end
theorem e_{w w':World}(b:Nat)(h:Below w.heap.size w w'):w.grownBy w' (some b):=⟨h.os,h.tape,h.output,h.size,λk hk _=>h.block k hk⟩
theorem cV{w w1 w2:World}{b:Nat}(h1:w.grownBy w1 (some b))(h2:w1.grownBy w2 (some b)):w.grownBy w2 (some b):=⟨h2.os.trans h1.os,h2.tape.trans h1.tape,h2.output.trans h1.output,bj h1.size h2.size,λk hk Ng=>(h2.block k (bE hk h1.size) Ng).trans (h1.block k hk Ng)⟩
theorem cq.gb{w w':World}{b:Nat}(h:cq w)(hg:w.grownBy w' (some b))(hb:0≠b):cq w':=by obtain⟨h1,m,h2⟩:=h;refine⟨bE h1 hg.size,m,?_⟩;rw[<-h2];simp only[World.cell?,hg.block _ h1 (by intro x;cases x;exact hb rfl)]
theorem zw(b:Nat)(T:TypeId)(st re:ByteArray)(A:Option Addr)(n c:Nat)(lg:Int)(x0 x1:Value)(mi:Int)(F:Value)(bo s:ByteArray)(w:World)(hM:cq w)(Ol:0≠b)(hs:s.size<=140737488351232)(h:cB b T st re A n c lg x0 x1 mi F bo w):Calls Tryz.prog 50 #[.pointer (some ⟨b,0,none⟩),.string s] w λe w'=>e=.returned (.tuple #[.string ⟨(aD s.data.toList).lines.toArray⟩,.int .i64 (aD s.data.toList).err])/\w.grownBy w' (some b)/\((aD s.data.toList).err=0->cB b T ⟨(aD s.data.toList).start.toArray⟩ ⟨(aD s.data.toList).rest.toArray⟩ A n c (aD s.data.toList).long x0 x1 mi F bo w'):=by
 obtain⟨m,hm⟩:∃n:Nat,min (s.size:Int) 8192=(n:Int):=⟨min s.size 8192,by omega⟩;have hm2:m=min s.size 8192:=by omega
 have hex:(s.extract 0 m).data.toList=s.data.toList.take 8192:=by
  rw[eD,hm2];simp only[Nat.sub_zero,na];rcases Nat.le_total s.size 8192 with h|h
  ·rw[Nat.min_eq_left h,jJ (by rw[<-aY];exact aw _),jJ (by rw[<-aY];exact h)]
  ·rw[Nat.min_eq_right h]
 have k1:=pF (s.extract 0 m) zf w hM (by rw[eu];omega);rw[hex,show(zf:ByteArray).data.toList=aK++aK from rfl]at k1
 have hL:aD s.data.toList=bif decide (Lib.index (s.data.toList.take 8192) (aK++aK)<0)then⟨[],[],[],0,bif decide (8192<=s.size)then 3 else 6⟩else
   ⟨(Lib.cut (s.data.toList.take ((Lib.index (s.data.toList.take 8192) (aK++aK)).toNat+2)) aK).1,(Lib.cut (s.data.toList.take ((Lib.index (s.data.toList.take 8192) (aK++aK)).toNat+2)) aK).2.1,s.data.toList.drop ((Lib.index (s.data.toList.take 8192) (aK++aK)).toNat+4),(Lib.index (s.data.toList.take 8192) (aK++aK)).toNat+4,0⟩:=by rw[aY];rfl
 have N7:=Lib.index_room (s.data.toList.take 8192) (aK++aK);rw[hL];have Nc:(s.data.toList.take 8192).length<=s.size:=by rw[dm,<-aY];omega
 have Yu:(s.data.toList.take 8192).length<=8192:=by rw[dm];omega
 generalize Lib.index (s.data.toList.take 8192) (aK++aK)=ix at*;clear hex hL;have n1:(m:Int)<=s.size:=by omega
 have n2:(0:Int)<=(m:Int):=by omega
 have n4:m<=s.size:=by omega
 have K1:=ah k1;clear k1;have Q_:w.grownBy w (some b):=e_ b (aO _ w);by_cases h0:ix<0
 ·have t0:decide (ix<0)=true:=decide_eq_true h0;rw[t0,cond_true];by_cases T9:8192<=s.size
  ·have t1:decide ((s.size:Int)>=8192)=true:=decide_eq_true (by omega);rw[decide_eq_true T9];obtain rfl:m=8192:=by omega
   have Y_:(min (s.size:Int) 8192).toNat=8192:=by omega
   clear N7 Nc Yu hm hm2;go_enter Tryz.func50,Tryz.ntmps50
   go_wp2_with fail
   first|(refine K1.out.mono ?_)|(rw[Y_];refine K1.out.mono ?_)
   rintro e w1 ⟨rfl,rfl⟩;clear K1;go_wp2;go_ret2
   exact⟨rfl,Q_,λhh=>absurd hh (by decide)⟩
  ·have t1:decide ((s.size:Int)>=8192)=false:=decide_eq_false (by omega);rw[decide_eq_false T9];obtain rfl:m=s.size:=by omega
   have XK:s.extract 0 s.size=s:=by apply dE;rw[eD];simp only[Nat.sub_zero,na];exact eH s _ (aw _)
   rw[XK]at K1;have Y_:(min (s.size:Int) 8192).toNat=s.size:=by omega
   clear N7 Nc Yu hm hm2;go_enter Tryz.func50,Tryz.ntmps50
   go_wp2_with fail
   first|(refine K1.out.mono ?_)|(rw[Y_];refine K1.out.mono ?_)
   rintro e w1 ⟨rfl,rfl⟩;clear K1;go_wp2;go_ret2
   exact⟨rfl,Q_,λhh=>absurd hh (by decide)⟩
 ·have t0:decide (ix<0)=false:=decide_eq_false h0;rw[t0,cond_false];have hr:=N7 (by omega);obtain⟨k,rfl⟩:∃k:Nat,ix=(k:Int):=⟨ix.toNat,by omega⟩;rw[Int.toNat_natCast];rw[show(aK++aK).length=4 from rfl]at hr;obtain⟨k4,hk4⟩:∃k4,k4=k+4:=⟨_,rfl⟩;obtain⟨k2,OA⟩:∃k2,k2=k+2:=⟨_,rfl⟩;rw[<-hk4,<-OA];have m1:IntKind.i64.wrap ((k:Int)+4)=(k4:Int):=by rw[b_];omega
  have m2:IntKind.i64.wrap ((k:Int)+2)=(k2:Int):=by rw[b_];omega
  have m3:(k4:Int)<=s.size:=by omega
  have m5:(k2:Int)<=s.size:=by omega
  have m4:k2<=s.size:=by omega
  have P_:(s.extract 0 k2).data.toList=s.data.toList.take k2:=by rw[eD];simp only[Nat.sub_zero,na]
  rw[<-P_,<-fe];rw[bN (s.extract k4 s.size)];have kc:=λw h=>iL (s.extract 0 k2) ij w h (by rw[eu];omega)
  rw[show(ij:ByteArray).data.toList=aK from rfl]at kc;generalize Lib.cut (s.extract 0 k2).data.toList aK=cu at*;obtain⟨c1,c2,c3⟩:=cu;simp only at kc
  obtain⟨W1,Ne⟩:=aH ((w.setCell ⟨b,3,none⟩ (.int .i64 k4)).setCell ⟨b,1,none⟩ (.string (s.extract k4 s.size)));have h1:cB b T st re A n c k4 x0 x1 mi F bo (w.setCell ⟨b,3,none⟩ (.int .i64 k4)):=ar h;have h2:cB b T st (s.extract k4 s.size) A n c k4 x0 x1 mi F bo W1:=by rw[<-Ne];exact ar h1
  have g1:w.grownBy W1 (some b):=by rw[<-Ne];exact cV (al _ _ _ _) (al _ _ _ _)
  have kM:=hM.gb g1 Ol;have q1:((w.setCell ⟨b,3,none⟩ (.int .i64 k4)).setCell ⟨b,1,none⟩ (.string (s.extract k4 s.size))).cell? ⟨b,3,none⟩=some (.int .i64 k4):=by rw[Ne];exact h2.cells.2.2.2.1
  have q2:(w.setCell ⟨b,3,none⟩ (.int .i64 k4)).cell? ⟨b,3,none⟩=some (.int .i64 k4):=h1.cells.2.2.2.1;have q3:=h.free 3;have q4:=h1.free 1;have q5:(w.setCell ⟨b,3,none⟩ (.int .i64 k4)).cell? ⟨b,1,none⟩=some (.string re):=h1.cells.2.1;have q6:=h.cells.2.2.2.1;obtain⟨KC,NC,H2⟩:=bu kc Ne h2;clear kc Ne h2 h1 N7 Nc Yu hr hk4 OA P_ h;go_enter Tryz.func50,Tryz.ntmps50
  go_wp2_with fail
  rw[<-hm2];refine K1.out.mono ?_;rintro e w1 ⟨rfl,rfl⟩;clear K1;go_wp2_with fail
  rw[NC.out];refine(KC.out _ kM).mono ?_;rintro e w2 ⟨rfl,M9⟩;have h3:=H2.out.below M9;have c0:=h3.cells.1;have c0f:=h3.free 0;have hg3:=cV (cV g1 (e_ b M9)) (al w2 b 0 (.string ⟨c1.toArray⟩));have h4:cB b T ⟨c1.toArray⟩ (s.extract k4 s.size) A n c k4 x0 x1 mi F bo (w2.setCell ⟨b,0,none⟩ (.string ⟨c1.toArray⟩)):=ar h3;clear h3 KC q1 q2 q3 q4 q5 q6;go_wp2;go_ret2
  exact⟨rfl,hg3,λ_=>h4⟩
theorem vM(b:Nat)(T:TypeId)(st re:ByteArray)(A:Option Addr)(n c:Nat)(lg:Int)(x0 x1:Value)(mi:Int)(F:Value)(bo s:ByteArray)(w:World)(hM:cq w)(hs:s.size<=1000000)(h:cB b T st re A n c lg x0 x1 mi F bo w):Calls Tryz.prog 54 #[.pointer (some ⟨b,0,none⟩),.string s] w λe w'=>e=.returned (.int .i64 (bn s.data.toList).2)/\w.grownBy w' (some b)/\∃A2 c2,cB b T st re A2 (bn s.data.toList).1.length c2 lg x0 x1 mi F bo w'/\aM w.heap.size (.slice A2 (bn s.data.toList).1.length c2) (bn s.data.toList).1 w':=by
 have k1:=tG s w hM hs;generalize bn s.data.toList=pr at*;obtain⟨fs,er⟩:=pr;have Nc:=h.lt;obtain⟨H,K1⟩:=az h k1;clear h k1;go_enter Tryz.func54,Tryz.ntmps54
 go_wp2_with fail
 refine K1.out.mono ?_;rintro e w1 ⟨A2,c2,rfl,ho,M8⟩;have h1:=H.out.below M8;have q:=h1.cells.2.2.1;have qf:=h1.free 2;have h2:cB b T st re A2 fs.length c2 lg x0 x1 mi F bo (w1.setCell ⟨b,2,none⟩ (.slice A2 fs.length c2)):=ar h1;have N8:=cV (e_ b M8) (al w1 b 2 (.slice A2 fs.length c2));have Nz:aM w.heap.size (.slice A2 fs.length c2) fs (w1.setCell ⟨b,2,none⟩ (.slice A2 fs.length c2)):=aM.beside ho (ap.setCell b 2 _ _) Nc;clear K1 h1 H;go_wp2;go_ret;exact⟨rfl,N8,A2,c2,h2,Nz⟩
theorem CC(r acc:List UInt8)(u:Nat):(qT r acc u).used<=u+r.length:=by
 unfold qT
 cases hp:aK.isPrefixOf r
 ·rw[cond_false];have Ok:=@ph r (aK++aK) 8192;rw[show(aK++aK).length=4 from rfl]at Ok;generalize iU r (aK++aK) 8192=li at*;obtain⟨ix,er⟩:=li;simp only at Ok ⊢
  by_cases PY:er=0
  ·subst PY;obtain⟨k,rfl,h1,h2⟩:=Ok rfl;rw[show((0:Int)!=0)=false from rfl,cond_false]
   cases(bn (r.take (k:Int).toNat++aK)).2==0
   ·exact a_ _
   ·show u+((k:Int).toNat+4)<=_
    omega
  ·rw[show(er !=0)=true from by simp;exact PY,cond_true];exact a_ _
 ·have:=(List.isPrefixOf_iff_prefix.mp hp).length_le;rw[show aK.length=2 from rfl]at this;show u+2<=_
  omega
theorem wu(m:Nat):∀(k:Nat)(r acc:List UInt8)(u:Nat),(rm m k r acc u).used<=u+r.length
 |0,_,_,_=>a_ _
 |k+1,r,acc,u=>by
  unfold rm;have Ok:=@ph r aK 2050;rw[show aK.length=2 from rfl]at Ok;generalize iU r aK 2050=li at*;obtain⟨ix,er⟩:=li;simp only at Ok ⊢
  by_cases PY:er=0
  ·subst PY;obtain⟨j,rfl,h1,h2⟩:=Ok rfl;rw[show((0:Int)!=0)=false from rfl,cond_false];rw[Int.toNat_natCast];generalize nU (r.take j)=z;obtain⟨z,er⟩:=z;simp only
   cases h3:(er !=0)
   ·rw[cond_false];have hl:=CC (r.drop (j+2)) acc (u+(j+2));rw[gH]at hl
    cases h4:(z==0)
    ·rw[cond_false]
     cases h5:decide (m-acc.length<z)
     ·rw[cond_false]
      cases h6:decide ((r.drop (j+2)).length<z)
      ·rw[cond_false]
       cases h7:aK.isPrefixOf ((r.drop (j+2)).drop z)
       ·exact a_ _
       ·have h8:=(List.isPrefixOf_iff_prefix.mp h7).length_le;rw[show aK.length=2 from rfl]at h8;have ih:=wu m k (((r.drop (j+2)).drop z).drop 2) (acc++(r.drop (j+2)).take z) (u+(j+2)+z+2);simp only[decide_eq_false_iff_not,Nat.not_lt]at h6;simp only[gH]at ih h8 h6;simp only[di,cond_false];omega
      ·exact a_ _
     ·exact a_ _
    ·rw[cond_true];omega
   ·exact a_ _
  ·rw[show(er !=0)=true from by simp;exact PY,cond_true];exact a_ _
theorem Eq(s:List UInt8)(m:Nat):(ri s m).used<=s.length:=by have:=wu m (s.length+1) s [] 0;unfold ri;omega
def rW(B:Nat)(w:World)(c:Ex)(e:Ending)(w':World):Prop:=e=.returned (.tuple #[.string ⟨c.body.toArray⟩,.int .i64 (c.used:Int),.int .i64 c.err])/\Below B w w'
theorem uV(b:Nat)(T:TypeId)(st re:ByteArray)(A:Option Addr)(n c:Nat)(lg:Nat)(x0 x1:Value)(mi:Int)(F:Value)(bo:ByteArray)(kd fn:Int)(er:Int)(Nh:Nat)(w:World)(hM:cq w)(PC:re.size<=140737488351232)(UX:lg<=10000)(hmost:Nh<=262144)(Ub:0<=fn/\fn<=262144)(h:cB b T st re A n c lg x0 x1 mi F bo w):Calls Tryz.prog 58 #[.pointer (some ⟨b,0,none⟩),.agg #[.int .i64 kd,.int .i64 fn],.int .i64 Nh] w (rW w.heap.size w (dB re.data.toList lg ⟨kd,fn,er⟩ Nh)):=by
 obtain⟨W0,Nb,Nm,Uu,N_⟩:∃W,w.alloc (.cells #[.int .i64 kd,.int .i64 fn] 124)=W/\Below w.heap.size w W/\eh w.heap.size kd fn W/\W.heap.size=w.heap.size+1:=⟨_,rfl,(aO _ w).alloc (aw _) _,ay w _ _ rfl,by simp⟩
 have h0:=h.below Nm;obtain⟨c0,c1,c2,c3,-⟩:=h0.cells;obtain⟨f0,f1,-,-⟩:=Uu.cells;obtain⟨C,hC⟩:=aH (dB re.data.toList lg ⟨kd,fn,er⟩ Nh);rw[hC];unfold dB at hC;simp only at hC
 rw[<-aY]at hC;have Nl:=ah Nb;clear Nb h Uu;have hz:∀q,Below w.heap.size w (W0.drewN q):=λq=>⟨Nm.os,Nm.tape,Nm.output,Nm.size,Nm.block⟩
 have N6:∀q r,Below w.heap.size w ((W0.drewN q).drewN r):=λq r=>⟨Nm.os,Nm.tape,Nm.output,Nm.size,Nm.block⟩
 by_cases e1:kd=1
 ·subst e1;rw[show((1:Int)==1)=true from rfl,cond_true]at hC;obtain⟨k,rfl⟩:∃k:Nat,fn=(k:Int):=⟨fn.toNat,by omega⟩;rw[Int.toNat_natCast]at hC;by_cases hs:re.size<k
  ·rw[decide_eq_true (by omega),cond_true]at hC;subst hC;have t1:decide ((re.size:Int)<(k:Int))=true:=decide_eq_true (by omega);go_enter Tryz.func58,Tryz.ntmps58
   go_upto_region 1 with(fail)
   rw[Nl.out];go_wp2;go_quiet (fail)
   go_wp2;go_ret3
   exact⟨rfl,hz _⟩
  ·rw[decide_eq_false (by omega),cond_false]at hC;have hex:(re.extract 0 k).data.toList=re.data.toList.take k:=by rw[eD];simp only[Nat.sub_zero,na]
   rw[<-hex]at hC;subst hC;have t1:decide ((re.size:Int)<(k:Int))=false:=decide_eq_false (by omega);have m1:IntKind.i64.wrap ((lg:Int)+(k:Int))=((lg+k:Nat):Int):=by rw[b_];omega
   have n1:(k:Int)<=re.size:=by omega
   clear hex;go_enter Tryz.func58,Tryz.ntmps58
   go_upto_region 1 with(fail)
   rw[Nl.out];go_wp2;go_quiet (fail)
   go_wp2;go_quiet (fail)
   go_wp2;go_ret3
   exact⟨by rw[show(⟨(re.extract 0 k).data.toList.toArray⟩:ByteArray)=re.extract 0 k from bN _];rfl,N6 _ _⟩
 ·rw[show(kd==1)=false from by simp;exact e1,cond_false]at hC;by_cases e2:kd=2
  ·subst e2;rw[show((2:Int)==2)=true from rfl,cond_true]at hC;have kd:=GJ re Nh W0 (hM.below Nm) PC hmost;have hu:=Eq re.data.toList Nh;rw[<-aY]at hu;generalize ri re.data.toList Nh=d at*;obtain⟨d1,d2,d3⟩:=d;simp only at kd hC hu
   have KD:=ah kd;clear kd;have C3:=ah c3;have tk:((2:Int)==1)=false:=rfl;have hl:b<W0.heap.size:=(ab h0 0).2.2;by_cases e3:d3=0
   ·subst e3;rw[show((0:Int)==0)=true from rfl,cond_true]at hC;subst hC;go_enter Tryz.func58,Tryz.ntmps58
    go_upto_region 1 with(fail)
    rw[Nl.out];go_wp2_with fail
    refine KD.out.mono ?_;rintro e w1 ⟨⟨tv,rfl⟩,M8⟩;have c3':w1.cell? ⟨b,3,none⟩=some (.int .i64 lg):=(M8.cell (p:=⟨b,3,none⟩) hl).trans C3.out;have NZ:∀q,Below w.heap.size w (w1.drewN q):=λq=>⟨(bt Nm M8).os,(bt Nm M8).tape,(bt Nm M8).output,(bt Nm M8).size,(bt Nm M8).block⟩
    have m1:IntKind.i64.wrap ((lg:Int)+(d2:Int))=((lg+d2:Nat):Int):=by rw[b_];omega
    clear KD;go_wp2;go_quiet (fail)
    go_wp2;go_ret3
    exact⟨rfl,NZ _⟩
   ·have te:(d3==0)=false:=by simp;exact e3
    have tn:(d3 !=0)=true:=by simp;exact e3
    rw[te,cond_false]at hC;subst hC;go_enter Tryz.func58,Tryz.ntmps58
    go_upto_region 1 with(fail)
    rw[Nl.out];go_wp2_with fail
    refine KD.out.mono ?_;rintro e w1 ⟨⟨tv,rfl⟩,M8⟩;have NZ:Below w.heap.size w w1:=bt Nm M8;clear KD;go_wp2;go_ret3
    exact⟨rfl,NZ⟩
  ·rw[show(kd==2)=false from by simp;exact e2,cond_false]at hC;by_cases e3:kd=3
   ·subst e3;rw[show((3:Int)==3)=true from rfl,cond_true]at hC;by_cases hs:Nh<re.size
    ·rw[decide_eq_true hs,cond_true]at hC;subst hC;go_enter Tryz.func58,Tryz.ntmps58
     go_upto_region 1 with(fail)
     rw[Nl.out];go_wp2;go_ret3
     exact⟨rfl,Nm⟩
    ·rw[decide_eq_false hs,cond_false]at hC;subst hC;have m1:IntKind.i64.wrap ((lg:Int)+(re.size:Int))=((lg+re.size:Nat):Int):=by rw[b_];omega
     go_enter Tryz.func58,Tryz.ntmps58
     go_upto_region 1 with(fail)
     rw[Nl.out];go_wp2;go_quiet (fail)
     go_wp2;go_ret3
     exact⟨rfl,hz _⟩
   ·have tk:(kd==1)=false:=by simp;exact e1
    have tk2:(kd==2)=false:=by simp;exact e2
    have tk3:(kd==3)=false:=by simp;exact e3
    rw[tk3,cond_false]at hC;subst hC;go_enter Tryz.func58,Tryz.ntmps58
    go_upto_region 1 with(fail)
    rw[Nl.out];go_wp2;go_quiet (fail)
    go_wp2;go_ret3
    exact⟨rfl,hz _⟩
def gA(g h:Nat)(w w':World):Prop:=w'.os=w.os/\w'.tape=w.tape/\w'.output=w.output/\w.heap.size<=w'.heap.size/\∀k,k<w.heap.size->k≠g->k≠h->w'.heap[k]?=w.heap[k]?
theorem gA.of_gb{g h:Nat}{w w':World}(k:w.grownBy w' (some g)):gA g h w w':=⟨k.os,k.tape,k.output,k.size,λj hj h1 _=>k.block j hj (by intro x;cases x;exact h1 rfl)⟩
theorem gA.of_gb2{g h:Nat}{w w':World}(k:w.grownBy w' (some h)):gA g h w w':=⟨k.os,k.tape,k.output,k.size,λj hj _ h2=>k.block j hj (by intro x;cases x;exact h2 rfl)⟩
theorem gA.trans{g h:Nat}{w w1 w2:World}(a:gA g h w w1)(b:gA g h w1 w2):gA g h w w2:=⟨b.1.trans a.1,b.2.1.trans a.2.1,b.2.2.1.trans a.2.2.1,bj a.2.2.2.1 b.2.2.2.1,λk hk h1 h2=>(b.2.2.2.2 k (bE hk a.2.2.2.1) h1 h2).trans (a.2.2.2.2 k hk h1 h2)⟩
theorem gA.keep{g h b:Nat}{w w':World}{o:Obj}(k:gA g h w w')(hb:w.heap[b]?=some o)(h1:b≠g)(h2:b≠h):w'.heap[b]?=some o:=(k.2.2.2.2 b (ae hb) h1 h2).trans hb
theorem gA.below{g h B:Nat}{w w':World}(k:gA g h w w')(h1:B<=g)(h2:B<=h)(h3:B<=w.heap.size):Below B w w':=⟨k.1,k.2.1,k.2.2.1,k.2.2.2.1,λj hj=>k.2.2.2.2 j (by omega) (by omega) (by omega)⟩
theorem Ko{B g h:Nat}{e:TypeId}{size:Nat}{v:Value}{n:Nat}{xs:List Value}{w w1:World}(ho:w.ownsRow B e size v n xs)(hb:gA g h w w1)(h1:g<B)(h2:h<B):w1.ownsRow B e size v n xs:=by
 obtain⟨q1,q2⟩:=ho;refine⟨q1,?_⟩;rcases q2 with q2|⟨j,cap,cur,hv,hg,hh,r⟩
 ·exact Or.inl q2
 ·exact Or.inr ⟨j,cap,cur,hv,hg,hb.keep hh (by omega) (by omega),r⟩
theorem aM.two{B g h:Nat}{v:Value}{fs:List aU}{w w1:World}(ho:aM B v fs w)(hb:gA g h w w1)(h1:g<B)(h2:h<B):aM B v fs w1:=Ko ho hb h1 h2
theorem JD(b:Nat)(st re:ByteArray)(A:Option Addr)(n c:Nat)(lg:Int)(x0 x1:Value)(mi:Int)(F:Value)(bo:ByteArray)(bS bL:Nat)(s l0:ByteArray)(w:World)(hM:cq w)(Ol:0≠b)(hs:s.size<=140737488351232)(Ng:bL≠b)(h:cB b 201 st re A n c lg x0 x1 mi F bo w)(hS:aq bS (.string s) 9 w)(hL:aq bL (.string l0) 9 w):Calls Tryz.prog 112 #[.pointer (some ⟨b,0,none⟩),.pointer (some ⟨bS,0,none⟩),.pointer (some ⟨bL,0,none⟩)] w λe w'=>e=.returned (.int .i64 (aD s.data.toList).err)/\gA b bL w w'/\aq bL (.string ⟨(aD s.data.toList).lines.toArray⟩) 9 w'/\((aD s.data.toList).err=0->cB b 201 ⟨(aD s.data.toList).start.toArray⟩ ⟨(aD s.data.toList).rest.toArray⟩ A n c (aD s.data.toList).long x0 x1 mi F bo w'):=by
 have k1:=zw b 201 st re A n c lg x0 x1 mi F bo s w hM Ol hs h;generalize aD s.data.toList=H at*;obtain⟨h1,h2,h3,h4,h5⟩:=H;simp only at k1 ⊢
 obtain⟨K1,HL⟩:=az k1 hL;obtain⟨s0,-⟩:=hS.cell;clear k1 hL hS h;go_enter Tryz.func112,Tryz.ntmps112
 go_wp2_with fail
 refine K1.out.mono ?_;rintro e w1 ⟨rfl,OO,T8⟩;have l1:=HL.out.grown OO Ng;obtain⟨c0,c0f⟩:=l1.cell;have l2:aq bL (.string ⟨h2.toArray⟩) 9 (w1.setCell ⟨bL,0,none⟩ (.string ⟨h2.toArray⟩)):=l1.set;have t2:gA b bL w (w1.setCell ⟨bL,0,none⟩ (.string ⟨h2.toArray⟩)):=(gA.of_gb OO).trans (gA.of_gb2 (al _ _ _ _));have Xn:h5=0->cB b 201 ⟨h1.toArray⟩ ⟨h3.toArray⟩ A n c h4 x0 x1 mi F bo (w1.setCell ⟨bL,0,none⟩ (.string ⟨h2.toArray⟩)):=λhz=>(T8 hz).grown (al _ _ _ _) (by omega)
 clear K1 HL l1 T8 OO;go_wp2;go_ret;exact⟨rfl,t2,l2,Xn⟩
theorem Kl(b:Nat)(st re:ByteArray)(A:Option Addr)(n c:Nat)(lg:Int)(x0 x1:Value)(mi:Int)(F:Value)(bo:ByteArray)(bL:Nat)(s:ByteArray)(w:World)(hM:cq w)(hs:s.size<=1000000)(h:cB b 201 st re A n c lg x0 x1 mi F bo w)(hL:aq bL (.string s) 9 w):Calls Tryz.prog 115 #[.pointer (some ⟨b,0,none⟩),.pointer (some ⟨bL,0,none⟩)] w λe w'=>e=.returned (.int .i64 (bn s.data.toList).2)/\w.grownBy w' (some b)/\∃A2 c2,cB b 201 st re A2 (bn s.data.toList).1.length c2 lg x0 x1 mi F bo w'/\aM w.heap.size (.slice A2 (bn s.data.toList).1.length c2) (bn s.data.toList).1 w':=by
 have k1:=vM b 201 st re A n c lg x0 x1 mi F bo s w hM hs h;have K1:=ah k1;obtain⟨s0,-⟩:=hL.cell;clear k1 hL h;go_enter Tryz.func115,Tryz.ntmps115
 go_wp2_with fail
 refine K1.out.mono ?_;rintro e w1 ⟨rfl,OO,T8⟩;clear K1;go_wp2;go_ret;exact⟨rfl,OO,T8⟩
theorem JC(b:Nat)(st re:ByteArray)(A:Option Addr)(n c:Nat)(lg:Nat)(x0 x1:Value)(mi:Int)(F:Value)(bo:ByteArray)(bF bU:Nat)(kd fn us er:Int)(w:World)(hM:cq w)(PC:re.size<=140737488351232)(UX:lg<=10000)(Ub:0<=fn/\fn<=262144)(Ng:bU≠b)(h:cB b 201 st re A n c lg x0 x1 mi F bo w)(hF:eh bF kd fn w)(hU:aq bU (.int .i64 us) 3 w):Calls Tryz.prog 118 #[.pointer (some ⟨b,0,none⟩),.pointer (some ⟨bF,0,none⟩),.pointer (some ⟨bU,0,none⟩)] w λe w'=>e=.returned (.int .i64 (dB re.data.toList lg ⟨kd,fn,er⟩ 65536).err)/\gA b bU w w'/\cB b 201 st re A n c lg x0 x1 mi F ⟨(dB re.data.toList lg ⟨kd,fn,er⟩ 65536).body.toArray⟩ w'/\aq bU (.int .i64 (dB re.data.toList lg ⟨kd,fn,er⟩ 65536).used) 3 w':=by
 have k1:=uV b 201 st re A n c lg x0 x1 mi F bo kd fn er 65536 w hM PC UX (by decide) Ub h;rw[show((65536:Nat):Int)=65536 from rfl]at k1;generalize dB re.data.toList lg ⟨kd,fn,er⟩ 65536=C at*;obtain⟨d1,d2,d3⟩:=C;unfold rW at k1;simp only at k1 ⊢
 obtain⟨f0,f1,-,-⟩:=hF.cells;obtain⟨K1,H,HU⟩:=bu k1 h hU;have Nc:=h.lt;clear k1 h hU hF;go_enter Tryz.func118,Tryz.ntmps118
 go_wp2_with fail
 refine K1.out.mono ?_;rintro e w1 ⟨rfl,M8⟩;have h1:=H.out.below M8;have u1:=HU.out.below M8;have hc:=h1.cells.2.2.2.2.2.2.2.2;have Pn:=h1.free 8;obtain⟨u0,u0f⟩:=(u1.other (g:=b) (j:=8) (u:=.string ⟨d1.toArray⟩) Ng).cell;have h2:cB b 201 st re A n c lg x0 x1 mi F ⟨d1.toArray⟩ ((w1.setCell ⟨b,8,none⟩ (.string ⟨d1.toArray⟩)).setCell ⟨bU,0,none⟩ (.int .i64 d2)):=(show cB b 201 st re A n c lg x0 x1 mi F ⟨d1.toArray⟩ (w1.setCell ⟨b,8,none⟩ (.string ⟨d1.toArray⟩))from ar h1).grown (al _ _ _ _) (by omega);have u2:aq bU (.int .i64 d2) 3 ((w1.setCell ⟨b,8,none⟩ (.string ⟨d1.toArray⟩)).setCell ⟨bU,0,none⟩ (.int .i64 d2)):=(u1.other Ng).set;have t2:gA b bU w ((w1.setCell ⟨b,8,none⟩ (.string ⟨d1.toArray⟩)).setCell ⟨bU,0,none⟩ (.int .i64 d2)):=((gA.of_gb (e_ b M8)).trans (gA.of_gb (al _ _ _ _))).trans (gA.of_gb2 (al _ _ _ _))
 clear K1 H HU h1 u1 M8;go_wp2;go_ret;exact⟨rfl,t2,h2,u2⟩
theorem JW(b:Nat)(st re:ByteArray)(A:Option Addr)(n c:Nat)(lg:Int)(x0 x1:Value)(mi:Int)(F:Value)(bo:ByteArray)(bS bL:Nat)(s l0:ByteArray)(w:World)(hM:cq w)(Ol:0≠b)(hs:s.size<=140737488351232)(Ng:bL≠b)(h:cB b 122 st re A n c lg x0 x1 mi F bo w)(hS:aq bS (.string s) 9 w)(hL:aq bL (.string l0) 9 w):Calls Tryz.prog 49 #[.pointer (some ⟨b,0,none⟩),.pointer (some ⟨bS,0,none⟩),.pointer (some ⟨bL,0,none⟩)] w λe w'=>e=.returned (.int .i64 (aD s.data.toList).err)/\gA b bL w w'/\aq bL (.string ⟨(aD s.data.toList).lines.toArray⟩) 9 w'/\((aD s.data.toList).err=0->cB b 122 ⟨(aD s.data.toList).start.toArray⟩ ⟨(aD s.data.toList).rest.toArray⟩ A n c (aD s.data.toList).long x0 x1 mi F bo w'):=by
 have k1:=zw b 122 st re A n c lg x0 x1 mi F bo s w hM Ol hs h;generalize aD s.data.toList=H at*;obtain⟨h1,h2,h3,h4,h5⟩:=H;simp only at k1 ⊢
 obtain⟨K1,HL⟩:=az k1 hL;obtain⟨s0,-⟩:=hS.cell;clear k1 hL hS h;go_enter Tryz.func49,Tryz.ntmps49
 go_wp2_with fail
 refine K1.out.mono ?_;rintro e w1 ⟨rfl,OO,T8⟩;have l1:=HL.out.grown OO Ng;obtain⟨c0,c0f⟩:=l1.cell;have l2:aq bL (.string ⟨h2.toArray⟩) 9 (w1.setCell ⟨bL,0,none⟩ (.string ⟨h2.toArray⟩)):=l1.set;have t2:gA b bL w (w1.setCell ⟨bL,0,none⟩ (.string ⟨h2.toArray⟩)):=(gA.of_gb OO).trans (gA.of_gb2 (al _ _ _ _));have Xn:h5=0->cB b 122 ⟨h1.toArray⟩ ⟨h3.toArray⟩ A n c h4 x0 x1 mi F bo (w1.setCell ⟨bL,0,none⟩ (.string ⟨h2.toArray⟩)):=λhz=>(T8 hz).grown (al _ _ _ _) (by omega)
 clear K1 HL l1 T8 OO;go_wp2;go_ret;exact⟨rfl,t2,l2,Xn⟩
theorem Kn(b:Nat)(st re:ByteArray)(A:Option Addr)(n c:Nat)(lg:Int)(x0 x1:Value)(mi:Int)(F:Value)(bo:ByteArray)(bL:Nat)(s:ByteArray)(w:World)(hM:cq w)(hs:s.size<=1000000)(h:cB b 122 st re A n c lg x0 x1 mi F bo w)(hL:aq bL (.string s) 9 w):Calls Tryz.prog 53 #[.pointer (some ⟨b,0,none⟩),.pointer (some ⟨bL,0,none⟩)] w λe w'=>e=.returned (.int .i64 (bn s.data.toList).2)/\w.grownBy w' (some b)/\∃A2 c2,cB b 122 st re A2 (bn s.data.toList).1.length c2 lg x0 x1 mi F bo w'/\aM w.heap.size (.slice A2 (bn s.data.toList).1.length c2) (bn s.data.toList).1 w':=by
 have k1:=vM b 122 st re A n c lg x0 x1 mi F bo s w hM hs h;have K1:=ah k1;obtain⟨s0,-⟩:=hL.cell;clear k1 hL h;go_enter Tryz.func53,Tryz.ntmps53
 go_wp2_with fail
 refine K1.out.mono ?_;rintro e w1 ⟨rfl,OO,T8⟩;clear K1;go_wp2;go_ret;exact⟨rfl,OO,T8⟩
theorem JX(b:Nat)(st re:ByteArray)(A:Option Addr)(n c:Nat)(lg:Nat)(x0 x1:Value)(mi:Int)(F:Value)(bo:ByteArray)(bF bU:Nat)(kd fn us er:Int)(w:World)(hM:cq w)(PC:re.size<=140737488351232)(UX:lg<=10000)(Ub:0<=fn/\fn<=262144)(Ng:bU≠b)(h:cB b 122 st re A n c lg x0 x1 mi F bo w)(hF:eh bF kd fn w)(hU:aq bU (.int .i64 us) 3 w):Calls Tryz.prog 57 #[.pointer (some ⟨b,0,none⟩),.pointer (some ⟨bF,0,none⟩),.pointer (some ⟨bU,0,none⟩)] w λe w'=>e=.returned (.int .i64 (dB re.data.toList lg ⟨kd,fn,er⟩ 262144).err)/\gA b bU w w'/\cB b 122 st re A n c lg x0 x1 mi F ⟨(dB re.data.toList lg ⟨kd,fn,er⟩ 262144).body.toArray⟩ w'/\aq bU (.int .i64 (dB re.data.toList lg ⟨kd,fn,er⟩ 262144).used) 3 w':=by
 have k1:=uV b 122 st re A n c lg x0 x1 mi F bo kd fn er 262144 w hM PC UX (by decide) Ub h;rw[show((262144:Nat):Int)=262144 from rfl]at k1;generalize dB re.data.toList lg ⟨kd,fn,er⟩ 262144=C at*;obtain⟨d1,d2,d3⟩:=C;unfold rW at k1;simp only at k1 ⊢
 obtain⟨f0,f1,-,-⟩:=hF.cells;obtain⟨K1,H,HU⟩:=bu k1 h hU;have Nc:=h.lt;clear k1 h hU hF;go_enter Tryz.func57,Tryz.ntmps57
 go_wp2_with fail
 refine K1.out.mono ?_;rintro e w1 ⟨rfl,M8⟩;have h1:=H.out.below M8;have u1:=HU.out.below M8;have hc:=h1.cells.2.2.2.2.2.2.2.2;have Pn:=h1.free 8;obtain⟨u0,u0f⟩:=(u1.other (g:=b) (j:=8) (u:=.string ⟨d1.toArray⟩) Ng).cell;have h2:cB b 122 st re A n c lg x0 x1 mi F ⟨d1.toArray⟩ ((w1.setCell ⟨b,8,none⟩ (.string ⟨d1.toArray⟩)).setCell ⟨bU,0,none⟩ (.int .i64 d2)):=(show cB b 122 st re A n c lg x0 x1 mi F ⟨d1.toArray⟩ (w1.setCell ⟨b,8,none⟩ (.string ⟨d1.toArray⟩))from ar h1).grown (al _ _ _ _) (by omega);have u2:aq bU (.int .i64 d2) 3 ((w1.setCell ⟨b,8,none⟩ (.string ⟨d1.toArray⟩)).setCell ⟨bU,0,none⟩ (.int .i64 d2)):=(u1.other Ng).set;have t2:gA b bU w ((w1.setCell ⟨b,8,none⟩ (.string ⟨d1.toArray⟩)).setCell ⟨bU,0,none⟩ (.int .i64 d2)):=((gA.of_gb (e_ b M8)).trans (gA.of_gb (al _ _ _ _))).trans (gA.of_gb2 (al _ _ _ _))
 clear K1 H HU h1 u1 M8;go_wp2;go_ret;exact⟨rfl,t2,h2,u2⟩
theorem JN(b:Nat)(st re:ByteArray)(A:Option Addr)(n c:Nat)(lg:Int)(x0 x1:Value)(mi:Int)(F:Value)(bo:ByteArray)(m p:List UInt8)(v:Int)(w:World)(hM:cq w)(hr:wQ st.data.toList=⟨m,p,v,0⟩)(h:cB b 201 st re A n c lg x0 x1 mi F bo w):Calls Tryz.prog 113 #[.pointer (some ⟨b,0,none⟩)] w λe w'=>e=.returned (.int .i64 0)/\w.grownBy w' (some b)/\cB b 201 st re A n c lg (.string ⟨m.toArray⟩) (.string ⟨p.toArray⟩) v F bo w':=by
 have k1:=Jd st m p v w hM hr;have c0:=h.cells.1;obtain⟨K1,H⟩:=az k1 h;clear k1 h hr;go_enter Tryz.func113,Tryz.ntmps113
 go_wp2_with fail
 refine K1.out.mono ?_;rintro e w1 ⟨rfl,M8⟩;have h1:=H.out.below M8;have h2:cB b 201 st re A n c lg (.string ⟨m.toArray⟩) x1 mi F bo (w1.setCell ⟨b,4,none⟩ (.string ⟨m.toArray⟩)):=ar h1;have h3:cB b 201 st re A n c lg (.string ⟨m.toArray⟩) (.string ⟨p.toArray⟩) mi F bo ((w1.setCell ⟨b,4,none⟩ (.string ⟨m.toArray⟩)).setCell ⟨b,5,none⟩ (.string ⟨p.toArray⟩)):=ar h2;have h4:cB b 201 st re A n c lg (.string ⟨m.toArray⟩) (.string ⟨p.toArray⟩) v F bo (((w1.setCell ⟨b,4,none⟩ (.string ⟨m.toArray⟩)).setCell ⟨b,5,none⟩ (.string ⟨p.toArray⟩)).setCell ⟨b,6,none⟩ (.int .i64 v)):=ar h3;have g4:w.grownBy (((w1.setCell ⟨b,4,none⟩ (.string ⟨m.toArray⟩)).setCell ⟨b,5,none⟩ (.string ⟨p.toArray⟩)).setCell ⟨b,6,none⟩ (.int .i64 v)) (some b):=cV (cV (cV (e_ b M8) (al _ _ _ _)) (al _ _ _ _)) (al _ _ _ _)
 have q1:=h1.cells.2.2.2.2.1;have q1f:=h1.free 4;have q2:=h2.cells.2.2.2.2.2.1;have q2f:=h2.free 5;have q3:=h3.cells.2.2.2.2.2.2.1;have q3f:=h3.free 6;clear K1 H h1 h2 h3 M8;go_wp2;go_ret;exact⟨rfl,g4,h4⟩
theorem Kd(b:Nat)(st re:ByteArray)(A:Option Addr)(n c:Nat)(lg:Int)(x0 x1:Value)(mi:Int)(F:Value)(bo:ByteArray)(w:World)(hM:cq w)(hE:gD w)(hs:st.size<=1000000)(h:cB b 122 st re A n c lg x0 x1 mi F bo w):Calls Tryz.prog 51 #[.pointer (some ⟨b,0,none⟩)] w λe w'=>e=.returned (.int .i64 (ce st.data.toList).err)/\w.grownBy w' (some b)/\cB b 122 st re A n c lg (.int .i64 (ce st.data.toList).status) (.string ⟨(ce st.data.toList).words.toArray⟩) (ce st.data.toList).minor F bo w':=by
 have k1:=DY st w hM hE hs;generalize ce st.data.toList=L at*;obtain⟨m,p,v,er⟩:=L;simp only at k1 ⊢
 have c0:=h.cells.1;obtain⟨K1,H⟩:=az k1 h;clear k1 h;go_enter Tryz.func51,Tryz.ntmps51
 go_wp2_with fail
 refine K1.out.mono ?_;rintro e w1 ⟨rfl,M8⟩;have h1:=H.out.below M8;have h2:cB b 122 st re A n c lg (.int .i64 m) x1 mi F bo (w1.setCell ⟨b,4,none⟩ (.int .i64 m)):=ar h1;have h3:cB b 122 st re A n c lg (.int .i64 m) (.string ⟨p.toArray⟩) mi F bo ((w1.setCell ⟨b,4,none⟩ (.int .i64 m)).setCell ⟨b,5,none⟩ (.string ⟨p.toArray⟩)):=ar h2;have h4:cB b 122 st re A n c lg (.int .i64 m) (.string ⟨p.toArray⟩) v F bo (((w1.setCell ⟨b,4,none⟩ (.int .i64 m)).setCell ⟨b,5,none⟩ (.string ⟨p.toArray⟩)).setCell ⟨b,6,none⟩ (.int .i64 v)):=ar h3;have g4:w.grownBy (((w1.setCell ⟨b,4,none⟩ (.int .i64 m)).setCell ⟨b,5,none⟩ (.string ⟨p.toArray⟩)).setCell ⟨b,6,none⟩ (.int .i64 v)) (some b):=cV (cV (cV (e_ b M8) (al _ _ _ _)) (al _ _ _ _)) (al _ _ _ _);have q1:=h1.cells.2.2.2.2.1;have q1f:=h1.free 4
 have q2:=h2.cells.2.2.2.2.2.1;have q2f:=h2.free 5;have q3:=h3.cells.2.2.2.2.2.2.1;have q3f:=h3.free 6;clear K1 H h1 h2 h3 M8;go_wp2;go_ret;exact⟨rfl,g4,h4⟩
theorem Ju(b:Nat)(st re:ByteArray)(A:Option Addr)(n c:Nat)(lg:Int)(x0 x1:Value)(mi:Int)(F:Value)(bo:ByteArray)(bF:Nat)(kd fn:Int)(xs:List aU)(w:World)(hE:gD w)(hx:Ct xs)(h:cB b 201 st re A n c lg x0 x1 mi F bo w)(hF:eh bF kd fn w)(hr:Rd A n 2 (aJ xs) w):Calls Tryz.prog 116 #[.pointer (some ⟨b,0,none⟩),.pointer (some ⟨bF,0,none⟩)] w λe w'=>e=.returned (.int .i64 (cM xs).err)/\w.grownBy w' (some bF)/\eh bF (cM xs).kind (cM xs).n w':=by
 have k1:=GG A n c xs w hE hr hx;generalize cM xs=L at*;obtain⟨m,p,er⟩:=L;unfold yF at k1;simp only at k1 ⊢
 have c0:=h.cells.2.2.1;obtain⟨K1,HF⟩:=az k1 hF;clear k1 h hF;go_enter Tryz.func116,Tryz.ntmps116
 go_wp2_with fail
 refine K1.out.mono ?_;rintro e w1 ⟨rfl,M8⟩;have h1:=HF.out.below M8;obtain⟨q0,q1,q0f,q1f⟩:=h1.cells;have h2:eh bF m p ((w1.setCell ⟨bF,0,none⟩ (.int .i64 m)).setCell ⟨bF,1,none⟩ (.int .i64 p)):=h1.set;have g2:w.grownBy ((w1.setCell ⟨bF,0,none⟩ (.int .i64 m)).setCell ⟨bF,1,none⟩ (.int .i64 p)) (some bF):=cV (cV (e_ bF M8) (al _ _ _ _)) (al _ _ _ _);clear K1 HF h1 M8;go_wp2;go_ret;exact⟨rfl,g2,h2⟩
theorem Jg(b:Nat)(st re:ByteArray)(A:Option Addr)(n c:Nat)(lg:Int)(s:Int)(x1:Value)(mi:Int)(F:Value)(bo:ByteArray)(bF bH:Nat)(kd fn:Int)(hd:Bool)(xs:List aU)(w:World)(hE:gD w)(hx:Ct xs)(Nd:-1000000<=s/\s<=1000000)(h:cB b 122 st re A n c lg (.int .i64 s) x1 mi F bo w)(hF:eh bF kd fn w)(hH:aq bH (.bool hd) 4 w)(hr:Rd A n 2 (aJ xs) w):Calls Tryz.prog 55 #[.pointer (some ⟨b,0,none⟩),.pointer (some ⟨bH,0,none⟩),.pointer (some ⟨bF,0,none⟩)] w λe w'=>e=.returned (.int .i64 (cC xs s hd).err)/\w.grownBy w' (some bF)/\eh bF (cC xs s hd).kind (cC xs s hd).n w':=by
 have k1:=I1 A n c xs s hd w hE hr hx Nd;generalize cC xs s hd=L at*;obtain⟨m,p,er⟩:=L;unfold yF at k1;simp only at k1 ⊢
 have c0:=h.cells.2.2.1;have c4:=h.cells.2.2.2.2.1;obtain⟨d0,-⟩:=hH.cell;obtain⟨K1,HF⟩:=az k1 hF;clear k1 h hF hH;go_enter Tryz.func55,Tryz.ntmps55
 go_wp2_with fail
 refine K1.out.mono ?_;rintro e w1 ⟨rfl,M8⟩;have h1:=HF.out.below M8;obtain⟨q0,q1,q0f,q1f⟩:=h1.cells;have h2:eh bF m p ((w1.setCell ⟨bF,0,none⟩ (.int .i64 m)).setCell ⟨bF,1,none⟩ (.int .i64 p)):=h1.set;have g2:w.grownBy ((w1.setCell ⟨bF,0,none⟩ (.int .i64 m)).setCell ⟨bF,1,none⟩ (.int .i64 p)) (some bF):=cV (cV (e_ bF M8) (al _ _ _ _)) (al _ _ _ _);clear K1 HF h1 M8;go_wp2;go_ret;exact⟨rfl,g2,h2⟩
theorem Hh(w:World)(o0 o1 o2 o3 o4 o5 o6:Obj):∃W,((((((w.alloc o0).alloc o1).alloc o2).alloc o3).alloc o4).alloc o5).alloc o6=W/\Below w.heap.size w W/\W.heap.size=w.heap.size+7/\W.heap[w.heap.size]?=some o0/\W.heap[w.heap.size+1]?=some o1/\W.heap[w.heap.size+1+1]?=some o2/\W.heap[w.heap.size+1+1+1]?=some o3/\W.heap[w.heap.size+1+1+1+1]?=some o4/\W.heap[w.heap.size+1+1+1+1+1]?=some o5/\W.heap[w.heap.size+1+1+1+1+1+1]?=some o6:=by
 refine⟨_,rfl,((((((((aO _ w).alloc (aw _) _).alloc (by simp) _).alloc (by simp;omega) _).alloc (by simp;omega) _).alloc (by simp;omega) _).alloc (by simp;omega) _).alloc (by simp;omega) _),by simp,?_,?_,?_,?_,?_,?_,?_⟩
 all_goals
  show(((((((w.heap.push o0).push o1).push o2).push o3).push o4).push o5).push o6)[_]?=_
  simp only[Array.getElem?_push,Array.size_push]
  repeat rw[if_neg (by omega)]
  exact if_pos trivial
theorem u_:∀(n:Nat)(s:List UInt8)(acc:List aU),acc.length<=64->(pW n s acc).1.length<=64
 |0,_,_,h=>h
 |n+1,s,acc,h=>by
  unfold pW
  cases s.isEmpty<;>simp only[cond_true,cond_false]
  ·cases(Lib.cut s aK).2.2<;>simp only[di,iC,cond_true,cond_false]
   ·simp
   ·cases h6:(acc.length==64)<;>simp only[cond_true,cond_false]
    ·cases(nL (Lib.cut s aK).1 !=0)<;>simp only[cond_true,cond_false]
     ·refine u_ n _ _ ?_;simp at h6;simp;omega
     ·simp
    ·simp
  ·exact h
theorem ye(s:List UInt8):(bn s).1.length<=64:=u_ _ _ _ (by simp)
theorem sy(s:List UInt8):Ct (bn s).1:=by refine⟨bj (ye s) (by decide),λf hf=>?_⟩;have h1:=(mQ s).1 f hf;have h2:decide (2048<f.1.length+2+f.2.length)=false:=h1.2;simp only[decide_eq_false_iff_not,Nat.not_lt]at h2;omega
theorem zq(s:List UInt8):(aD s).start.length<=8194/\(aD s).lines.length<=8194/\(aD s).rest.length<=s.length/\(aD s).long<=8194:=by
 unfold aD;have N7:=Lib.index_room (s.take 8192) (aK++aK);generalize Lib.index (s.take 8192) (aK++aK)=ix at*;by_cases h:ix<0
 ·rw[decide_eq_true h,cond_true];exact⟨a_ _,a_ _,a_ _,a_ _⟩
 ·rw[decide_eq_false h,cond_false];have:=N7 (by omega);rw[dm,show(aK++aK).length=4 from rfl]at this;have hc:=h_ (s.take (ix.toNat+2)) aK;rw[dm]at hc;refine⟨by simp only;omega,by simp only;omega,by simp only[gH];omega,by simp only;omega⟩
theorem Gn(xs:List aU)(o:Int):0<=(kX xs o).n:=by
 unfold kX
 cases decide (0<(af xs fW).length)&&decide (0<(af xs je).length)
 ·cases decide (0<(af xs fW).length)
  ·cases decide (0<(af xs je).length)
   ·exact iR _
   ·rw[cond_false,cond_false,cond_true];generalize ((fF (af xs je)).2 !=0||((fF (af xs je)).1.length !=1)||(ai ((fF (af xs je)).1.headD [])!=ai Le))=b
    cases b<;>exact iR _
  ·rw[cond_false,cond_true]
   cases(nM (af xs fW)).2==0
   ·exact iR _
   ·rw[cond_true];show 0<=(nM (af xs fW)).1
    unfold nM;generalize (fF (af xs fW))=q
    cases q.2 !=0
    ·cases !q.1.all iS
     ·cases q.1.all (λp=>cx p==cx (q.1.headD []))
      ·exact iR _
      ·exact Int.natCast_nonneg _
     ·exact iR _
    ·exact iR _
 ·exact iR _
theorem Hg(xs:List aU):0<=(cM xs).n/\(cM xs).n<=262144:=by
 unfold cM;have:=Gn xs 0;by_cases h:65536<(kX xs 0).n
 ·rw[decide_eq_true h,cond_true];exact⟨iR _,by decide⟩
 ·rw[decide_eq_false h,cond_false];omega
theorem I3(xs:List aU)(st:Int)(hd:Bool):0<=(cC xs st hd).n/\(cC xs st hd).n<=262144:=by
 unfold cC;have:=Gn xs 3
 cases(kX xs 3).err !=0
 ·rw[cond_false]
  cases hd||gV st
  ·rw[cond_false];by_cases h:262144<(kX xs 3).n
   ·rw[decide_eq_true h,cond_true];exact⟨iR _,by decide⟩
   ·rw[decide_eq_false h,cond_false];omega
  ·exact⟨iR _,(by decide:(0:Int)<=262144)⟩
 ·exact⟨iR _,(by decide:(0:Int)<=262144)⟩
def Lm(Z:Nat):Nat->Array Value
 |0=>#[.pointer (some ⟨Z+1+1,0,none⟩),.pointer (some ⟨Z,0,none⟩),.pointer (some ⟨Z+1+1+1,0,none⟩)]
 |1=>#[.pointer (some ⟨Z+1+1,0,none⟩)]
 |2=>#[.pointer (some ⟨Z+1+1,0,none⟩),.pointer (some ⟨Z+1+1+1,0,none⟩)]
 |3=>#[.pointer (some ⟨Z+1+1,0,none⟩),.pointer (some ⟨Z+1+1+1+1,0,none⟩)]
 |_=>#[.pointer (some ⟨Z+1+1,0,none⟩),.pointer (some ⟨Z+1+1+1+1,0,none⟩),.pointer (some ⟨Z+1+1+1+1+1,0,none⟩)]
def GE(Z:Nat):Obj:=.cells #[.func (.func 112) #[] (Lm Z 0),.func (.func 113) #[] (Lm Z 1),.func (.func 115) #[] (Lm Z 2),.func (.func 116) #[] (Lm Z 3),.func (.func 118) #[] (Lm Z 4)] 127
def Gz:Array Value:=#[.string ⟨#[]⟩,.string ⟨#[]⟩,.int .i64 0,.slice none 0 0,.string ⟨#[]⟩]
def nA(w:World)(s:ByteArray)(W:World):Prop:=Below w.heap.size w W/\W.heap[w.heap.size]?=some (.cells #[.string s] 9 (0,0))/\W.heap[w.heap.size+1]?=some (.cells Gz 74 (0,0))/\W.heap[w.heap.size+1+1+1+1+1+1]?=some (GE w.heap.size)
theorem nA.two{w:World}{s:ByteArray}{W W':World}{g h:Nat}(k:nA w s W)(t:gA g h W W')(hg:w.heap.size+2<=g)(hh:w.heap.size+2<=h)(N8:g<w.heap.size+6)(Xn:h<w.heap.size+6):nA w s W':=⟨k.1.trans (t.below (by omega) (by omega) k.1.size),t.keep k.2.1 (by omega) (by omega),t.keep k.2.2.1 (by omega) (by omega),t.keep k.2.2.2 (by omega) (by omega)⟩
def Lu(w:World)(H:LN)(m p:List UInt8)(v:Int)(fs:List aU)(kd fn:Int)(B:List UInt8)(u:Nat):Nat->World->Prop
 |0,W=>cB (w.heap.size+1+1) 201 ⟨#[]⟩ ⟨#[]⟩ none 0 0 0 (.string ⟨#[]⟩) (.string ⟨#[]⟩) 0 (.slice none 0 0) ⟨#[]⟩ W/\aq (w.heap.size+1+1+1) (.string ⟨#[]⟩) 9 W/\eh (w.heap.size+1+1+1+1) 0 0 W/\aq (w.heap.size+1+1+1+1+1) (.int .i64 0) 3 W
 |1,W=>cB (w.heap.size+1+1) 201 ⟨H.start.toArray⟩ ⟨H.rest.toArray⟩ none 0 0 H.long (.string ⟨#[]⟩) (.string ⟨#[]⟩) 0 (.slice none 0 0) ⟨#[]⟩ W/\aq (w.heap.size+1+1+1) (.string ⟨H.lines.toArray⟩) 9 W/\eh (w.heap.size+1+1+1+1) 0 0 W/\aq (w.heap.size+1+1+1+1+1) (.int .i64 0) 3 W
 |2,W=>cB (w.heap.size+1+1) 201 ⟨H.start.toArray⟩ ⟨H.rest.toArray⟩ none 0 0 H.long (.string ⟨m.toArray⟩) (.string ⟨p.toArray⟩) v (.slice none 0 0) ⟨#[]⟩ W/\aq (w.heap.size+1+1+1) (.string ⟨H.lines.toArray⟩) 9 W/\eh (w.heap.size+1+1+1+1) 0 0 W/\aq (w.heap.size+1+1+1+1+1) (.int .i64 0) 3 W
 |3,W=>∃A c,cB (w.heap.size+1+1) 201 ⟨H.start.toArray⟩ ⟨H.rest.toArray⟩ A fs.length c H.long (.string ⟨m.toArray⟩) (.string ⟨p.toArray⟩) v (.slice none 0 0) ⟨#[]⟩ W/\aM (w.heap.size+7) (.slice A fs.length c) fs W/\eh (w.heap.size+1+1+1+1) 0 0 W/\aq (w.heap.size+1+1+1+1+1) (.int .i64 0) 3 W
 |4,W=>∃A c,cB (w.heap.size+1+1) 201 ⟨H.start.toArray⟩ ⟨H.rest.toArray⟩ A fs.length c H.long (.string ⟨m.toArray⟩) (.string ⟨p.toArray⟩) v (.slice none 0 0) ⟨#[]⟩ W/\aM (w.heap.size+7) (.slice A fs.length c) fs W/\eh (w.heap.size+1+1+1+1) kd fn W/\aq (w.heap.size+1+1+1+1+1) (.int .i64 0) 3 W
 |_,W=>∃A c,cB (w.heap.size+1+1) 201 ⟨H.start.toArray⟩ ⟨H.rest.toArray⟩ A fs.length c H.long (.string ⟨m.toArray⟩) (.string ⟨p.toArray⟩) v (.slice none 0 0) ⟨B.toArray⟩ W/\aM (w.heap.size+7) (.slice A fs.length c) fs W/\aq (w.heap.size+1+1+1+1+1) (.int .i64 u) 3 W
def uu(R:oV)(A:Option Addr)(c:Nat):Value:=.agg #[.string ⟨R.method.toArray⟩,.string ⟨R.target.toArray⟩,.int .i64 R.minor,.slice A R.fields.length c,.string ⟨R.body.toArray⟩]
theorem J3{s:List UInt8}{R:oV}{u:Nat}(h:rl s=(R,u,0)):(aD s).err=0/\wQ (aD s).start=⟨R.method,R.target,R.minor,0⟩/\bn (aD s).lines=(R.fields,0)/\(cM R.fields).err=0/\dB (aD s).rest (aD s).long (cM R.fields) 65536=⟨R.body,u,0⟩:=by
 unfold rl at h;simp only at h
 generalize aD s=H at*;by_cases h1:H.err=0
 ·rw[show(H.err !=0)=false from by simp;exact h1,cond_false]at h;generalize wQ H.start=L at*;by_cases h2:L.err=0
  ·rw[show(L.err !=0)=false from by simp;exact h2,cond_false]at h;generalize bn H.lines=p at*;by_cases h3:p.2=0
   ·rw[show(p.2 !=0)=false from by simp;exact h3,cond_false]at h;by_cases h4:(cM p.1).err=0
    ·rw[show((cM p.1).err !=0)=false from by simp;exact h4,cond_false]at h;generalize hb:dB H.rest H.long (cM p.1) 65536=b at*;by_cases h5:b.err=0
     ·rw[show(b.err !=0)=false from by simp;exact h5,cond_false]at h;obtain⟨p1,p2⟩:=p;obtain⟨b1,b2,b3⟩:=b;obtain⟨l1,l2,l3,l4⟩:=L;simp only at h1 h2 h3 h4 h5 h hb
      injection h with h6 h7
      injection h7 with h7 _
      subst h6 h7 h2 h3 h5;exact⟨h1,rfl,rfl,h4,hb⟩
     ·rw[show(b.err !=0)=true from by simp;exact h5,cond_true]at h;injection h with _ h;injection h with _ h;exact absurd h h5
    ·rw[show((cM p.1).err !=0)=true from by simp;exact h4,cond_true]at h;injection h with _ h;injection h with _ h;exact absurd h h4
   ·rw[show(p.2 !=0)=true from by simp;exact h3,cond_true]at h;injection h with _ h;injection h with _ h;exact absurd h h3
  ·rw[show(L.err !=0)=true from by simp;exact h2,cond_true]at h;injection h with _ h;injection h with _ h;exact absurd h h2
 ·rw[show(H.err !=0)=true from by simp;exact h1,cond_true]at h;injection h with _ h;injection h with _ h;exact absurd h h1
theorem Gq(w:World)(s:ByteArray)(R:oV)(u:Nat)(hM:cq w)(hE:gD w)(hs:s.size<=140737488351232)(h:rl s.data.toList=(R,u,0))(k:Nat)(W:World)(hk:k<5)(hI:nA w s W/\w.heap.size+7<=W.heap.size/\Lu w (aD s.data.toList) R.method R.target R.minor R.fields (cM R.fields).kind (cM R.fields).n R.body u k W):Calls Tryz.prog (MD k) (Lm w.heap.size k) W λe w'=>e=.returned (.int .i64 0)/\True/\((0:Int)=0->nA w s w'/\w.heap.size+7<=w'.heap.size/\Lu w (aD s.data.toList) R.method R.target R.minor R.fields (cM R.fields).kind (cM R.fields).n R.body u (k+1) w'):=by
 obtain⟨h1,h2,h3,h4,h5⟩:=J3 h;obtain⟨Nd,ND,PB⟩:=hI;have VS:cq W:=hM.below Nd.1;have hEz:gD W:=hE.below Nd.1;have YS:=hM.1;obtain⟨l1,l2,l3,l4⟩:=zq s.data.toList;rw[<-aY]at l3;have S_:k=0\/k=1\/k=2\/k=3\/k=4:=by omega
 rcases S_ with rfl|rfl|rfl|rfl|rfl
 ·obtain⟨a1,a2,a3,a4⟩:=PB;refine(JD _ _ _ _ _ _ _ _ _ _ _ _ _ _ s _ W VS (by omega) hs (by omega) a1 Nd.2.1 a2).mono ?_;rintro e w' ⟨rfl,t,q1,q2⟩;rw[h1]at q2;rw[h1];exact⟨rfl,trivial,λ_=>⟨Nd.two t (by omega) (by omega) (by omega) (by omega),bj ND t.2.2.2.1,q2 rfl,q1,t.keep a3 (by omega) (by omega),t.keep a4 (by omega) (by omega)⟩⟩
 ·obtain⟨a1,a2,a3,a4⟩:=PB;refine(JN _ _ _ _ _ _ _ _ _ _ _ _ R.method R.target R.minor W VS h2 a1).mono ?_;rintro e w' ⟨rfl,t,q1⟩;have t:=gA.of_gb (h:=w.heap.size+2) t;exact⟨rfl,trivial,λ_=>⟨Nd.two t (by omega) (by omega) (by omega) (by omega),bj ND t.2.2.2.1,q1,t.keep a2 (by omega) (by omega),t.keep a3 (by omega) (by omega),t.keep a4 (by omega) (by omega)⟩⟩
 ·obtain⟨a1,a2,a3,a4⟩:=PB;refine(Kl _ _ _ _ _ _ _ _ _ _ _ _ _ _ W VS (by rw[aR];omega) a1 a2).mono ?_;rw[bq,h3];rintro e w' ⟨rfl,t,A2,c2,q1,q2⟩;have t:=gA.of_gb (h:=w.heap.size+2) t;exact⟨rfl,trivial,λ_=>⟨Nd.two t (by omega) (by omega) (by omega) (by omega),bj ND t.2.2.2.1,A2,c2,q1,q2.base ND,t.keep a3 (by omega) (by omega),t.keep a4 (by omega) (by omega)⟩⟩
 ·obtain⟨A2,c2,a1,a2,a3,a4⟩:=PB;refine(Ju _ _ _ _ _ _ _ _ _ _ _ _ _ _ _ R.fields W hEz (by have:=sy (aD s.data.toList).lines;rw[h3]at this;exact this) a1 a3 a2.rd.2).mono ?_;rw[h4];rintro e w' ⟨rfl,t,q1⟩;have t:=gA.of_gb2 (g:=w.heap.size+1+1+1+1) t;exact⟨rfl,trivial,λ_=>⟨Nd.two t (by omega) (by omega) (by omega) (by omega),bj ND t.2.2.2.1,A2,c2,t.keep a1 (by omega) (by omega),a2.two t (by omega) (by omega),q1,t.keep a4 (by omega) (by omega)⟩⟩
 ·obtain⟨A2,c2,a1,a2,a3,a4⟩:=PB;refine(JC _ _ _ _ _ _ (aD s.data.toList).long _ _ _ _ _ _ _ _ _ _ (cM R.fields).err W VS (by rw[aR];omega) (by omega) (Hg _) (by omega) a1 a3 a4).mono ?_
  ·rw[bq];rw[show(⟨(cM R.fields).kind,(cM R.fields).n,(cM R.fields).err⟩:JJ)=cM R.fields from rfl,h5];rintro e w' ⟨rfl,t,q1,q2⟩;exact⟨rfl,trivial,λ_=>⟨Nd.two t (by omega) (by omega) (by omega) (by omega),bj ND t.2.2.2.1,A2,c2,q1,a2.two t (by omega) (by omega),q2⟩⟩
theorem Ky(s:ByteArray)(R:oV)(u:Nat)(w:World)(hM:cq w)(hE:gD w)(hs:s.size<=140737488351232)(h:rl s.data.toList=(R,u,0)):Calls Tryz.prog 73 #[.string s] w λe w'=>∃A c,e=.returned (.tuple #[uu R A c,.int .i64 u,.int .i64 0])/\aM w.heap.size (.slice A R.fields.length c) R.fields w'/\Below w.heap.size w w':=by
 have VT:=wG;obtain⟨W0,Nb,Nm,hz,q0,q1,q2,q3,q4,q5,q6⟩:=Hh w (.cells #[.string s] 9) (.cells Gz 74) (.cells #[.string ⟨#[]⟩,.string ⟨#[]⟩,.slice none 0 0,.int .i64 0,.string ⟨#[]⟩,.string ⟨#[]⟩,.int .i64 0,.slice none 0 0,.string ⟨#[]⟩] 201) BF Jb Ag (GE w.heap.size)
 have k1:=CD (w.heap.size+1+1+1+1+1+1) (Lm w.heap.size) (fun _=>0) (fun k W=>nA w s W/\w.heap.size+7<=W.heap.size/\Lu w (aD s.data.toList) R.method R.target R.minor R.fields (cM R.fields).kind (cM R.fields).n R.body u k W) (fun _=>True) (fun k W hI j hj=>by
   have hq:=hI.1.2.2.2;have hj5:j=0\/j=1\/j=2\/j=3\/j=4:=by omega
   rcases hj5 with rfl|rfl|rfl|rfl|rfl<;>exact(ab hq _).1) (λk W hk hI=>Gq w s R u hM hE hs h k W hk hI) W0 ⟨⟨Nm,q0,q1,q6⟩,by omega,q2,q3,q4,q5⟩ trivial
 obtain⟨K1,Nl⟩:=az k1 Nb;clear k1 Nb q0 q1 q2 q3 q4 q5 q6;unfold GE Gz at Nl;simp only[Lm]at Nl;go_enter Tryz.func73,Tryz.ntmps73
 go_wp2_with fail
 rw[Nl.out];refine K1.out.mono ?_;rintro e W ⟨er,rfl,-,hh⟩;rcases hh with⟨rfl,-,hI⟩|⟨Ng,k,-,hk,-⟩
 ·obtain⟨⟨hB,-,qr,-⟩,ND,A,c,h1,ho,h2⟩:=hI;have c2:=h1.cells.2.2.1;have c7:=h1.cells.2.2.2.2.2.2.2.1;have c7f:=h1.free 7;obtain⟨W1,Ne⟩:=aH (W.setCell ⟨w.heap.size+1+1,7,none⟩ (.slice A R.fields.length c));have h3:cB (w.heap.size+1+1) 201 ⟨(aD s.data.toList).start.toArray⟩ ⟨(aD s.data.toList).rest.toArray⟩ A R.fields.length c (aD s.data.toList).long (.string ⟨R.method.toArray⟩) (.string ⟨R.target.toArray⟩) R.minor (.slice A R.fields.length c) ⟨R.body.toArray⟩ W1:=by rw[<-Ne];exact ar h1
  have t1:gA (w.heap.size+1+1) (w.heap.size+1+1) W W1:=by rw[<-Ne];exact gA.of_gb (al _ _ _ _)
  have Qy:=t1.keep (b:=w.heap.size+1) qr (by omega) (by omega);have u0:=(aq.cell (t1.keep h2 (by omega) (by omega))).1;obtain⟨-,-,-,-,e4,e5,e6,e7,e8⟩:=h3.cells;have r0:=aS Qy 0;have r0f:=(ab Qy 0).2.1;have r1:=aS Qy 1;have r1f:=(ab Qy 1).2.1;have r2:=aS Qy 2;have r2f:=(ab Qy 2).2.1;have r3:=aS Qy 3;have V5:=(ab Qy 3).2.1;have r4:=aS Qy 4;have r4f:=(ab Qy 4).2.1;have NC:=ah Ne;clear K1 Nl Ne;go_upto_region 9 with(fail)
  rw[NC.out];go_region
  go_wp2;obtain⟨D,hD⟩:=aH ((((((W1.setCell ⟨w.heap.size+1,0,none⟩ (.string ⟨R.method.toArray⟩)).setCell ⟨w.heap.size+1,1,none⟩ (.string ⟨R.target.toArray⟩)).setCell ⟨w.heap.size+1,2,none⟩ (.int .i64 R.minor)).setCell ⟨w.heap.size+1,3,none⟩ (.slice A R.fields.length c)).setCell ⟨w.heap.size+1,4,none⟩ (.string ⟨R.body.toArray⟩)).drew)
  have tD:gA (w.heap.size+1) (w.heap.size+1) W1 D:=by have t:=((((gA.of_gb (h:=w.heap.size+1) (al W1 (w.heap.size+1) 0 (.string ⟨R.method.toArray⟩))).trans (gA.of_gb (al _ _ 1 (.string ⟨R.target.toArray⟩)))).trans (gA.of_gb (al _ _ 2 (.int .i64 R.minor)))).trans (gA.of_gb (al _ _ 3 (.slice A R.fields.length c)))).trans (gA.of_gb (al _ _ 4 (.string ⟨R.body.toArray⟩)));rw[<-hD];exact⟨t.1,t.2.1,t.2.2.1,t.2.2.2.1,t.2.2.2.2⟩
  have hr:D.heap[w.heap.size+1]?=some (.cells #[.string ⟨R.method.toArray⟩,.string ⟨R.target.toArray⟩,.int .i64 R.minor,.slice A R.fields.length c,.string ⟨R.body.toArray⟩] 74 (0,0)):=by rw[<-hD];exact ar (ar (ar (ar (ar Qy))))
  have b0:=aS hr 0;have b1:=aS hr 1;have b2:=aS hr 2;have b3:=aS hr 3;have b4:=aS hr 4;have Vm:Below w.heap.size w D:=(hB.trans (t1.below (by omega) (by omega) hB.size)).trans (tD.below (by omega) (by omega) (by have:=t1.2.2.2.1;omega));have hoD:aM w.heap.size (.slice A R.fields.length c) R.fields D:=((ho.two t1 (by omega) (by omega)).two tD (by omega) (by omega)).base (by omega);rw[hD];clear hD r0 r1 r2 r3 r4 r0f r1f r2f V5 r4f e4 e5 e6 e7 e8;refine bodyPost_ret_by (v:=.tuple #[uu R A c,.int .i64 u,.int .i64 0]) ?_ rfl ⟨A,c,rfl,hoD,Vm⟩;unfold uu;simp[results,Tryz.results73,go_sem,b0,b1,b2,b3,b4]
 ·exact absurd hk.symm Ng
theorem Gc(w:World)(o0 o1 o2 o3 o4 o5 o6 o7:Obj):∃W,(((((((w.alloc o0).alloc o1).alloc o2).alloc o3).alloc o4).alloc o5).alloc o6).alloc o7=W/\Below w.heap.size w W/\W.heap.size=w.heap.size+8/\W.heap[w.heap.size]?=some o0/\W.heap[w.heap.size+1]?=some o1/\W.heap[w.heap.size+1+1]?=some o2/\W.heap[w.heap.size+1+1+1]?=some o3/\W.heap[w.heap.size+1+1+1+1]?=some o4/\W.heap[w.heap.size+1+1+1+1+1]?=some o5/\W.heap[w.heap.size+1+1+1+1+1+1]?=some o6/\W.heap[w.heap.size+1+1+1+1+1+1+1]?=some o7:=by
 refine⟨_,rfl,(((((((((aO _ w).alloc (aw _) _).alloc (by simp) _).alloc (by simp;omega) _).alloc (by simp;omega) _).alloc (by simp;omega) _).alloc (by simp;omega) _).alloc (by simp;omega) _).alloc (by simp;omega) _),by simp,?_,?_,?_,?_,?_,?_,?_,?_⟩
 all_goals
  show((((((((w.heap.push o0).push o1).push o2).push o3).push o4).push o5).push o6).push o7)[_]?=_
  simp only[Array.getElem?_push,Array.size_push]
  repeat rw[if_neg (by omega)]
  exact if_pos trivial
theorem IC(s:List UInt8):-1000000<=(ce s).status/\(ce s).status<=1000000:=by
 unfold ce
 cases decide (2048<s.length)
 ·rw[cond_false];simp only
  generalize Lib.cut s [32]=c1;generalize Lib.cut c1.2.1 [32]=c2;by_cases h3:c2.1.length=3
  ·generalize jt _ c1.1=v
   cases v.2==0
   ·rw[cond_false];(show(-1000000:Int)<=0/\(0:Int)<=1000000;decide)
   ·rw[cond_true];obtain⟨d,q1,q2⟩:=c2;simp only at h3 ⊢
    match d,h3 with
    | [x,y,z],_=>
     have e:cx [x,y,z]=10*(10*(10*0+(x.toNat-48))+(y.toNat-48))+(z.toNat-48):=rfl;rw[e];have:=x.toNat_lt;have:=y.toNat_lt;have:=z.toNat_lt;omega
  ·have hb:(c2.1.length !=3)=true:=by simp;exact h3
   rw[hb];simp only[Bool.or_true,iY];rw[pu];(show(-1000000:Int)<=0/\(0:Int)<=1000000;decide)
 ·(show(-1000000:Int)<=0/\(0:Int)<=1000000;decide)
def La(Z:Nat):Nat->Array Value
 |0=>#[.pointer (some ⟨Z+1+1+1,0,none⟩),.pointer (some ⟨Z,0,none⟩),.pointer (some ⟨Z+1+1+1+1,0,none⟩)]
 |1=>#[.pointer (some ⟨Z+1+1+1,0,none⟩)]
 |2=>#[.pointer (some ⟨Z+1+1+1,0,none⟩),.pointer (some ⟨Z+1+1+1+1,0,none⟩)]
 |3=>#[.pointer (some ⟨Z+1+1+1,0,none⟩),.pointer (some ⟨Z+1,0,none⟩),.pointer (some ⟨Z+1+1+1+1+1,0,none⟩)]
 |_=>#[.pointer (some ⟨Z+1+1+1,0,none⟩),.pointer (some ⟨Z+1+1+1+1+1,0,none⟩),.pointer (some ⟨Z+1+1+1+1+1+1,0,none⟩)]
def Ij(Z:Nat):Obj:=.cells #[.func (.func 49) #[] (La Z 0),.func (.func 51) #[] (La Z 1),.func (.func 53) #[] (La Z 2),.func (.func 55) #[] (La Z 3),.func (.func 57) #[] (La Z 4)] 127
def C6:Array Value:=#[.int .i64 0,.string ⟨#[]⟩,.int .i64 0,.slice none 0 0,.string ⟨#[]⟩]
def rG(w:World)(s:ByteArray)(hd:Bool)(W:World):Prop:=(Below w.heap.size w W/\W.heap[w.heap.size+1+1]?=some (.cells C6 41 (0,0))/\w.heap.size+8<=W.heap.size)/\W.heap[w.heap.size]?=some (.cells #[.string s] 9 (0,0))/\W.heap[w.heap.size+1]?=some (.cells #[.bool hd] 4 (0,0))/\W.heap[w.heap.size+1+1+1+1+1+1+1]?=some (Ij w.heap.size)
theorem rG.two{w:World}{s:ByteArray}{hd:Bool}{W W':World}{g h:Nat}(k:rG w s hd W)(t:gA g h W W')(hg:w.heap.size+3<=g)(hh:w.heap.size+3<=h)(N8:g<w.heap.size+7)(Xn:h<w.heap.size+7):rG w s hd W':=⟨⟨k.1.1.trans (t.below (by omega) (by omega) k.1.1.size),t.keep k.1.2.1 (by omega) (by omega),bj k.1.2.2 t.2.2.2.1⟩,t.keep k.2.1 (by omega) (by omega),t.keep k.2.2.1 (by omega) (by omega),t.keep k.2.2.2 (by omega) (by omega)⟩
def MI(w:World)(H:LN)(L:FP)(fs:List aU)(kd fn:Int)(B:List UInt8)(u:Nat):Nat->World->Prop
 |0,W=>cB (w.heap.size+1+1+1) 122 ⟨#[]⟩ ⟨#[]⟩ none 0 0 0 (.int .i64 0) (.string ⟨#[]⟩) 0 (.slice none 0 0) ⟨#[]⟩ W/\aq (w.heap.size+1+1+1+1) (.string ⟨#[]⟩) 9 W/\eh (w.heap.size+1+1+1+1+1) 0 0 W/\aq (w.heap.size+1+1+1+1+1+1) (.int .i64 0) 3 W
 |1,W=>cB (w.heap.size+1+1+1) 122 ⟨H.start.toArray⟩ ⟨H.rest.toArray⟩ none 0 0 H.long (.int .i64 0) (.string ⟨#[]⟩) 0 (.slice none 0 0) ⟨#[]⟩ W/\aq (w.heap.size+1+1+1+1) (.string ⟨H.lines.toArray⟩) 9 W/\eh (w.heap.size+1+1+1+1+1) 0 0 W/\aq (w.heap.size+1+1+1+1+1+1) (.int .i64 0) 3 W
 |2,W=>cB (w.heap.size+1+1+1) 122 ⟨H.start.toArray⟩ ⟨H.rest.toArray⟩ none 0 0 H.long (.int .i64 L.status) (.string ⟨L.words.toArray⟩) L.minor (.slice none 0 0) ⟨#[]⟩ W/\aq (w.heap.size+1+1+1+1) (.string ⟨H.lines.toArray⟩) 9 W/\eh (w.heap.size+1+1+1+1+1) 0 0 W/\aq (w.heap.size+1+1+1+1+1+1) (.int .i64 0) 3 W
 |3,W=>∃A c,cB (w.heap.size+1+1+1) 122 ⟨H.start.toArray⟩ ⟨H.rest.toArray⟩ A fs.length c H.long (.int .i64 L.status) (.string ⟨L.words.toArray⟩) L.minor (.slice none 0 0) ⟨#[]⟩ W/\aM (w.heap.size+8) (.slice A fs.length c) fs W/\eh (w.heap.size+1+1+1+1+1) 0 0 W/\aq (w.heap.size+1+1+1+1+1+1) (.int .i64 0) 3 W
 |4,W=>∃A c,cB (w.heap.size+1+1+1) 122 ⟨H.start.toArray⟩ ⟨H.rest.toArray⟩ A fs.length c H.long (.int .i64 L.status) (.string ⟨L.words.toArray⟩) L.minor (.slice none 0 0) ⟨#[]⟩ W/\aM (w.heap.size+8) (.slice A fs.length c) fs W/\eh (w.heap.size+1+1+1+1+1) kd fn W/\aq (w.heap.size+1+1+1+1+1+1) (.int .i64 0) 3 W
 |_,W=>∃A c,cB (w.heap.size+1+1+1) 122 ⟨H.start.toArray⟩ ⟨H.rest.toArray⟩ A fs.length c H.long (.int .i64 L.status) (.string ⟨L.words.toArray⟩) L.minor (.slice none 0 0) ⟨B.toArray⟩ W/\aM (w.heap.size+8) (.slice A fs.length c) fs W/\aq (w.heap.size+1+1+1+1+1+1) (.int .i64 u) 3 W
def iv(R:lu)(A:Option Addr)(c:Nat):Value:=.agg #[.int .i64 R.status,.string ⟨R.reason.toArray⟩,.int .i64 R.minor,.slice A R.fields.length c,.string ⟨R.body.toArray⟩]
def Mc(s:List UInt8)(hd:Bool):Nat->Int
 |0=>(aD s).err
 |1=>(ce (aD s).start).err
 |2=>(bn (aD s).lines).2
 |3=>(cC (bn (aD s).lines).1 (ce (aD s).start).status hd).err
 |_=>(dB (aD s).rest (aD s).long (cC (bn (aD s).lines).1 (ce (aD s).start).status hd) 262144).err
def MA(w:World)(s:ByteArray)(hd:Bool)(k:Nat)(W:World):Prop:=rG w s hd W/\MI w (aD s.data.toList) (ce (aD s.data.toList).start) (bn (aD s.data.toList).lines).1 (cC (bn (aD s.data.toList).lines).1 (ce (aD s.data.toList).start).status hd).kind (cC (bn (aD s.data.toList).lines).1 (ce (aD s.data.toList).start).status hd).n (dB (aD s.data.toList).rest (aD s.data.toList).long (cC (bn (aD s.data.toList).lines).1 (ce (aD s.data.toList).start).status hd) 262144).body (dB (aD s.data.toList).rest (aD s.data.toList).long (cC (bn (aD s.data.toList).lines).1 (ce (aD s.data.toList).start).status hd) 262144).used k W
def MY(w W:World):Prop:=Below w.heap.size w W/\W.heap[w.heap.size+1+1]?=some (.cells C6 41 (0,0))/\w.heap.size+8<=W.heap.size
theorem FT(w:World)(s:ByteArray)(hd:Bool)(hM:cq w)(hE:gD w)(hs:s.size<=140737488351232)(k:Nat)(W:World)(hk:k<5)(hI:MA w s hd k W):Calls Tryz.prog (ME k) (La w.heap.size k) W λe w'=>e=.returned (.int .i64 (Mc s.data.toList hd k))/\MY w w'/\(Mc s.data.toList hd k=0->MA w s hd (k+1) w'):=by
 obtain⟨Nd,PB⟩:=hI;unfold MA;have VS:cq W:=hM.below Nd.1.1;have hEz:gD W:=hE.below Nd.1.1;have YS:=hM.1;have ND:=Nd.1.2.2;obtain⟨l1,l2,l3,l4⟩:=zq s.data.toList;rw[<-aY]at l3;have S_:k=0\/k=1\/k=2\/k=3\/k=4:=by omega
 rcases S_ with rfl|rfl|rfl|rfl|rfl
 ·obtain⟨a1,a2,a3,a4⟩:=PB;refine(JW _ _ _ _ _ _ _ _ _ _ _ _ _ _ s _ W VS (by omega) hs (by omega) a1 Nd.2.1 a2).mono ?_;rintro e w' ⟨rfl,t,q1,q2⟩;have st:=Nd.two t (by omega) (by omega) (by omega) (by omega);exact⟨rfl,st.1,λhz=>⟨st,q2 hz,q1,t.keep a3 (by omega) (by omega),t.keep a4 (by omega) (by omega)⟩⟩
 ·obtain⟨a1,a2,a3,a4⟩:=PB;refine(Kd _ _ _ _ _ _ _ _ _ _ _ _ W VS hEz (by rw[aR];omega) a1).mono ?_;rw[bq];rintro e w' ⟨rfl,t,q1⟩;have t:=gA.of_gb (h:=w.heap.size+3) t;have st:=Nd.two t (by omega) (by omega) (by omega) (by omega);exact⟨rfl,st.1,λ_=>⟨st,q1,t.keep a2 (by omega) (by omega),t.keep a3 (by omega) (by omega),t.keep a4 (by omega) (by omega)⟩⟩
 ·obtain⟨a1,a2,a3,a4⟩:=PB;refine(Kn _ _ _ _ _ _ _ _ _ _ _ _ _ _ W VS (by rw[aR];omega) a1 a2).mono ?_;rw[bq];rintro e w' ⟨rfl,t,A2,c2,q1,q2⟩;have t:=gA.of_gb (h:=w.heap.size+3) t;have st:=Nd.two t (by omega) (by omega) (by omega) (by omega);exact⟨rfl,st.1,λ_=>⟨st,A2,c2,q1,q2.base ND,t.keep a3 (by omega) (by omega),t.keep a4 (by omega) (by omega)⟩⟩
 ·obtain⟨A2,c2,a1,a2,a3,a4⟩:=PB;refine(Jg _ _ _ _ _ _ _ _ _ _ _ _ _ _ _ _ hd _ W hEz (sy _) (IC _) a1 a3 Nd.2.2.1 a2.rd.2).mono ?_;rintro e w' ⟨rfl,t,q1⟩;have t:=gA.of_gb2 (g:=w.heap.size+1+1+1+1+1) t;have st:=Nd.two t (by omega) (by omega) (by omega) (by omega);exact⟨rfl,st.1,λ_=>⟨st,A2,c2,t.keep a1 (by omega) (by omega),a2.two t (by omega) (by omega),q1,t.keep a4 (by omega) (by omega)⟩⟩
 ·obtain⟨A2,c2,a1,a2,a3,a4⟩:=PB;refine(JX _ _ _ _ _ _ (aD s.data.toList).long _ _ _ _ _ _ _ _ _ _ (cC (bn (aD s.data.toList).lines).1 (ce (aD s.data.toList).start).status hd).err W VS (by rw[aR];omega) (by omega) (I3 _ _ _) (by omega) a1 a3 a4).mono ?_;rw[bq];rintro e w' ⟨rfl,t,q1,q2⟩;have st:=Nd.two t (by omega) (by omega) (by omega) (by omega);exact⟨rfl,st.1,λ_=>⟨st,A2,c2,q1,a2.two t (by omega) (by omega),q2⟩⟩
theorem Gi{s:List UInt8}{hd:Bool}{er:Int}(Ng:er≠0)(h:∃k,k<5/\Mc s hd k=er/\∀j,j<k->Mc s hd j=0):ep s hd=(lu.none,0,er):=by
 obtain⟨k,hk,he,hj⟩:=h;unfold ep;simp only
 have S_:k=0\/k=1\/k=2\/k=3\/k=4:=by omega
 have hb:(er !=0)=true:=by simp;exact Ng
 have z:((0:Int)!=0)=false:=rfl;rcases S_ with rfl|rfl|rfl|rfl|rfl
 ·rw[show(aD s).err=er from he,hb,cond_true]
 ·rw[show(aD s).err=0 from hj 0 (by decide),z,cond_false,show(ce (aD s).start).err=er from he,hb,cond_true]
 ·rw[show(aD s).err=0 from hj 0 (by decide),z,cond_false,show(ce (aD s).start).err=0 from hj 1 (by decide),z,cond_false,show(bn (aD s).lines).2=er from he,hb,cond_true]
 ·rw[show(aD s).err=0 from hj 0 (by decide),z,cond_false,show(ce (aD s).start).err=0 from hj 1 (by decide),z,cond_false,show(bn (aD s).lines).2=0 from hj 2 (by decide),z,cond_false,show(cC (bn (aD s).lines).1 (ce (aD s).start).status hd).err=er from he,hb,cond_true]
 ·rw[show(aD s).err=0 from hj 0 (by decide),z,cond_false,show(ce (aD s).start).err=0 from hj 1 (by decide),z,cond_false,show(bn (aD s).lines).2=0 from hj 2 (by decide),z,cond_false,show(cC (bn (aD s).lines).1 (ce (aD s).start).status hd).err=0 from hj 3 (by decide),z,cond_false,show(dB (aD s).rest (aD s).long (cC (bn (aD s).lines).1 (ce (aD s).start).status hd) 262144).err=er from he,hb,cond_true]
theorem Fg{s:List UInt8}{hd:Bool}(h:∀k,k<5->Mc s hd k=0):ep s hd=(⟨(ce (aD s).start).status,(ce (aD s).start).words,(ce (aD s).start).minor,(bn (aD s).lines).1,(dB (aD s).rest (aD s).long (cC (bn (aD s).lines).1 (ce (aD s).start).status hd) 262144).body⟩,(dB (aD s).rest (aD s).long (cC (bn (aD s).lines).1 (ce (aD s).start).status hd) 262144).used,0):=by
 unfold ep;simp only
 have z:((0:Int)!=0)=false:=rfl;rw[show(aD s).err=0 from h 0 (by decide),z,cond_false,show(ce (aD s).start).err=0 from h 1 (by decide),z,cond_false,show(bn (aD s).lines).2=0 from h 2 (by decide),z,cond_false,show(cC (bn (aD s).lines).1 (ce (aD s).start).status hd).err=0 from h 3 (by decide),z,cond_false,show(dB (aD s).rest (aD s).long (cC (bn (aD s).lines).1 (ce (aD s).start).status hd) 262144).err=0 from h 4 (by decide),z,cond_false]
theorem yn(s:ByteArray)(hd:Bool)(w:World)(hM:cq w)(hE:gD w)(hs:s.size<=140737488351232):Calls Tryz.prog 23 #[.string s,.bool hd] w λe w'=>∃A c,e=.returned (.tuple #[iv (ep s.data.toList hd).1 A c,.int .i64 (ep s.data.toList hd).2.1,.int .i64 (ep s.data.toList hd).2.2])/\aM w.heap.size (.slice A (ep s.data.toList hd).1.fields.length c) (ep s.data.toList hd).1.fields w'/\Below w.heap.size w w':=by
 have VT:=wG;obtain⟨W0,Nb,Nm,hz,q0,q1,q2,q3,q4,q5,q6,q7⟩:=Gc w (.cells #[.string s] 9) (.cells #[.bool hd] 4) (.cells C6 41) (.cells #[.string ⟨#[]⟩,.string ⟨#[]⟩,.slice none 0 0,.int .i64 0,.int .i64 0,.string ⟨#[]⟩,.int .i64 0,.slice none 0 0,.string ⟨#[]⟩] 122) BF Jb Ag (Ij w.heap.size)
 have k1:=Cw (w.heap.size+1+1+1+1+1+1+1) (La w.heap.size) (Mc s.data.toList hd) (MA w s hd) (MY w) (fun k W hI j hj=>by
   have hq:=hI.1.2.2.2;have hj5:j=0\/j=1\/j=2\/j=3\/j=4:=by omega
   rcases hj5 with rfl|rfl|rfl|rfl|rfl<;>exact(ab hq _).1) (λk W hk hI=>FT w s hd hM hE hs k W hk hI) W0 ⟨⟨⟨Nm,q2,by omega⟩,q0,q1,q7⟩,q3,q4,q5,q6⟩ ⟨Nm,q2,by omega⟩
 obtain⟨V,hV⟩:=aH (ep s.data.toList hd);rw[hV];obtain⟨⟨st,rs,mi,fs,bo⟩,u,e0⟩:=V;obtain⟨K1,Nl,HV⟩:=bu k1 Nb hV;clear k1 Nb q0 q1 q2 q3 q4 q5 q6 q7 hM hE hV;unfold Ij C6 at Nl;simp only[La]at Nl;go_enter Tryz.func23,Tryz.ntmps23
 go_wp2_with fail
 rw[Nl.out];refine K1.out.mono ?_;rintro e W ⟨er,rfl,hG,hh⟩;clear K1 Nl;rcases hh with⟨rfl,NY,hI⟩|⟨Ng,hk⟩
 ·have hv:=Fg NY;rw[HV.out]at hv;injection hv with P5 Od
  injection P5 with g1 g2 g3 g4 g5
  injection Od with g6 g7
  subst g7;clear NY hG HV;obtain⟨⟨⟨hB,qr,ND⟩,-,-,-⟩,A,c,h1,ho,h2⟩:=hI;rw[<-g5,<-g1,<-g2,<-g3,<-g4]at h1;rw[<-g4]at ho;rw[<-g6]at h2;clear g1 g2 g3 g4 g5 g6;have c2:=h1.cells.2.2.1;have c7:=h1.cells.2.2.2.2.2.2.2.1;have c7f:=h1.free 7;obtain⟨W1,Ne⟩:=aH (W.setCell ⟨w.heap.size+1+1+1,7,none⟩ (.slice A fs.length c));have h3:cB (w.heap.size+1+1+1) 122 ⟨(aD s.data.toList).start.toArray⟩ ⟨(aD s.data.toList).rest.toArray⟩ A fs.length c (aD s.data.toList).long (.int .i64 st) (.string ⟨rs.toArray⟩) mi (.slice A fs.length c) ⟨bo.toArray⟩ W1:=by rw[<-Ne];exact ar h1
  have t1:gA (w.heap.size+1+1+1) (w.heap.size+1+1+1) W W1:=by rw[<-Ne];exact gA.of_gb (al _ _ _ _)
  have Qy:=t1.keep (b:=w.heap.size+1+1) qr (by omega) (by omega);have u0:=(aq.cell (t1.keep h2 (by omega) (by omega))).1;obtain⟨-,-,-,-,e4,e5,e6,e7,e8⟩:=h3.cells;have r0:=aS Qy 0;have r0f:=(ab Qy 0).2.1;have r1:=aS Qy 1;have r1f:=(ab Qy 1).2.1;have r2:=aS Qy 2;have r2f:=(ab Qy 2).2.1;have r3:=aS Qy 3;have V5:=(ab Qy 3).2.1;have r4:=aS Qy 4;have r4f:=(ab Qy 4).2.1;have NC:=ah Ne;clear Ne;go_upto_region 9 with(fail)
  rw[NC.out];go_region
  go_wp2;obtain⟨D,hD⟩:=aH ((((((W1.setCell ⟨w.heap.size+1+1,0,none⟩ (.int .i64 st)).setCell ⟨w.heap.size+1+1,1,none⟩ (.string ⟨rs.toArray⟩)).setCell ⟨w.heap.size+1+1,2,none⟩ (.int .i64 mi)).setCell ⟨w.heap.size+1+1,3,none⟩ (.slice A fs.length c)).setCell ⟨w.heap.size+1+1,4,none⟩ (.string ⟨bo.toArray⟩)).drew)
  have tD:gA (w.heap.size+1+1) (w.heap.size+1+1) W1 D:=by have t:=((((gA.of_gb (h:=w.heap.size+1+1) (al W1 (w.heap.size+1+1) 0 (.int .i64 st))).trans (gA.of_gb (al _ _ 1 (.string ⟨rs.toArray⟩)))).trans (gA.of_gb (al _ _ 2 (.int .i64 mi)))).trans (gA.of_gb (al _ _ 3 (.slice A fs.length c)))).trans (gA.of_gb (al _ _ 4 (.string ⟨bo.toArray⟩)));rw[<-hD];exact⟨t.1,t.2.1,t.2.2.1,t.2.2.2.1,t.2.2.2.2⟩
  have hr:D.heap[w.heap.size+1+1]?=some (.cells #[.int .i64 st,.string ⟨rs.toArray⟩,.int .i64 mi,.slice A fs.length c,.string ⟨bo.toArray⟩] 41 (0,0)):=by rw[<-hD];exact ar (ar (ar (ar (ar Qy))))
  have b0:=aS hr 0;have b1:=aS hr 1;have b2:=aS hr 2;have b3:=aS hr 3;have b4:=aS hr 4;have Vm:Below w.heap.size w D:=(hB.trans (t1.below (by omega) (by omega) hB.size)).trans (tD.below (by omega) (by omega) (by have:=t1.2.2.2.1;omega));have hoD:aM w.heap.size (.slice A fs.length c) fs D:=((ho.two t1 (by omega) (by omega)).two tD (by omega) (by omega)).base (by omega);rw[hD];clear hD r0 r1 r2 r3 r4 r0f r1f r2f V5 r4f e4 e5 e6 e7 e8;refine bodyPost_ret_by (v:=.tuple #[iv ⟨st,rs,mi,fs,bo⟩ A c,.int .i64 u,.int .i64 0]) ?_ rfl ⟨A,c,rfl,hoD,Vm⟩;unfold iv;simp[results,Tryz.results23,go_sem,b0,b1,b2,b3,b4]
 ·have hv:=Gi Ng hk;rw[HV.out]at hv;injection hv with P5 Od
  injection P5 with g1 g2 g3 g4 g5
  injection Od with g6 g7
  subst g1 g2 g3 g4 g5 g6 g7;clear hk HV;obtain⟨hB,qr,ND⟩:=hG;have hb:(e0 !=0)=true:=by simp;exact Ng
  have r0:=aS qr 0;have r0f:=(ab qr 0).2.1;have r1:=aS qr 1;have r1f:=(ab qr 1).2.1;have r2:=aS qr 2;have r2f:=(ab qr 2).2.1;have r3:=aS qr 3;have V5:=(ab qr 3).2.1;have r4:=aS qr 4;have r4f:=(ab qr 4).2.1;go_wp2;obtain⟨D,hD⟩:=aH (((((W.setCell ⟨w.heap.size+1+1,0,none⟩ (.int .i64 0)).setCell ⟨w.heap.size+1+1,1,none⟩ (.string ⟨#[]⟩)).setCell ⟨w.heap.size+1+1,2,none⟩ (.int .i64 0)).setCell ⟨w.heap.size+1+1,3,none⟩ (.slice none 0 0)).setCell ⟨w.heap.size+1+1,4,none⟩ (.string ⟨#[]⟩))
  have tD:gA (w.heap.size+1+1) (w.heap.size+1+1) W D:=by rw[<-hD];exact((((gA.of_gb (h:=w.heap.size+1+1) (al W (w.heap.size+1+1) 0 (.int .i64 0))).trans (gA.of_gb (al _ _ 1 (.string ⟨#[]⟩)))).trans (gA.of_gb (al _ _ 2 (.int .i64 0)))).trans (gA.of_gb (al _ _ 3 (.slice none 0 0)))).trans (gA.of_gb (al _ _ 4 (.string ⟨#[]⟩)))
  have hr:D.heap[w.heap.size+1+1]?=some (.cells #[.int .i64 0,.string ⟨#[]⟩,.int .i64 0,.slice none 0 0,.string ⟨#[]⟩] 41 (0,0)):=by rw[<-hD];exact ar (ar (ar (ar (ar qr))))
  have b0:=aS hr 0;have b1:=aS hr 1;have b2:=aS hr 2;have b3:=aS hr 3;have b4:=aS hr 4;have Vm:Below w.heap.size w D:=hB.trans (tD.below (by omega) (by omega) hB.size);rw[hD];clear hD r0 r1 r2 r3 r4 r0f r1f r2f V5 r4f;refine bodyPost_ret_by (v:=.tuple #[iv lu.none none 0,.int .i64 0,.int .i64 e0]) ?_ rfl ⟨none,0,rfl,aM.nil _ _,Vm⟩;unfold iv lu.none;simp[results,Tryz.results23,go_sem,b0,b1,b2,b3,b4]
end Go.Proofs.YtdbjnlkbhhebbaaGreatDoor
