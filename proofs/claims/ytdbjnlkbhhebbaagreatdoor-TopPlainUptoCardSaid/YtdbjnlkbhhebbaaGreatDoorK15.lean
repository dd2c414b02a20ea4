/- Top7, OpenFW, OpenCall, TabOf, ErrOf, DEnv. -/
import Derived.Test.YtdbjnlkbhhebbaaGreatDoorK01
import Derived.Test.YtdbjnlkbhhebbaaGreatDoorK02
import Derived.Test.YtdbjnlkbhhebbaaGreatDoorK03
import Derived.Test.YtdbjnlkbhhebbaaGreatDoorK08
import Derived.Test.YtdbjnlkbhhebbaaGreatDoorK10
import Derived.Test.YtdbjnlkbhhebbaaGreatDoorK14
import Derived.Lib.LaidU8
import Derived.MakeChecks
import Derived.Stop.LaidErr
set_option maxRecDepth 100000
set_option maxHeartbeats 16000000
set_option linter.all false
namespace Go.Proofs.YtdbjnlkbhhebbaaGreatDoor
open Go.ChangeShapes Go.WideShapes Go.RowKit
open Go.RowKit
open Go.RowKit Go.Shelf
theorem If(b:List UInt8):(ep b false).1.fields.length<=64/\∀f∈(ep b false).1.fields,fP f:=by
 have hg:=mQ (aD b).lines;unfold ep;simp only
 cases((aD b).err !=0)<;>simp only[cond_true,cond_false]
 case true=>exact⟨a_ _,λf hf=>by cases hf⟩
 cases((ce (aD b).start).err !=0)<;>simp only[cond_true,cond_false]
 case true=>exact⟨a_ _,λf hf=>by cases hf⟩
 cases((bn (aD b).lines).2 !=0)<;>simp only[cond_true,cond_false]
 case true=>exact⟨a_ _,λf hf=>by cases hf⟩
 cases((cC (bn (aD b).lines).1 (ce (aD b).start).status false).err !=0)<;>simp only[cond_true,cond_false]
 case true=>exact⟨a_ _,λf hf=>by cases hf⟩
 cases((dB (aD b).rest (aD b).long (cC (bn (aD b).lines).1 (ce (aD b).start).status false) 262144).err !=0)<;>simp only[cond_true,cond_false]
 case true=>exact⟨a_ _,λf hf=>by cases hf⟩
 exact⟨hg.2.1,hg.1⟩
theorem BO{s:List UInt8}(h:lZ s=true):ep s false=((ep s false).1,s.length,0):=by
 unfold lZ at h;rw[eA,beq_iff_eq,beq_iff_eq]at h;generalize ep s false=R at*;obtain⟨a,b,c⟩:=R;simp only at h
 rw[h.1,h.2]
theorem EA{s:List UInt8}{r:lu}(h:ep s false=(r,s.length,0)):lZ s=true:=by unfold lZ;rw[h];simp
theorem Ee:gd 41:=⟨by decide,by decide,by decide,by decide⟩
theorem AY:gd 38:=⟨by decide,by decide,by decide,by decide⟩
theorem wF(tg b:ByteArray)(A:Option Addr)(n c:Nat)(xs:List aU)(wt:Int)(f:Bool)(now:Int)(w:World)(hD:d9 w)(hT:dV w)(hE:gD w)(hM:cq w)(hr:Rd A n 2 (aJ xs) w)(hn:n<=350000)(hs:aE xs<=1050000)(Vx:tg.size<=2000000)(hb:b.size<=2000000)(h0:0<=now):Calls Tryz.prog 4 #[.agg #[.string tg,.slice A n c,.int .u32 wt,.string b,.bool f],.int .u64 now] w λe w'=>e=.returned (.bool true)/\Below w.heap.size w w':=by
 obtain⟨W0,Nb⟩:=bg w (.cells #[.string tg,.slice A n c,.int .u32 wt,.string b,.bool f] 38);have b0:=bm Nb;have x0:=dU Nb;obtain⟨W1,Ne⟩:=bg W0 (.cells #[.string tg,.slice A n c,.int .u32 wt,.string b,.bool f] 38);have b1:=bm Ne;have x1:=dU Ne;have y0:=x0;have Yv:=ae x0;have y1:=(b1.block _ Yv).trans x0;have B1:Below w.heap.size w W1:=bt b0 b1;have k1:=EE tg b A n c xs wt f W1 (hT.on B1) (hr.below B1) hn hs Vx;have c0:=aS x0 0;have c1:=aS x0 1;have c2:=aS x0 2;have c3:=aS x0 3;have c4:=aS x0 4;have d0:=aS y1 0;have d1:=aS y1 1;have d2:=aS y1 2;have d3:=aS y1 3;have d4:=aS y1 4;obtain⟨ak,hak⟩:=aH ((⟨(cm (wB tg.data.toList xs)).1.toArray⟩:ByteArray):ByteArray);rw[hak]at k1;obtain⟨Nl,NC,HX,K1,HR⟩:=gB Nb Ne (aB y1 x1) k1 hr;have QX:=ah B1;clear Nb Ne b0 b1 x0 x1 y0 y1 k1 hr;go_enter Tryz.func4,Tryz.ntmps4
 go_upto_region 1 with(fail)
 rw[Nl.out];go_upto_region 2 with(fail)
 rw[NC.out];go_upto_region 3 with(go_at_call 9;(with_reducible refine K1.out.mono ?_);rintro e w2 ⟨rfl,M9⟩)
 have e3:w2.cell? ⟨w.heap.size,3,none⟩=some (.string b):=(M9.cell (p:=⟨w.heap.size,3,none⟩) (ae HX.out.1)).trans d3;have B2:=bt B1 M9;have k2:=oA b w2 (hM.below B2) (hE.below B2) (by omega);generalize hRM:(ep b.data.toList false).1=RM at*;obtain⟨st,re,mi,ys,bo⟩:=RM;unfold iv at k2;simp only at k2
 have K2:=ah k2;clear k2 K1;go_wp2_with fail
 refine K2.out.mono ?_;rintro e w3 ⟨RA,RC,rfl,NN,Na⟩;obtain⟨Ob,Og⟩:=az NN (bt M9 Na);clear NN K2;obtain⟨W4,Oz⟩:=bg w3 (.cells #[.int .i64 st,.string ⟨re.toArray⟩,.int .i64 mi,.slice RA ys.length RC,.string ⟨bo.toArray⟩] 41);have b4:=bm Oz;have x4:=dU Oz;have r3:=aS x4 3;have hm:=If b.data.toList;rw[hRM]at hm;simp only at hm
 have Qh:∀f∈ys,f.1.length<=2048/\f.2.length<=2048:=λf hf=>by have h2:=of_decide_eq_false (hm.2 f hf).2;omega
 have kv:=cX RA ys.length RC ys ⟨jb.toArray⟩ W4 (Ob.out.rd.2.below b4) (by omega) (λf hf=>bj (Qh f hf).1 (by decide)) (by decide);rw[bq]at kv
 have QS:∀v∈af ys jb,v.length<=900000:=λv hv=>by obtain⟨f,hf,rfl⟩:=i_ hv;have:=(Qh f hf).2;omega
 obtain⟨KV,HVL,HGL,HM⟩:=bK kv QS Qh hm;clear kv QS Qh hm;obtain⟨Ri,HX4,Pz⟩:=bu Oz x4 (bt Og.out b4);clear Oz x4;go_upto_region 4 with(fail)
 rw[Ri.out];go_wp2_with fail
 refine KV.out.mono ?_;rintro e w5 ⟨a5,c5,rfl,P9,Ns⟩;have k6:=nx a5 (af ys jb).length c5 (af ys jb) ir w5 (hM.below (bt B1 (bt Pz.out Ns))) P9.rd.2 (by unfold af;have:=HM.out.1;simp;exact bj (List.length_filter_le _ _) (by omega)) HVL.out;obtain⟨K6,Pi⟩:=az k6 (bt Pz.out Ns);have B5:=bt B1 Pi.out;have r5:=(Ns.block _ (ae HX4.out)).trans HX4.out;clear k6 KV HVL P9 Ns;go_wp2_with fail
 refine K6.out.mono ?_;rintro e w6 ⟨rfl,NP⟩;obtain⟨kc,hKC⟩:=aH (vj (af ys jb) [100]);rw[hKC];obtain⟨q1,q2,q3,q4,q5,q6⟩:=kc;unfold Bk;simp only
 obtain⟨W7,Pt⟩:=bg w6 (.cells #[.bool q1,.bool q2,.bool q3,.bool q4,.int .i64 q5,.int .i64 q6] 45);have b7:=bm Pt;have x7:=dU Pt;have B67:=bt NP b7;have B7:=bt Pi.out B67;have r7:=(B67.block _ (ae r5)).trans r5;have v7:=(B7.block _ (ae HX.out.1)).trans HX.out.1;have l7:=(B7.block _ (ae HX.out.2)).trans HX.out.2
 have PX:∀f∈xs,f.1.length<=140737488355328/\f.2.length<=140737488355328:=λf hf=>by have:=bM hf;omega
 have kS:=BN W0.heap.size tg b A n c xs wt f W7 l7 (HR.out.below (bt B1 B7)) (by omega) PX (by omega) (by omega);obtain⟨sm,UL⟩:=aH (sF tg.size b.size xs);rw[UL]at kS;generalize hwh:lZ b.data.toList=wh at*;obtain⟨G,hG⟩:=aH (!sm||decide (ak.toList=[])||!wh||decide (st<200)||decide (st=304)||decide ((ys.length:Int)>50)||q3||f);have c0:=aS r7 0;have c3:=aS r7 3;have x2:=aS x7 2;have v4:=aS v7 4;obtain⟨TH,KS,HG,Vv,HWH,HKC⟩:=eN Pt kS hG UL hwh hKC;obtain⟨HV7,V7,HX7,Wl⟩:=bK v7 r7 x7 B7;clear Pt kS hG UL hwh hKC v7 r7 x7 l7 B7 B67 b7 K6 PX;go_upto_region 5 with(fail)
 rw[TH.out];go_cut [64] (λs wx=>s=.bool G/\Below W7.heap.size W7 wx)
 case first=>
  cases sm
  ·go_wp2_with (go_at_call 5;(with_reducible refine KS.out.mono ?_);rintro e wS ⟨rfl,Xh⟩)
   go_meet;exact⟨by rw[<-HG.out];rfl,Xh⟩
  ·go_wp2_with fail
   refine KS.out.mono ?_;rintro e wS ⟨rfl,Xh⟩;have s0:=(Xh.cell (p:=⟨w3.heap.size,0,none⟩) (ae V7.out)).trans c0;have s3:=(Xh.cell (p:=⟨w3.heap.size,3,none⟩) (ae V7.out)).trans c3;have s2:=(Xh.cell (p:=⟨w6.heap.size,2,none⟩) (ae HX7.out)).trans x2;have s4:=(Xh.cell (p:=⟨w.heap.size,4,none⟩) (ae HV7.out)).trans v4;have HBS:=ah Xh;clear Xh c0 c3 x2 v4 KS;have hg:=HG.out;clear HG;subst hg
   cases wh
   all_goals
    go_wp2_with fail
    all_goals
     go_meet;refine⟨?_,HBS.out⟩
     first
      |(simp[*];done)
      |(refine congrArg Value.bool ?_;rw[jj];rename_i hq;simp at hq;simp[hq];done)
 case rest=>
  obtain⟨rfl,hbC⟩:=hcut;have BC:=bt Wl.out hbC;have Bw:=bt B1 BC
  cases G
  case true=>
   have ka:=vV wc (hD.below Bw) (hT.on Bw) (hE.below Bw);have KA:=ah ka;have HBw:=ah Bw;clear ka BC Bw hbC;go_wp2_with (go_at_call 6;(with_reducible refine KA.out.mono ?_);rintro e w8 ⟨rfl,Oa⟩)
   go_ret;exact⟨rfl,bt HBw.out Oa⟩
  case false=>
   have hg:=HG.out;simp only[qV,Bool.not_eq_false',decide_eq_false_iff_not]at hg;obtain⟨⟨⟨⟨⟨⟨⟨g1,g2⟩,g3⟩,g4⟩,g5⟩,g6⟩,g7⟩,g8⟩:=hg;subst g1;subst g3;subst g7;subst g8;have vC:=(hbC.block _ (ae HV7.out)).trans HV7.out;have rC:=(hbC.block _ (ae V7.out)).trans V7.out;have K8:=ah (rJ wc);obtain⟨HBw,VC,RC⟩:=bu Bw vC rC;clear Bw BC hbC vC rC HG HX HX4 HX7 HV7 V7 Ob Nl NC Ri TH c0 c1 c2 c3 c4 d0 d1 d2 d3 d4 e3 r3 r5 M9 Na NP b4;go_upto_region 7 with(fail)
   go_wp2_with fail
   refine K8.out.mono ?_;rintro e w8 ⟨a8,c8,rfl,hr8,Oa⟩;have k9:=Lh (w0:=w) a8 c8 w8 hM hT hE (bt HBw.out Oa) hr8;have K9:=ah k9;clear k9 K8;go_wp2_with fail
   refine K9.out.mono ?_;rintro e w9 ⟨S,sb,bl,CA,cc,rfl,hl9,hS9,hzS,hO9,NL⟩;go_upto_region 10 with(fail)
   have S0:=Vv.out;unfold sF at S0;simp only[eA,decide_eq_true_eq]at S0;obtain⟨⟨m1,m2⟩,m3⟩:=S0;obtain⟨m4,m5⟩:=Ib m3
   have Qf:ep b.data.toList false=(⟨st,re,mi,ys,bo⟩,b.size,0):=by rw[BO HWH.out,hRM,<-aY]
   have Q4:=zR Qf (by rw[<-aY];omega);have Ng:(cm (wB tg.data.toList xs)).1≠[]:=λe=>g2 (by rw[dY,<-hak,bq];exact e)
   have hq:rl ak.data.toList=(q_ tg.data.toList xs,ak.size,0):=by rw[<-hak,bq,aR];exact Eo Ng
   have Xe:ak.size<=1000000:=by rw[<-hak,aR];exact bj (yR _) (by decide)
   obtain⟨Vu,Qo⟩:=IE tg.data.toList xs m4 m5;have B9:=bt (bt HBw.out Oa) NL;have v9:=((NL.block _ (bE (ae VC.out) Oa.size)).trans (Oa.block _ (ae VC.out))).trans VC.out;have r9:=((NL.block _ (bE (ae RC.out) Oa.size)).trans (Oa.block _ (ae RC.out))).trans RC.out;have q0:=aS v9 0;have q1:=aS v9 1;have q2:=aS v9 2;have q3:=aS v9 3;have q4:=aS v9 4;have K10:=ah (yk tg b A n c wt false w9);obtain⟨HL9,HS9,S8,HFIT,HQ,SS⟩:=eN hl9 hS9 hO9 Q4 hq Qf;obtain⟨HB9,V9,R9⟩:=bu B9 v9 r9;clear hl9 hS9 hO9 Q4 hq Qf B9 v9 r9 K9 KS x2 v4 NL Vv HWH Ng hRM hak g2 c0 c3 m3;go_wp2_with fail
   refine K10.out.mono ?_;rintro e w10 ⟨v10,rfl,SR,Un⟩;obtain⟨O,od,oc,rfl,hOh,Tp,Nr,Um⟩:=pR.head (n:=69) SR;clear SR K10;obtain⟨nw,hnw⟩:=aH (now % 137438953472);have TJ:0<=nw/\nw<=253402300799:=by omega
   have Yp:=(Un.block _ (ae HS9.out)).trans HS9.out;have hO10:=aQ.below S8.out Un;have hwS:w.heap.size<=S:=bj (bt HBw.out Oa).size hzS;have Q4:=HFIT.out
   have kd:=Hj (HL9.out.below Un) S tE CA cc O 0 70 od 0 nw oc b ak (q_ tg.data.toList xs) ⟨st,re,mi,ys,bo⟩ hD hT hE hwS Yp (fun W hk=>(aQ.rd (uN hO10 hk Yp)).2) ⟨by decide,by decide⟩ hOh Tp Nr HQ.out Xe rfl rfl Vu Qo (by show tg.data.toList.length<=_;rw[<-aY];omega) (by decide) rfl (by decide) (EP _ _ _ (by rw[<-aY];omega)) SS.out (by omega) ⟨g4,Int.le_trans Q4.st.2 (by decide)⟩ g5 (by show ys.length<=56;omega) (bj Q4.sum (by decide)) (bj (Nat.le_of_add_right_le Q4.re.2) (by decide)) Q4.body ⟨by decide,by decide⟩ ⟨by decide,TJ.1⟩ TJ (by
    have hk:(vj (af ys jb) [100]).esi=false:=by rw[HKC.out]
    have:=GV (dev:=[100]) rfl hk;show((st==200)&&(vj (af (aI ys) jb) [100]).esi)=false
    rw[this,jU]) (Gj SS.out m2 (by show ys.length<=50;omega) nw)
   have KD:=ah kd;have v10:=(Un.block _ (ae V9.out)).trans V9.out;have r10:=(Un.block _ (ae R9.out)).trans R9.out;have hnr:w3.heap.size≠S:=by have:=ae RC.out;have:=Oa.size;omega
   have YG:w.heap.size≠S:=by have:=ae VC.out;have:=Oa.size;omega
   obtain⟨V10,R10⟩:=az v10 r10;clear kd Yp hO10 Q4 v10 r10 V9 R9 S8 HS9 HL9 hOh Tp Nr Um HFIT HQ q0 q1 q2 q3 q4;go_wp2_with fail
   refine KD.out.mono ?_;rintro e w11 ⟨k',NE,put',rfl,ht,hl11,-,-,Zz,-⟩;have B11:Below w.heap.size w w11:=hl11.base;obtain⟨ND,got,YT,NT,an,au,ad,has⟩:=FX SS.out m2 (by show ys.length<=50;omega) g5 ht;obtain⟨-,rn,ru,rd,RK⟩:=ht.shape;have r11:=Zz.blk R10.out Ee hnr;have v11:=Zz.blk V10.out AY YG;rw[has,RK];rw[has]at NT;clear has RK ht;generalize k'.resp=resp at*;generalize k'.used=us at*;obtain⟨gs,gr,gm,gx,gb⟩:=got;simp only at NT
   have hrb:lZ resp.data.toList=true:=EA (by rw[<-aY];exact YT);obtain⟨W12,WG⟩:=bg w11 (.cells #[.string resp,.slice an au ad,.int .i64 us,.slice rn ru rd] 49);have ZU:=bm WG;have x12:=dU WG;have B12:=bt B11 ZU;have kr:=oA resp W12 (hM.below B12) (hE.below B12) (by omega);rw[hrb,YT]at kr;unfold iv at kr;simp only at kr
   have o0:=aS x12 0;obtain⟨HW12,KR,X12,HB12⟩:=bK WG kr x12 B12;obtain⟨R12,V12,HC⟩:=bu ((ZU.block _ (ae r11)).trans r11) ((ZU.block _ (ae v11)).trans v11) NT;clear WG kr x12 ZU B12 B11 r11 v11 NT YT hrb ND hl11 Zz KD HKC SS R10 V10 HGL HM HR;go_upto_region 11 with(fail)
   rw[HW12.out];go_wp2_with fail
   refine KR.out.mono ?_;rintro e w13 ⟨GA,gc,rfl,-,hb13⟩;obtain⟨W14,Wu⟩:=bg w13 (.cells #[.int .i64 gs,.string ⟨gr.toArray⟩,.int .i64 gm,.slice GA gx.length gc,.string ⟨gb.toArray⟩] 41);have b14:=bm Wu;have x14:=dU Wu;have YA:=bt hb13 b14;have B14:=bt HB12.out YA;have y14:=(YA.block _ (ae X12.out)).trans X12.out;have r14:=(YA.block _ (ae R12.out)).trans R12.out;have v14:=(YA.block _ (ae V12.out)).trans V12.out;have ka:=vV W14 (hD.below B14) (hT.on B14) (hE.below B14);have p1:=aS y14 1;have g0:=aS x14 0;have g1:=aS x14 1;have g4':=aS x14 4;have r0:=aS r14 0;have r1:=aS r14 1;have r4:=aS r14 4;have v3:=aS v14 3;obtain⟨HW14,KA,Zl⟩:=bu Wu ka B14;clear Wu ka B14 YA y14 r14 v14 x14 b14 hb13 o0 KR X12 R12 V12 HW12;go_upto_region 12 with(fail)
   rw[HW14.out];go_upto_region 14 with(fail)
   rcases HC.out with⟨ha,rfl⟩|⟨⟨aa,ca,ha⟩,⟨rfl,rfl,rfl⟩|⟨hg,rfl,rfl,rfl⟩⟩
   ·injection ha with VN TW Yl
    subst VN TW Yl;go_wp2_with (go_at_call 6;(with_reducible refine KA.out.mono ?_);rintro e w15 ⟨rfl,Uz⟩)
    go_ret;exact⟨rfl,bt Zl.out Uz⟩
   ·injection ha with VN TW Yl
    subst VN TW Yl;go_wp2_with (go_at_call 6;(with_reducible refine KA.out.mono ?_);rintro e w15 ⟨rfl,Uz⟩)
    go_ret;exact⟨rfl,bt Zl.out Uz⟩
   ·injection ha with VN TW Yl
    subst VN TW Yl;go_wp2_with (go_at_call 6;(with_reducible refine KA.out.mono ?_);rintro e w15 ⟨rfl,Uz⟩)
    all_goals
     go_ret;exact⟨rfl,bt Zl.out Uz⟩
section
variable {H:Type}{enc:TypeId × Value->H}{W:World}
def A7(f:aU):DataW H:=.agg [.lit (.string f.1),.lit (.string f.2)]
end
section
variable {H:Type}{enc:TypeId × Value->H}{W:World}
theorem AR{fuel:Nat}{cs:List Value}{x:DataW H × List MemPlace}(h:DataW.trod enc Tryz.prog W 0 (λ_=>true) true fuel 36 cs=some x):∃A n c xs,cs=[.slice A n c]/\Rd A n 2 (aJ xs) W/\(xs=[]\/∃spare,x.1=.slice (xs.map A7) spare):=by
 rcases Go.Deep.open_slice Tryz.underlying36 h with⟨rfl,rfl⟩|⟨a,len,cap,m,n,D,Pl,rfl,hb,hl,hm,YV,rfl,hi⟩
 ·exact⟨none,0,0,[],rfl,Rd.nil,Or.inl rfl⟩
 ·simp only[if_true]at YV;subst YV;have PF:Tryz.prog.cellsOf 70=2:=by kernel_rfl
  have Rz:Tryz.prog.cellsOf 9=1:=by kernel_rfl
  have key:∀i,i<len->∃f:aU,W.cell? (a.add (i*2))=some (.string ⟨f.1.toArray⟩)/\W.cell? (a.add (i*2+1))=some (.string ⟨f.2.toArray⟩)/\D i=.agg [.lit (.string f.1),.lit (.string f.2)]:=by
   intro i hi';obtain⟨cs',SB,ht⟩:=hi i (by omega);rw[PF]at SB;obtain⟨_,hlen,PB⟩:=World.cells?_some SB;obtain⟨ys,n',_,hx,_,hyl,hg⟩:=DataW.trod_struct Tryz.underlying70 ht;obtain⟨u,v,rfl⟩:=I6 cs' hlen;obtain⟨y0,y1,rfl⟩:=I6 ys hyl;have g0:DataW.trod enc Tryz.prog W 0 (λ_=>true) true n' 9 (([u,v].drop 0).take (Tryz.prog.cellsOf 9))=some y0:=hg 0 _ rfl;have g1:DataW.trod enc Tryz.prog W 0 (λ_=>true) true n' 9 (([u,v].drop 1).take (Tryz.prog.cellsOf 9))=some y1:=hg 1 _ rfl;rw[Rz]at g0 g1;obtain⟨s0,e0,z0,_⟩:=DataW.trod_string Tryz.underlying9 (cs:=[u]) (x:=y0) (by simpa using g0);obtain⟨s1,e1,z1,_⟩:=DataW.trod_string Tryz.underlying9 (cs:=[v]) (x:=y1) (by simpa using g1);have e0':u=.string s0:=(List.cons.inj e0).1;have e1':v=.string s1:=(List.cons.inj e1).1;subst e0';subst e1';subst z0;subst z1
   have a0:W.cell? ((a.add (i*2)).add 0)=some (.string s0):=PB 0 (by omega);have a1:W.cell? ((a.add (i*2)).add 1)=some (.string s1):=PB 1 (by omega);have hD:D i=.agg [.lit (.string s0.data.toList),.lit (.string s1.data.toList)]:=(Prod.mk.inj hx).1;clear hx g0 g1 e0 e1 PB SB ht hg;refine⟨(s0.data.toList,s1.data.toList),?_,?_,hD⟩
   ·rw[Go.Deep.add_add]at a0;show _=some (Value.string ⟨s0.data.toList.toArray⟩)
    rw[bN];exact a0
   ·rw[Go.Deep.add_add]at a1;show _=some (Value.string ⟨s1.data.toList.toArray⟩)
    rw[bN];exact a1
  obtain⟨xs,Q5,P4⟩:=wA len _ key;refine⟨some a,len,_,xs,rfl,⟨by rw[eI,Q5],λhn=>?_⟩,Or.inr ⟨(List.range (m-len)).map λj=>D (len+j),?_⟩⟩
  ·have WT:a.spot=none:=by
    have:=World.cell?_spot (P4 0 (by omega)).1;simpa[Addr.add]using this
   obtain⟨b,o,spot⟩:=a;simp only at WT
   subst WT;have e:∀j,(⟨b,o,none⟩:Addr).add j=⟨b,o+j,none⟩:=λj=>by unfold Addr.add;split<;>simp_all
   refine⟨b,o,rfl,?_,λj u hu=>?_⟩
   ·rcases ef b W.heap.size with h'|h'
    ·exact h'
    ·have:=(P4 0 (by omega)).1;simp[World.cell?,Addr.add,fy h']at this
   ·have hj:j<xs.length*2:=by have:=(mj.1 hu).1;rwa [eI]at this
    have hk:j / 2<xs.length:=by omega
    have h1:=P4 (j / 2) hk;have h2:=tR xs (j / 2) hk;rw[e,e]at h1;rcases Nat.mod_two_eq_zero_or_one j with h0|h0
    ·have ej:j / 2*2=j:=by omega
     rw[ej]at h1 h2;rw[h2.1]at hu
     cases hu
     exact h1.1
    ·have ej:j / 2*2+1=j:=by omega
     rw[ej]at h1 h2;rw[h2.2]at hu
     cases hu
     exact h1.2.1
  ·have e:(List.range len).map D=xs.map A7:=by
    apply List.ext_getElem
    ·rw[eE,List.length_range,eE,Q5]
    ·intro i h1 h2;rw[eE,List.length_range]at h1;rw[List.getElem_map,List.getElem_range,List.getElem_map];exact(P4 i (by omega)).2.2
   rw[<-e]
theorem En{base:Nat}{v:Value}{d:DataW H}{p:List MemPlace}(hv:Value.okWide Tryz.prog W .any base 38 v)(h:DataW.Trod enc Tryz.prog W 0 (λ_=>true) true 38 v d p):∃(tg b:ByteArray) (A:Option Addr) (n c:Nat) (xs:List aU) (wt:Int) (f:Bool) (sl y2 y4:DataW H),v=.agg #[.string tg,.slice A n c,.int .u32 wt,.string b,.bool f]/\Rd A n 2 (aJ xs) W/\d=.agg [.lit (.string tg.data.toList),sl,y2,.lit (.string b.data.toList),y4]/\(xs=[]\/∃spare,sl=.slice (xs.map A7) spare):=by
 obtain⟨cs,rfl,ND⟩:=okWide_struct Tryz.underlying38 hv;obtain⟨fuel,hf⟩:=h;obtain⟨l⟩:=cs;have hf':DataW.trod enc Tryz.prog W 0 (λ_=>true) true fuel 38 l=some (d,p):=hf;have hc5:Tryz.prog.cellsOf 38=5:=by kernel_rfl
 have SB:Tryz.prog.cellsOf 9=1:=by kernel_rfl
 have Pn:Tryz.prog.cellsOf 36=1:=by kernel_rfl
 have Uv:Tryz.prog.cellsOf 35=1:=by kernel_rfl
 have hcb:Tryz.prog.cellsOf 4=1:=by kernel_rfl
 obtain⟨ys,n',_,hx,QK,hyl,hg⟩:=DataW.trod_struct Tryz.underlying38 hf';obtain⟨c0,c1,c2,c3,c4,rfl⟩:=DQ l (QK.trans hc5);obtain⟨y0,y1,y2,y3,y4,rfl⟩:=DQ ys hyl;have g0:DataW.trod enc Tryz.prog W 0 (λ_=>true) true n' 9 (([c0,c1,c2,c3,c4].drop 0).take (Tryz.prog.cellsOf 9))=some y0:=hg 0 _ rfl;have g1:DataW.trod enc Tryz.prog W 0 (λ_=>true) true n' 36 (([c0,c1,c2,c3,c4].drop 1).take (Tryz.prog.cellsOf 36))=some y1:=hg 1 _ rfl;have g2:DataW.trod enc Tryz.prog W 0 (λ_=>true) true n' 35 (([c0,c1,c2,c3,c4].drop 2).take (Tryz.prog.cellsOf 35))=some y2:=hg 2 _ rfl;have g3:DataW.trod enc Tryz.prog W 0 (λ_=>true) true n' 9 (([c0,c1,c2,c3,c4].drop 3).take (Tryz.prog.cellsOf 9))=some y3:=hg 3 _ rfl;have g4:DataW.trod enc Tryz.prog W 0 (λ_=>true) true n' 4 (([c0,c1,c2,c3,c4].drop 4).take (Tryz.prog.cellsOf 4))=some y4:=hg 4 _ rfl;rw[SB]at g0 g3;rw[Pn]at g1
 rw[Uv]at g2;rw[hcb]at g4;have hd:d=.agg [y0.1,y1.1,y2.1,y3.1,y4.1]:=(Prod.mk.inj hx).1;obtain⟨s0,e0,z0,_⟩:=DataW.trod_string Tryz.underlying9 (cs:=[c0]) g0;obtain⟨A,n,c,xs,e1,hR,hl⟩:=AR (cs:=[c1]) g1;obtain⟨a2,e2,_⟩:=DataW.trod_int Tryz.underlying35 (cs:=[c2]) g2;obtain⟨s3,e3,z3,_⟩:=DataW.trod_string Tryz.underlying9 (cs:=[c3]) g3;obtain⟨b4,e4,_⟩:=DataW.trod_bool Tryz.underlying4 (cs:=[c4]) g4;have e0':=(List.cons.inj e0).1;have e1':=(List.cons.inj e1).1;have e2':=(List.cons.inj e2).1;have e3':=(List.cons.inj e3).1;have e4':=(List.cons.inj e4).1;subst e0';subst e1';subst e2';subst e3';subst e4';rw[z0,z3]at hd;exact⟨s0,s3,A,n,c,xs,a2,b4,y1.1,y2.1,y4.1,rfl,hR,hd,hl⟩
end
theorem oI{P:Program}{W:World}{name:String}{k:IntKind}{zs:List Int}{g:Nat}{t e:TypeId}{n:Nat}(hg:P.globalNamed name=some g)(hty:(P.globals[g]?).map (·.type)=some t)(ht:P.underlying t=some (.array n e))(he:P.underlying e=some (.int k))(hce:P.cellsOf e=1)(PO:P.cellsOf t=n)(h:Lib.VarReads P W name (Lib.tabData k zs)):Lib.TabIs P W name k zs:=by obtain⟨g',t',cs,fuel,p,hg',ht',UK,hd⟩:=h;obtain rfl:=lv (hg.symm.trans hg');obtain rfl:=lv (hty.symm.trans ht');unfold Lib.TabIs;rw[UK,<-Lib.cells_of_tab ht he hce PO hd]
theorem tq{P:Program}{w:World}{x:String × DataW Unit}:∀{l:List (String × DataW Unit)},x∈l->laidMet P l w->∃r,laidMet P (x::r) w
 | [],h,_=>by cases h
 |y::r,h,hl=>by
  rcases cZ.1 h with rfl|h
  ·exact⟨r,hl⟩
  ·exact tq h hl.tail
theorem zr: "*"++ "errors.errorString"= "*errors.errorString":=by decide
theorem Dv(u:TypeId)(h:Tryz.prog.typeName? 3 u=some "*errors.errorString"):u=439:=typeName_ptr_named (nm:= "errors.errorString") (by rw[zr];kernel_rfl) (by kernel_rfl) (by decide) u (by rw[zr];exact h)
def J9:String × DataW Unit:=("strconv.ErrSyntax",.iface "*errors.errorString" (.ptr (.agg [.lit (.string [105,110,118,97,108,105,100,32,115,121,110,116,97,120])])))
def Jo:String × DataW Unit:=("strconv.ErrRange",.iface "*errors.errorString" (.ptr (.agg [.lit (.string [118,97,108,117,101,32,111,117,116,32,111,102,32,114,97,110,103,101])])))
theorem Kt{W:World}{l:List (String × DataW Unit)}(hp:(l.all λx=>x.2.handleName?.isNone)=true)(h0:J9∈l)(h1:Jo∈l)(h:laidMetH Tryz.prog l W):gD W:=by
 rw[MakeChecks.laidMetH_plain _ _ _ hp]at h;obtain⟨r0,k0⟩:=tq h0 h;obtain⟨r1,k1⟩:=tq h1 h;have hce:Tryz.prog.cellsOf 441=1:=by kernel_rfl
 have SB:Tryz.prog.cellsOf 9=1:=by kernel_rfl
 obtain⟨a0,s0,hv0,-,-,-⟩:=laid_sentinel (g:=1) (ti:=156) k0 (by kernel_rfl) (by kernel_rfl) Tryz.underlying156 Dv Tryz.underlying439 Tryz.underlying441 rfl rfl Tryz.underlying9 hce SB;obtain⟨a1,s1,P5,-,-,-⟩:=laid_sentinel (g:=2) (ti:=156) k1 (by kernel_rfl) (by kernel_rfl) Tryz.underlying156 Dv Tryz.underlying439 Tryz.underlying441 rfl rfl Tryz.underlying9 hce SB;exact⟨⟨_,_,hv0⟩,_,_,P5⟩
theorem Kq{W:World}{l:List (String × DataW Unit)}(hp:(l.all λx=>x.2.handleName?.isNone)=true)(hm:("internal/strconv.uint64pow10",Lib.tabData .u64 Lib.pow10Tab)∈l)(h:laidMetH Tryz.prog l W):dV W:=by rw[MakeChecks.laidMetH_plain _ _ _ hp]at h;exact oI (g:=3) (by kernel_rfl) (by kernel_rfl) Tryz.underlying443 Tryz.underlying23 (by kernel_rfl) (by kernel_rfl) (Lib.laidMet.reads h hm)
theorem C1{w:World}(h:w.ShapedOpen Tryz.prog):cq w:=cq.of (Go.Proofs.cell_of_shapedOpen_int (zero:=#[.int .i64 0]) (t:=3) h (of_decide_eq_true (by kernel_rfl)) (by kernel_rfl) rfl (by kernel_rfl) (by kernel_rfl) Tryz.underlying3)
theorem vr{W:World}{l:List (String × DataW Unit)}(hp:(l.all λx=>x.2.handleName?.isNone)=true)(hm:("strings.asciiSpace",Lib.tabData .u8 Lib.asciiSpaceTab)∈l)(h:laidMetH Tryz.prog l W):Lib.TabIs Tryz.prog W "strings.asciiSpace" .u8 Lib.asciiSpaceTab:=by rw[MakeChecks.laidMetH_plain _ _ _ hp]at h;exact oI (g:=6) (by kernel_rfl) (by kernel_rfl) Tryz.underlying486 Tryz.underlying5 (by kernel_rfl) (by kernel_rfl) (Lib.laidMet.reads h hm)
theorem L2{P:Program}{w:World}{name:String}{k:IntKind}{zs:List Int}{g:Nat}(hg:P.globalNamed name=some g)(h:Lib.TabIs P w name k zs):g<w.heap.size:=by
 unfold Lib.TabIs World.var? at h;rw[hg]at h;rcases ef g w.heap.size with h'|h'
 ·exact h'
 ·simp[fy h']at h
theorem J5{W:World}{l:List (String × DataW Unit)}(hp:(l.all λx=>x.2.handleName?.isNone)=true)(hm:("strings.asciiSpace",Lib.tabData .u8 Lib.asciiSpaceTab)∈l)(h:laidMetH Tryz.prog l W)(XQ:W.ShapedOpen Tryz.prog):d9 W:=⟨C1 XQ,L2 (by kernel_rfl) (vr hp hm h),vr hp hm h⟩
end Go.Proofs.YtdbjnlkbhhebbaaGreatDoor
