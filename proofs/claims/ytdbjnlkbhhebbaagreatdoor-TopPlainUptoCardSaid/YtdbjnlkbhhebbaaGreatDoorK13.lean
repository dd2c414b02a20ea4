/- StorMay, VaryLen, Obt6, Sur8. -/
import Derived.Test.YtdbjnlkbhhebbaaGreatDoorK01
import Derived.Test.YtdbjnlkbhhebbaaGreatDoorK02
import Derived.Test.YtdbjnlkbhhebbaaGreatDoorK04
import Derived.Test.YtdbjnlkbhhebbaaGreatDoorK08
import Derived.Test.YtdbjnlkbhhebbaaGreatDoorK12
import Derived.WalkMore
import Derived.Lib.Join
set_option maxRecDepth 100000
set_option maxHeartbeats 16000000
set_option linter.all false
namespace Go.Proofs.YtdbjnlkbhhebbaaGreatDoor
open Go.RowKit
theorem Fd(me dev:ByteArray)(QA:Option Addr)(qn qc:Nat)(qs:List aU)(st mi asked got:Int)(re bo:ByteArray)(A V:Option Addr)(n c m d:Nat)(xs:List aU)(w:World)(hE:d9 w)(hq:Rd QA qn 2 (aJ qs) w)(Vu:qn<=100)(Qo:aE qs<=7500)(hr:Rd A n 2 (aJ xs) w)(hn:n<=100)(hs:aE xs<=7500)(hg:-9223372036854775808<=got/\got<=9223372036854775807):Calls Tryz.prog 230 #[.string me,.slice QA qn qc,dI st re mi A n c bo asked got V m d,.string dev] w λe w'=>e=.returned (.bool (Mk me.data.toList qs st xs got dev.data.toList))/\Below w.heap.size w w':=by
 obtain⟨Wa,hWa⟩:=bg w (.cells #[.string me] 9);have ba:=bm hWa;have za:Wa.heap.size=w.heap.size+1:=by rw[<-hWa];simp
 have xa:Wa.cell? ⟨w.heap.size,0,none⟩=some (.string me):=by rw[<-hWa];exact cK w _ _ _ 0
 obtain⟨Wb,Tf⟩:=bg Wa (.cells #[.slice QA qn qc] 36);have bb:=bm Tf;have zb:Wb.heap.size=w.heap.size+2:=by rw[<-Tf];simp[za]
 have xb:Wb.cell? ⟨w.heap.size+1,0,none⟩=some (.slice QA qn qc):=by rw[<-Tf,<-za];exact cK Wa _ _ _ 0
 obtain⟨Wc,hWc⟩:=bg Wb (.cells #[.int .i64 st,.string re,.int .i64 mi,.slice A n c,.string bo,.int .i64 asked,.int .i64 got,.slice V m d] 105);have bc:=bm hWc;have zc:Wc.heap.size=w.heap.size+3:=by rw[<-hWc];simp[zb]
 have xc:ms (w.heap.size+2) st re mi A n c bo asked got V m d Wc:=by rw[<-hWc];exact ay Wb _ _ zb
 obtain⟨W1,Ne⟩:=bg Wc (.cells #[.string dev] 9);have bd:=bm Ne;have zd:W1.heap.size=w.heap.size+4:=by rw[<-Ne];simp[zc]
 have xd:W1.cell? ⟨w.heap.size+3,0,none⟩=some (.string dev):=by rw[<-Ne,<-zc];exact cK Wc _ _ _ 0
 have b1:Below w.heap.size w W1:=bt (bt (bt ba bb) bc) bd;have ya:W1.cell? ⟨w.heap.size,0,none⟩=some (.string me):=(bd.cell (p:=⟨w.heap.size,0,none⟩) (by show w.heap.size<_;omega)).trans ((bc.cell (p:=⟨w.heap.size,0,none⟩) (by show w.heap.size<_;omega)).trans ((bb.cell (p:=⟨w.heap.size,0,none⟩) (by show w.heap.size<_;omega)).trans xa));have yb:W1.cell? ⟨w.heap.size+1,0,none⟩=some (.slice QA qn qc):=(bd.cell (p:=⟨w.heap.size+1,0,none⟩) (by show w.heap.size+1<_;omega)).trans ((bc.cell (p:=⟨w.heap.size+1,0,none⟩) (by show w.heap.size+1<_;omega)).trans xb);have yc:=xc.below bd;have hWW:(((w.alloc (.cells #[.string me] 9)).alloc (.cells #[.slice QA qn qc] 36)).alloc (.cells #[.int .i64 st,.string re,.int .i64 mi,.slice A n c,.string bo,.int .i64 asked,.int .i64 got,.slice V m d] 105)).alloc (.cells #[.string dev] 9)=W1:=by rw[hWa,Tf,hWc,Ne]
 have O4:=hr.fld;have Ti:=hq.fld;have hM:=hE.1;have k1:=λW(hb:Below w.heap.size w W)=>cX QA qn qc qs Bi W (hq.below hb) (by omega) (λf hf=>by have:=bM hf;omega) (by decide)
 have k3:=λW(hb:Below w.heap.size w W)=>cX A n c xs Bi W (hr.below hb) (by omega) (λf hf=>by have:=bM hf;omega) (by decide)
 have k5:=λW(hb:Below w.heap.size w W)=>cX A n c xs qE W (hr.below hb) (by omega) (λf hf=>by have:=bM hf;omega) (by decide)
 rw[show(Bi:ByteArray).data.toList=mJ from rfl]at k1 k3;rw[show(qE:ByteArray).data.toList=jb from rfl]at k5;have l1:=cD qs mJ;have l3:=cD xs mJ;have l5:=cD xs jb;have m1:∀v∈af qs mJ,v.length<=7500:=λv hv=>by have:=gM hv;omega
 have m3:∀v∈af xs mJ,v.length<=7500:=λv hv=>by have:=gM hv;omega
 have m5:∀v∈af xs jb,v.length<=7500:=λv hv=>by have:=gM hv;omega
 have k2:=λW(hb:Below w.heap.size w W)a c'(h:Rd a (af qs mJ).length 1 (aF (af qs mJ)) W)=>lC a (af qs mJ).length c' (af qs mJ) W (hM.below hb) h (by omega) (λv hv=>by have:=m1 v hv;omega)
 have k4:=λW(hb:Below w.heap.size w W)a c'(h:Rd a (af xs mJ).length 1 (aF (af xs mJ)) W)=>lC a (af xs mJ).length c' (af xs mJ) W (hM.below hb) h (by omega) (λv hv=>by have:=m3 v hv;omega)
 have k6:=λW(hb:Below w.heap.size w W)a c'(h:Rd a (af xs jb).length 1 (aF (af xs jb)) W)=>nx a (af xs jb).length c' (af xs jb) dev W (hM.below hb) h (by omega) (λv hv=>by have:=m5 v hv;omega)
 have d1:pM (xO qs):=⟨by have:=mg (af qs mJ);show(bD (af qs mJ)).length<=_;omega,λx hx=>by have:=(sf m1 x hx).2.2.2.2;omega⟩;have d2:pM (xO xs):=⟨by have:=mg (af xs mJ);show(bD (af xs mJ)).length<=_;omega,λx hx=>by have:=(sf m3 x hx).2.2.2.2;omega⟩;have e1:bD (af qs mJ)=xO qs:=rfl;have e3:bD (af xs mJ)=xO xs:=rfl;have e5:vj (af xs jb) dev.data.toList=oS xs dev.data.toList:=rfl;rw[e1]at k2;rw[e3]at k4;rw[e5]at k6;have hmay:Mk me.data.toList qs st xs got dev.data.toList=((me.data.toList==Gf)&&(Fz st&&(Dl qs xs dev.data.toList&&((bz xs).isSome&&(Dj qs xs dev.data.toList&&xS xs got dev.data.toList))))):=rfl;rw[hmay]
 have f0:=λW(hb:Below W1.heap.size W1 W)=>F7 w.heap.size me W ((hb.cell (p:=⟨w.heap.size,0,none⟩) (by show w.heap.size<_;omega)).trans ya)
 have f1:=λW(hb:Below W1.heap.size W1 W)=>Gv (w.heap.size+2) st mi asked got re bo A V n c m d W (yc.below hb)
 have f2:=λP1 P2 T a1 c1 a2 c2 W h1 h2 h2l h3 h4 h5=>Gd P1 P2 T a1 a2 (xO qs).length c1 (xO xs).length c2 (xO qs) (xO xs) (oS xs dev.data.toList) W h1 h2 h2l h3 h4 h5 d1 d2
 have f3:=λW(hb:Below W1.heap.size W1 W)=>IP (w.heap.size+2) st mi asked got re bo A V n c m d xs W (yc.below hb) ((hr.below b1).below hb) (by omega) (by omega)
 have f4:=λP2 T a2 c2 W(hb:Below W1.heap.size W1 W)h2 h2l h3 h5=>Hu (w.heap.size+1) P2 T QA a2 qn qc (xO xs).length c2 qs (xO xs) (oS xs dev.data.toList) W ((hb.cell (p:=⟨w.heap.size+1,0,none⟩) (by show w.heap.size+1<_;omega)).trans yb) h2 h2l h3 ((hq.below b1).below hb) (by omega) (by omega) h5 d2
 have f5:=λW(hb:Below W1.heap.size W1 W)=>Gp (w.heap.size+2) (w.heap.size+3) st mi asked got re bo dev A V n c m d xs W ((hE.below b1).below hb) (yc.below hb) ((hb.cell (p:=⟨w.heap.size+3,0,none⟩) (by show w.heap.size+3<_;omega)).trans xd) ((hr.below b1).below hb) hn hs hg
 have g2:(!ot (xO qs) [noStore]&&!ot (xO xs) [noStore,Av]&&!(oS xs dev.data.toList).noStore)=Dl qs xs dev.data.toList:=rfl;have g4:(!(c_ qs zO).2||ot (xO xs) [Gt,oZ,Al]||(oS xs dev.data.toList).hasAge)=Dj qs xs dev.data.toList:=rfl;rw[g2]at f2;rw[g4]at f4;have yE:=λW(hb:Below W1.heap.size W1 W)=>(yc.below hb).cells
 have yD:=λW(hb:Below W1.heap.size W1 W)=>(hb.cell (p:=⟨w.heap.size+3,0,none⟩) (by show w.heap.size+3<_;omega)).trans xd
 clear g2 g4 hmay e1 e3 e5 m1 m3 m5 d1 d2 hWa Tf hWc Ne ba bb bc bd za zb zc xa xb xc hq hr hs Qo hg hE hM O4 Ti;generalize (me.data.toList==Gf)=i0 at*;generalize Fz st=i1 at*;generalize Dl qs xs dev.data.toList=i2 at*;generalize (bz xs).isSome=i3 at*;generalize Dj qs xs dev.data.toList=i4 at*;generalize xS xs got dev.data.toList=i5 at*;generalize oS xs dev.data.toList=kk at*;generalize xO qs=dq at*;generalize xO xs=dx at*;generalize af qs mJ=v1 at*;generalize af xs mJ=v3 at*;generalize af xs jb=v5 at*;obtain⟨L,hL⟩:=aH (i0&&(i1&&(i2&&(i3&&(i4&&i5)))));rw[hL];have HL:=ah hL;obtain⟨K1,K2,K3,K4,K5',K6'⟩:=eN k1 k2 k3 k4 k5 k6;obtain⟨F0,F1,F2,F3,F4,F5⟩:=eN f0 f1 f2 f3 f4 f5;obtain⟨YE,YD,HWW,B1⟩:=bK yE yD hWW b1;clear hL k1 k2 k3 k4 k5 k6 f0 f1 f2 f3 f4 f5 yE yD hWW l1 l3 l5 xd yc;have hZ:w.heap.size+4=W1.heap.size:=zd.symm
 clear zd;have HZ:=ah hZ;clear hZ;unfold dI;go_enter Tryz.func230,Tryz.ntmps230
 go_wp2_with fail
 go_step3
 go_upto_region 1 with(fail)
 rw[HWW.out];go_wp2_with fail
 refine(K1.out _ B1.out).mono ?_;rintro e w1 ⟨a1,c1,rfl,Nr,M8⟩;have R1:=am (aQ.rd Nr).2;clear Nr;go_wp2_with fail
 refine(K2.out _ (bt B1.out M8) _ _ R1.out).mono ?_;rintro e w2 ⟨a2,c2,rfl,Nz,M9⟩;have Nk:=bt M8 M9;have R2:=am (eF.rd Nz).2;obtain⟨W3,NW⟩:=bg w2 (.cells #[.slice a2 dq.length c2] 77);have b3:=bm NW;have x3:W3.cell? ⟨w2.heap.size,0,none⟩=some (.slice a2 dq.length c2):=by rw[<-NW];exact cK w2 _ _ _ 0
 have z3:w2.heap.size<W3.heap.size:=by rw[<-NW];simp
 have Nu:=bt Nk b3;have R3:=ah (R2.out.below b3);obtain⟨Qk,X3⟩:=az NW x3;clear Nz NW R1 R2 yb x3 b3;obtain⟨c0,c1',c2',c3,c4,c5,c6,c7,_⟩:=YE.out W3 Nu;go_upto_region 2 with(fail)
 rw[Qk.out];go_wp2_with fail
 refine(K3.out _ (bt B1.out Nu)).mono ?_;rintro e w4 ⟨a4,c4',rfl,Tr,Nf⟩;have R4:=am (aQ.rd Tr).2;clear Tr c0 c1' c2' c3 c4 c5 c6 c7;go_wp2_with fail
 refine(K4.out _ (bt B1.out (bt Nu Nf)) _ _ R4.out).mono ?_;rintro e w5 ⟨a5,c5',rfl,P9,Ns⟩;have Uq:=bt Nf Ns;have Oh:=bt Nu Uq;have R5:=am (eF.rd P9).2;obtain⟨W6,N0⟩:=bg w5 (.cells #[.slice a5 dx.length c5'] 77);have b6:=bm N0;have x6:W6.cell? ⟨w5.heap.size,0,none⟩=some (.slice a5 dx.length c5'):=by rw[<-N0];exact cK w5 _ _ _ 0
 have z6:w5.heap.size<W6.heap.size:=by rw[<-N0];simp
 have Ue:=bt Uq b6;have Ow:=bt Nu Ue;have R6:=ah (R5.out.below b6);have R3':=ah (R3.out.below Ue);have X3':=ah ((Ue.cell (p:=⟨w2.heap.size,0,none⟩) z3).trans X3.out);have z3':=bE z3 Ue.size;obtain⟨PR,X6⟩:=az N0 x6;have k5:=λW(hb:Below W6.heap.size W6 W)=>K5'.out W (bt (bt B1.out Ow) hb)
 have k6:=λW(hb:Below W6.heap.size W6 W)a c' h=>K6'.out W (bt (bt B1.out Ow) hb) a c' h
 have kc:∀w',Below W6.heap.size W6 w'->w'.cell? ⟨w.heap.size+2,3,none⟩=some (.slice A n c)/\w'.cell? ⟨w.heap.size+3,0,none⟩=some (.string dev)/\Below W6.heap.size W6 w':=λw' h=>by obtain⟨_,_,_,g3,_⟩:=YE.out w' (bt Ow h);exact⟨g3,YD.out w' (bt Ow h),h⟩
 clear P9 N0 R5 R3 R4 X3 x6 b6 M8 M9 Nk Nf Ns Uq Oh Ue z3;obtain⟨o0,o1,o2,o3,o4,o5⟩:=kk;unfold Bk at k6;simp only at k6
 obtain⟨K5,K6,KC⟩:=bu k5 k6 kc;clear k5 k6 kc;have PD:Below W6.heap.size W6 W6.drew:=(aO _ _).drew;go_upto_region 3 with(fail)
 rw[PR.out];go_cut [11] (λs11 wx=>∃T:Nat,s11=.pointer (some ⟨T,0,none⟩)/\Hid (bI T ⟨o0,o1,o2,o3,o4,o5⟩ wx)/\W6.heap.size<=T/\Below W6.heap.size W6 wx)
 case first=>
  go_wp2_with fail
  refine BW KC.out PD λM7=>?_
  refine aX 0 1 2 4 M7 ?_;refine wpAnyH_ready (rs:=[3,6]) (by kernel_rfl) (by simp) (AllReadyH.cons lW (λK hK=>?_) (AllReadyH.cons lW (λK hK=>?_) AllReadyH.nil))
  ·rw[if_pos (by rfl)];go_simp;refine(K5.out _ PD).mono ?_;rintro e w1 ⟨a1,c1,rfl,Nr,M8⟩;have OX:=bt PD M8;have Nr:=(aQ.rd Nr).2;go_wp2_with fail
   refine hK.out _ _ (KC.out _ OX) (λM7=>?_);clear hK K
   try simp only[Act.put,go,gk,gn]
   refine wpAnyH_ready (rs:=[5,6]) (by kernel_rfl) (by simp) (AllReadyH.cons lW (λK hK=>?_) (AllReadyH.cons lW (λK hK=>?_) AllReadyH.nil))
   ·rw[if_pos (by rfl)];go_simp;refine(K6.out _ OX _ c1 Nr).mono ?_;rintro e w2 ⟨rfl,M9⟩;have Oc:=bt OX M9;go_wp2_with fail
    refine hK.out _ _ (KC.out _ Oc) (λM7=>?_);clear hK K
    try simp only[Act.put,go,gk,gn]
    refine cL 6 λK hK=>?_
    go_simp;have Sd:=Oc.alloc Oc.size lV;refine hK.out _ _ (KC.out _ Sd) (λM7=>?_);clear hK K
    try simp only[Act.put,go,gk,gn]
    refine cL 7 λK hK=>?_
    go_simp;have Nn:=Oc.alloc Oc.size (.cells #[.bool o0,.bool o1,.bool o2,.bool o3,.int .i64 o4,.int .i64 o5] 45);refine hK.out _ _ (KC.out _ Nn) (λM7=>?_);clear hK K
    try simp only[Act.put,go,gk,gn]
    have PQ:bI w2.heap.size ⟨o0,o1,o2,o3,o4,o5⟩ (w2.alloc (.cells #[.bool o0,.bool o1,.bool o2,.bool o3,.int .i64 o4,.int .i64 o5] 45)):=ay w2 _ _ rfl;have hle:=Oc.size;refine wpAnyH_done (by kernel_rfl) ?_ _;clear M7;go_wp2;go_meet;exact⟨_,rfl,am PQ,hle,Nn⟩
   ·rw[if_pos (by rfl)];go_simp;have Qx:Below W6.heap.size W6 ((w1).alloc lV):=OX.alloc OX.size _;refine hK.out _ _ (KC.out _ Qx) (λM7=>?_);clear hK K
    try simp only[Act.put,go,gk,gn]
    have Rj:Below (w1).heap.size w1 ((w1).alloc lV):=(aO (w1).heap.size w1).alloc (aw _) _;have Nr:=Nr.below Rj;clear Rj;obtain⟨bk,Rb⟩:=aH ((w1).heap.size);have Np:((w1).alloc lV).heap[bk]?=some (.cells #[.bool false,.bool false,.bool false,.bool false,.int .i64 0,.int .i64 0] 45 (0,0)):=ay w1 _ _ Rb;have Nx:bk<((w1).alloc lV).heap.size:=by rw[<-Rb];simp
    have hle:W6.heap.size<=bk:=by rw[<-Rb];exact OX.size
    obtain⟨WA,NK⟩:=aH ((w1).alloc lV);rw[NK]at Qx Nr Np Nx ⊢;rw[NK]at M7;have Rb:w1.heap.size=bk:=Rb;rw[Rb];clear NK;refine cL 5 λK hK=>?_
    go_simp;refine(K6.out _ Qx _ c1 Nr).mono ?_;rintro e w2 ⟨rfl,M9⟩;have Oc:=bt Qx M9;go_wp2_with fail
    refine hK.out _ _ (KC.out _ Oc) (λM7=>?_);clear hK K
    try simp only[Act.put,go,gk,gn]
    have Np:=(M9.block bk Nx).trans Np;have Nx:=bE Nx M9.size;have q0:=(ab Np 0).1;have q1:=(ab Np 1).1;have q2:=(ab Np 2).1;have q3:=(ab Np 3).1;have q4:=(ab Np 4).1;have q5:=(ab Np 5).1;have p0:=(ab Np 0).2.1;have p1:=(ab Np 1).2.1;have p2:=(ab Np 2).2.1;have p3:=(ab Np 3).2.1;have p4:=(ab Np 4).2.1;have p5:=(ab Np 5).2.1;simp only[cT,cv,cS]at q0 q1 q2 q3 q4 q5;refine cL 7 λK hK=>?_
    go_simp;have Nn:Below W6.heap.size W6 ((((((w2.setCell ⟨bk,0,.none⟩ (.bool o0)).setCell ⟨bk,1,.none⟩ (.bool o1)).setCell ⟨bk,2,.none⟩ (.bool o2)).setCell ⟨bk,3,.none⟩ (.bool o3)).setCell ⟨bk,4,.none⟩ (.int .i64 o4)).setCell ⟨bk,5,.none⟩ (.int .i64 o5)):=((((((Oc.setCell (p:=⟨bk,0,.none⟩) hle _).setCell (p:=⟨bk,1,.none⟩) hle _).setCell (p:=⟨bk,2,.none⟩) hle _).setCell (p:=⟨bk,3,.none⟩) hle _).setCell (p:=⟨bk,4,.none⟩) hle _).setCell (p:=⟨bk,5,.none⟩) hle _);refine hK.out _ _ (KC.out _ Nn) (λM7=>?_);clear hK K
    try simp only[Act.put,go,gk,gn]
    have VJ:=(ar (j:=5) (v:=.int .i64 o5) (ar (j:=4) (v:=.int .i64 o4) (ar (j:=3) (v:=.bool o3) (ar (j:=2) (v:=.bool o2) (ar (j:=1) (v:=.bool o1) (ar (j:=0) (v:=.bool o0) Np))))));simp only[cH,cI,cF]at VJ;have PQ:bI bk ⟨o0,o1,o2,o3,o4,o5⟩ ((((((w2.setCell ⟨bk,0,.none⟩ (.bool o0)).setCell ⟨bk,1,.none⟩ (.bool o1)).setCell ⟨bk,2,.none⟩ (.bool o2)).setCell ⟨bk,3,.none⟩ (.bool o3)).setCell ⟨bk,4,.none⟩ (.int .i64 o4)).setCell ⟨bk,5,.none⟩ (.int .i64 o5)):=VJ;refine wpAnyH_done (by kernel_rfl) ?_ _;clear M7;go_wp2;go_meet;exact⟨_,rfl,am PQ,hle,Nn⟩
  ·rw[if_pos (by rfl)];go_simp;have Qx:Below W6.heap.size W6 ((W6.alloc lV).drew):=PD.alloc PD.size _;refine hK.out _ _ (KC.out _ Qx) (λM7=>?_);clear hK K
   try simp only[Act.put,go,gk,gn]
   have Rj:Below (W6.drew).heap.size W6.drew ((W6.alloc lV).drew):=(aO (W6.drew).heap.size W6.drew).alloc (aw _) _;clear Rj;have Np:((W6.alloc lV).drew).heap[W6.heap.size]?=some (.cells #[.bool false,.bool false,.bool false,.bool false,.int .i64 0,.int .i64 0] 45 (0,0)):=ay W6.drew _ _ rfl;have Nx:W6.heap.size<((W6.alloc lV).drew).heap.size:=by simp
   have hle:W6.heap.size<=W6.heap.size:=aw _;obtain⟨WA,NK⟩:=aH ((W6.alloc lV).drew);rw[NK]at Qx Np Nx ⊢;rw[NK]at M7;clear NK;refine cL 3 λK hK=>?_
   go_simp;refine(K5.out _ Qx).mono ?_;rintro e w1 ⟨a1,c1,rfl,Nr,M8⟩;have OX:=bt Qx M8;have Nr:=(aQ.rd Nr).2;go_wp2_with fail
   refine hK.out _ _ (KC.out _ OX) (λM7=>?_);clear hK K
   try simp only[Act.put,go,gk,gn]
   have Np:=(M8.block W6.heap.size Nx).trans Np;have Nx:=bE Nx M8.size;refine cL 5 λK hK=>?_
   go_simp;refine(K6.out _ OX _ c1 Nr).mono ?_;rintro e w2 ⟨rfl,M9⟩;have Oc:=bt OX M9;go_wp2_with fail
   refine hK.out _ _ (KC.out _ Oc) (λM7=>?_);clear hK K
   try simp only[Act.put,go,gk,gn]
   have Np:=(M9.block W6.heap.size Nx).trans Np;have Nx:=bE Nx M9.size;have q0:=(ab Np 0).1;have q1:=(ab Np 1).1;have q2:=(ab Np 2).1;have q3:=(ab Np 3).1;have q4:=(ab Np 4).1;have q5:=(ab Np 5).1;have p0:=(ab Np 0).2.1;have p1:=(ab Np 1).2.1;have p2:=(ab Np 2).2.1;have p3:=(ab Np 3).2.1;have p4:=(ab Np 4).2.1;have p5:=(ab Np 5).2.1;simp only[cT,cv,cS]at q0 q1 q2 q3 q4 q5;refine cL 7 λK hK=>?_
   go_simp;have Nn:Below W6.heap.size W6 ((((((w2.setCell ⟨W6.heap.size,0,.none⟩ (.bool o0)).setCell ⟨W6.heap.size,1,.none⟩ (.bool o1)).setCell ⟨W6.heap.size,2,.none⟩ (.bool o2)).setCell ⟨W6.heap.size,3,.none⟩ (.bool o3)).setCell ⟨W6.heap.size,4,.none⟩ (.int .i64 o4)).setCell ⟨W6.heap.size,5,.none⟩ (.int .i64 o5)):=((((((Oc.setCell (p:=⟨W6.heap.size,0,.none⟩) hle _).setCell (p:=⟨W6.heap.size,1,.none⟩) hle _).setCell (p:=⟨W6.heap.size,2,.none⟩) hle _).setCell (p:=⟨W6.heap.size,3,.none⟩) hle _).setCell (p:=⟨W6.heap.size,4,.none⟩) hle _).setCell (p:=⟨W6.heap.size,5,.none⟩) hle _);refine hK.out _ _ (KC.out _ Nn) (λM7=>?_);clear hK K
   try simp only[Act.put,go,gk,gn]
   have VJ:=(ar (j:=5) (v:=.int .i64 o5) (ar (j:=4) (v:=.int .i64 o4) (ar (j:=3) (v:=.bool o3) (ar (j:=2) (v:=.bool o2) (ar (j:=1) (v:=.bool o1) (ar (j:=0) (v:=.bool o0) Np))))));simp only[cH,cI,cF]at VJ;have PQ:bI W6.heap.size ⟨o0,o1,o2,o3,o4,o5⟩ ((((((w2.setCell ⟨W6.heap.size,0,.none⟩ (.bool o0)).setCell ⟨W6.heap.size,1,.none⟩ (.bool o1)).setCell ⟨W6.heap.size,2,.none⟩ (.bool o2)).setCell ⟨W6.heap.size,3,.none⟩ (.bool o3)).setCell ⟨W6.heap.size,4,.none⟩ (.int .i64 o4)).setCell ⟨W6.heap.size,5,.none⟩ (.int .i64 o5)):=VJ;refine wpAnyH_done (by kernel_rfl) ?_ _;clear M7;go_wp2;go_meet;exact⟨_,rfl,am PQ,hle,Nn⟩
 case rest=>
  obtain⟨T,rfl,HT,hT6,NG⟩:=hcut;generalize w2.heap.size=P1 at*;generalize w5.heap.size=P2 at*;have OE:=bt Ow NG;have y3:=(NG.cell (p:=⟨P1,0,none⟩) z3').trans X3'.out;have y6:=(NG.cell (p:=⟨P2,0,none⟩) z6).trans X6.out;have l3:=bE z3' NG.size;have l6:=bE z6 NG.size;obtain⟨S3,S6⟩:=az (R3'.out.below NG) (R6.out.below NG);have e2:=λW(hb:Below wc.heap.size wc W)=>F2.out P1 P2 T a2 c2 a5 c5' W ((hb.cell (p:=⟨P1,0,none⟩) l3).trans y3) ((hb.cell (p:=⟨P2,0,none⟩) l6).trans y6) (bE l6 hb.size) (HT.out.below hb) (S3.out.below hb) (S6.out.below hb)
  have e4:=λW(hb:Below wc.heap.size wc W)=>F4.out P2 T a5 c5' W (bt OE hb) ((hb.cell (p:=⟨P2,0,none⟩) l6).trans y6) (bE l6 hb.size) (HT.out.below hb) (S6.out.below hb)
  have e0:=λW(hb:Below wc.heap.size wc W)=>F0.out W (bt OE hb)
  have e1:=λW(hb:Below wc.heap.size wc W)=>F1.out W (bt OE hb)
  have e3:=λW(hb:Below wc.heap.size wc W)=>F3.out W (bt OE hb)
  have e5:=λW(hb:Below wc.heap.size wc W)=>F5.out W (bt OE hb)
  obtain⟨G0,G1,G2,G3,G4,G5⟩:=eN e0 e1 e2 e3 e4 e5;obtain⟨W8,Q6⟩:=bg wc (.cells #[.func (.func 295) #[] #[.pointer (some ⟨w.heap.size,0,none⟩)],.func (.func 296) #[] #[.pointer (some ⟨w.heap.size+2,0,none⟩)],.func (.func 298) #[] #[.pointer (some ⟨P1,0,none⟩),.pointer (some ⟨P2,0,none⟩),.pointer (some ⟨T,0,none⟩)],.func (.func 300) #[] #[.pointer (some ⟨w.heap.size+2,0,none⟩)],.func (.func 301) #[] #[.pointer (some ⟨w.heap.size+1,0,none⟩),.pointer (some ⟨P2,0,none⟩),.pointer (some ⟨T,0,none⟩)],.func (.func 302) #[] #[.pointer (some ⟨w.heap.size+2,0,none⟩),.pointer (some ⟨w.heap.size+3,0,none⟩)]] 25);have b8:=bm Q6;have x8:=dU Q6;obtain⟨HW8,X8⟩:=az Q6 x8;have Wz:=(ab x8 0).2.2;have TY:=bt (bt B1.out OE) b8;clear e0 e1 e2 e3 e4 e5 F0 F1 F2 F3 F4 F5 K1 K2 K3 K4 K5 K6 K5' K6' KC Q6 x8 y3 y6 S3 S6 X3' X6 R3' R6 HT YE YD PD Qk PR HWW NG;go_wp2_with fail
  go_step3
  go_wp2_with fail
  rw[HW8.out];go_loopw [39,13] (λi mm wr=>∃j:Nat,j<=6/\i=.int .i64 j/\mm=.bool true/\Hid (([i0,i1,i2,i3,i4,i5].drop j).foldr (λa b=>a&&b) true=L)/\Below W8.heap.size W8 wr) (λi _ _=>6-(intOf i).toNat)
  case atStart=>exact⟨0,by omega,rfl,rfl,am (by rw[<-HL.out];simp),aO _ _⟩
  case round=>
   clear HL;obtain⟨j,hj,rfl,rfl,HL,M_⟩:=hrel;rcases(by omega:j=0\/j=1\/j=2\/j=3\/j=4\/j=5\/j=6)with rfl|rfl|rfl|rfl|rfl|rfl|rfl
   ·have r0:=(M_.cell (p:=⟨wc.heap.size,0,none⟩) Wz).trans (ab X8.out 0).1;simp only[cT,cS]at r0;have k9:=G0.out wr (bt b8 M_);have K9:=ah k9;clear k9 G0 G1 G2 G3 G4 G5 X8
    cases i0
    ·have Nq:false=L:=HL.out;subst Nq;clear HL;go_wp2_with fail
     refine K9.out.mono ?_;rintro e w9 ⟨rfl,NL⟩;have OP:=bt (bt TY M_) NL;clear NL r0;go_wp2;rw[Exit.noGoto_ret];go_ret;exact⟨rfl,OP⟩
    ·have Oo:Hid (([i1,i2,i3,i4,i5]:List Bool).foldr (λa b=>a&&b) true=L):=am (by have:=HL.out;simpa using this);clear HL;go_wp2_with fail
     refine K9.out.mono ?_;rintro e w9 ⟨rfl,NL⟩;have OP:=bt M_ NL;clear NL r0;go_wp2;go_roundw
     case rel=>exact⟨1,by omega,by rfl,rfl,Oo,OP⟩
     case measure=>simp[intOf]
   ·have r0:=(M_.cell (p:=⟨wc.heap.size,1,none⟩) Wz).trans (ab X8.out 1).1;simp only[cT,cv,cS]at r0;have k9:=G1.out wr (bt b8 M_);have K9:=ah k9;clear k9 G0 G1 G2 G3 G4 G5 X8
    cases i1
    ·have Nq:false=L:=HL.out;subst Nq;clear HL;go_wp2_with fail
     refine K9.out.mono ?_;rintro e w9 ⟨rfl,NL⟩;have OP:=bt (bt TY M_) NL;clear NL r0;go_wp2;rw[Exit.noGoto_ret];go_ret;exact⟨rfl,OP⟩
    ·have Oo:Hid (([i2,i3,i4,i5]:List Bool).foldr (λa b=>a&&b) true=L):=am (by have:=HL.out;simpa using this);clear HL;go_wp2_with fail
     refine K9.out.mono ?_;rintro e w9 ⟨rfl,NL⟩;have OP:=bt M_ NL;clear NL r0;go_wp2;go_roundw
     case rel=>exact⟨2,by omega,by rfl,rfl,Oo,OP⟩
     case measure=>simp[intOf]
   ·have r0:=(M_.cell (p:=⟨wc.heap.size,2,none⟩) Wz).trans (ab X8.out 2).1;simp only[cT,cv,cS]at r0;have k9:=G2.out wr (bt b8 M_);have K9:=ah k9;clear k9 G0 G1 G2 G3 G4 G5 X8
    cases i2
    ·have Nq:false=L:=HL.out;subst Nq;clear HL;go_wp2_with fail
     refine K9.out.mono ?_;rintro e w9 ⟨rfl,NL⟩;have OP:=bt (bt TY M_) NL;clear NL r0;go_wp2;rw[Exit.noGoto_ret];go_ret;exact⟨rfl,OP⟩
    ·have Oo:Hid (([i3,i4,i5]:List Bool).foldr (λa b=>a&&b) true=L):=am (by have:=HL.out;simpa using this);clear HL;go_wp2_with fail
     refine K9.out.mono ?_;rintro e w9 ⟨rfl,NL⟩;have OP:=bt M_ NL;clear NL r0;go_wp2;go_roundw
     case rel=>exact⟨3,by omega,by rfl,rfl,Oo,OP⟩
     case measure=>simp[intOf]
   ·have r0:=(M_.cell (p:=⟨wc.heap.size,3,none⟩) Wz).trans (ab X8.out 3).1;simp only[cT,cv,cS]at r0;have k9:=G3.out wr (bt b8 M_);have K9:=ah k9;clear k9 G0 G1 G2 G3 G4 G5 X8
    cases i3
    ·have Nq:false=L:=HL.out;subst Nq;clear HL;go_wp2_with fail
     refine K9.out.mono ?_;rintro e w9 ⟨rfl,NL⟩;have OP:=bt (bt TY M_) NL;clear NL r0;go_wp2;rw[Exit.noGoto_ret];go_ret;exact⟨rfl,OP⟩
    ·have Oo:Hid (([i4,i5]:List Bool).foldr (λa b=>a&&b) true=L):=am (by have:=HL.out;simpa using this);clear HL;go_wp2_with fail
     refine K9.out.mono ?_;rintro e w9 ⟨rfl,NL⟩;have OP:=bt M_ NL;clear NL r0;go_wp2;go_roundw
     case rel=>exact⟨4,by omega,by rfl,rfl,Oo,OP⟩
     case measure=>simp[intOf]
   ·have r0:=(M_.cell (p:=⟨wc.heap.size,4,none⟩) Wz).trans (ab X8.out 4).1;simp only[cT,cv,cS]at r0;have k9:=G4.out wr (bt b8 M_);have K9:=ah k9;clear k9 G0 G1 G2 G3 G4 G5 X8
    cases i4
    ·have Nq:false=L:=HL.out;subst Nq;clear HL;go_wp2_with fail
     refine K9.out.mono ?_;rintro e w9 ⟨rfl,NL⟩;have OP:=bt (bt TY M_) NL;clear NL r0;go_wp2;rw[Exit.noGoto_ret];go_ret;exact⟨rfl,OP⟩
    ·have Oo:Hid (([i5]:List Bool).foldr (λa b=>a&&b) true=L):=am (by have:=HL.out;simpa using this);clear HL;go_wp2_with fail
     refine K9.out.mono ?_;rintro e w9 ⟨rfl,NL⟩;have OP:=bt M_ NL;clear NL r0;go_wp2;go_roundw
     case rel=>exact⟨5,by omega,by rfl,rfl,Oo,OP⟩
     case measure=>simp[intOf]
   ·have r0:=(M_.cell (p:=⟨wc.heap.size,5,none⟩) Wz).trans (ab X8.out 5).1;simp only[cT,cv,cS]at r0;have k9:=G5.out wr (bt b8 M_);have K9:=ah k9;clear k9 G0 G1 G2 G3 G4 G5 X8
    cases i5
    ·have Nq:false=L:=HL.out;subst Nq;clear HL;go_wp2_with fail
     refine K9.out.mono ?_;rintro e w9 ⟨rfl,NL⟩;have OP:=bt (bt TY M_) NL;clear NL r0;go_wp2;rw[Exit.noGoto_ret];go_ret;exact⟨rfl,OP⟩
    ·have Oo:Hid (([]:List Bool).foldr (λa b=>a&&b) true=L):=am (by have:=HL.out;simpa using this);clear HL;go_wp2_with fail
     refine K9.out.mono ?_;rintro e w9 ⟨rfl,NL⟩;have OP:=bt M_ NL;clear NL r0;go_wp2;go_roundw
     case rel=>exact⟨6,by omega,by rfl,rfl,Oo,OP⟩
     case measure=>simp[intOf]
   ·have Nq:true=L:=HL.out;subst Nq;clear HL G0 G1 G2 G3 G4 G5 X8;go_wp2;rw[Exit.noGoto_ret];go_ret;exact⟨rfl,bt TY M_⟩
theorem Cq(acc:List (List UInt8))(nm:List UInt8):aT (kZ acc nm)<=aT acc+nm.length:=by
 unfold kZ
 cases acc.contains nm
 ·rw[cond_false,vw];have:aT [nm]=nm.length:=by simp[aT]
  omega
 ·rw[cond_true];omega
theorem lN(x:List UInt8)(r:List (List UInt8)):aT (x::r)=x.length+aT r:=by unfold aT;simp
theorem nN:∀(ps acc a:List (List UInt8)),dA acc ps=some a->aT a<=aT acc+aT ps
 | [],acc,a,h=>by cases h;exact Nat.le_add_right _ _
 |p::r,acc,a,h=>by
  rw[dA]at h
  cases hn:jg (ai p)<;>rw[hn]at h
  ·cases h
  ·have h1:=nN r _ a h;have h2:=Cq acc (ai p);rw[d_]at h2;rw[lN];omega
theorem nP:∀(vs acc a:List (List UInt8)),eG acc vs=some a->aT a<=aT acc+aT vs
 | [],acc,a,h=>by cases h;exact Nat.le_add_right _ _
 |v::r,acc,a,h=>by
  rw[eG]at h
  cases he:((ax 44 v).2==0)<;>rw[he]at h
  ·cases h
  ·rw[cond_true]at h
   cases hp:dA acc (ax 44 v).1 with
   |none=>rw[hp]at h;cases h
   |some b=>
    rw[hp]at h;have h1:=nP r b a h;have h2:=nN _ _ _ hp;have h3:=ci 44 v;rw[lN];omega
theorem Eh(f:aU)(r:List aU):aE (f::r)=f.1.length+f.2.length+aE r:=by unfold aE;rw[bw,dG]
theorem wJ(f:aU)(r:List aU)(nm:List UInt8):af (f::r) nm=if(ai f.1==ai nm)=true then f.2::af r nm else af r nm:=by
 unfold af;rw[o8]
 cases(ai f.1==ai nm)<;>rfl
theorem yh(xs:List aU):aT (dw (bz xs))<=aE xs:=by
 cases h:bz xs with
 |none=>exact a_ _
 |some a=>
  have h1:=nP _ _ _ h;have h2:=ik xs pj;have h3:aT ([]:List (List UInt8))=0:=rfl;show aT a<=_
  omega
theorem CG{acc:List (List UInt8)}(h:acc.Nodup)(nm:List UInt8):(kZ acc nm).Nodup:=by
 unfold kZ
 cases hc:acc.contains nm
 ·rw[cond_false,List.nodup_append];refine⟨h,by simp,λa ha b hb=>?_⟩;rw[cA.1 hb];intro e;subst e;simp at hc
  exact hc ha
 ·exact h
theorem nR:∀(ps acc a:List (List UInt8)),acc.Nodup->dA acc ps=some a->a.Nodup
 | [],acc,a,h,e=>by cases e;exact h
 |p::r,acc,a,h,e=>by
  rw[dA]at e
  cases hn:jg (ai p)<;>rw[hn]at e
  ·cases e
  ·exact nR r _ a (CG h _) e
theorem nS:∀(vs acc a:List (List UInt8)),acc.Nodup->eG acc vs=some a->a.Nodup
 | [],acc,a,h,e=>by cases e;exact h
 |v::r,acc,a,h,e=>by
  rw[eG]at e
  cases he:((ax 44 v).2==0)<;>rw[he]at e
  ·cases e
  ·rw[cond_true]at e
   cases hp:dA acc (ax 44 v).1 with
   |none=>rw[hp]at e;cases e
   |some b=>rw[hp]at e;exact nS r b a (nR _ _ _ h hp) e
theorem yB(k:List UInt8)(c:Nat):∀l:List (List UInt8),(∀x∈l,ai x=x)->ai k ∉ l->(l.map λnm=>if(ai k==ai nm)=true then c else 0).sum=0
 | [],_,_=>rfl
 |x::r,hl,hn=>by
  rw[bw,dG,yB k c r (λy hy=>hl y (by simp[hy])) (λh=>hn (by simp[h])),hl x (by simp),if_neg];intro e;exact hn (by rw[eq_of_beq e];simp)
theorem zY(k:List UInt8)(c:Nat):∀l:List (List UInt8),l.Nodup->(∀x∈l,ai x=x)->(l.map λnm=>if(ai k==ai nm)=true then c else 0).sum<=c
 | [],_,_=>a_ _
 |x::r,hd,hl=>by
  rw[dK]at hd;rw[bw,dG,hl x (by simp)];by_cases e:(ai k==x)=true
  ·rw[if_pos e,yB k c r (λy hy=>hl y (by simp[hy])) (by rw[eq_of_beq e];exact hd.1)];omega
  ·rw[if_neg e];have:=zY k c r hd.2 (λy hy=>hl y (by simp[hy]));omega
theorem nj{α:Type}(f g:α->Nat):∀l:List α,(l.map λx=>f x+g x).sum=(l.map f).sum+(l.map g).sum
 | []=>rfl
 |x::r=>by rw[bw,bw,bw,dG,dG,dG,nj f g r];omega
theorem rK{l:List (List UInt8)}(hd:l.Nodup)(hl:∀x∈l,ai x=x):∀xs:List aU,(l.map λnm=>aT (af xs nm)).sum<=aE xs
 | []=>by
  have:∀l:List (List UInt8),(l.map λnm=>aT (af ([]:List aU) nm)).sum=0:=by
   intro l
   induction l with
   |nil=>rfl
   |cons x r ih=>rw[bw,dG,ih];rfl
  rw[this];exact a_ _
 |f::r=>by
  have ih:=rK hd hl r
  have h1:(l.map λnm=>aT (af (f::r) nm))=l.map λnm=>(if(ai f.1==ai nm)=true then f.2.length else 0)+aT (af r nm):=by
   refine List.map_congr_left λnm _=>?_
   rw[wJ];split
   ·exact lN _ _
   ·exact(iq _).symm
  have h2:=zY f.1 f.2.length l hd hl;rw[h1,nj,Eh];omega
theorem Ar:∀ls:List (List UInt8),(∀p∈ls,p≠[])->ls.length<=aT ls
 | [],_=>a_ _
 |x::r,h=>by
  have ih:=Ar r (λp hp=>h p (by simp[hp]));have hx:0<x.length:=List.length_pos_iff.2 (h x (by simp));rw[lN,cg];omega
theorem Io:∀(ls:List (List UInt8)),(Lib.join ls cs).length<=aT ls+2*ls.length
 | []=>a_ _
 |x::r=>by
  rw[Lib.join_length];have h1:Lib.lens (x::r)=aT (x::r):=rfl;have h2:cs.length=2:=rfl;rw[h1,h2,cg];omega
theorem EB(xs:List aU)(nm:List UInt8):(eq xs nm).length<=3*aT (af xs nm):=by have h1:=Io (k_ (af xs nm));have h2:=s_ (af xs nm);have h3:=Ar _ (JA (af xs nm));unfold eq;omega
theorem Ht{α:Type}(f g:α->Nat):∀l:List α,(∀x∈l,f x<=g x)->(l.map f).sum<=(l.map g).sum
 | [],_=>aw _
 |x::r,h=>by
  have:=Ht f g r (λy hy=>h y (by simp[hy]));have:=h x (by simp);rw[bw,bw,dG,dG];omega
theorem DP{α:Type}(f:α->Nat)(c:Nat):∀l:List α,(l.map λx=>c*f x).sum=c*(l.map f).sum
 | []=>rfl
 |x::r=>by rw[bw,bw,dG,dG,DP f c r,Nat.mul_add]
theorem BI(xs req:List aU):aE (fB (dw (bz xs)) req)<=aE xs+3*aE req:=by
 have hd:(dw (bz xs)).Nodup:=by
  cases h:bz xs with
  |none=>exact List.nodup_nil
  |some a=>exact nS _ _ _ List.nodup_nil h
 have hl:∀x∈dw (bz xs),ai x=x:=by
  cases h:bz xs with
  |none=>intro x hx;simp[dw]at hx
  |some a=>exact λx hx=>(qk (M:=aE xs) (λf hf=>by have:=bM hf;omega) h x hx).2.1
 have ht:=yh xs;generalize dw (bz xs)=l at*
 have h1:aE (fB l req)=aT l+(l.map λnm=>(eq req nm).length).sum:=by unfold aE fB aT;rw[List.map_map,<-nj];rfl
 have h2:=Ht (λnm=>(eq req nm).length) (λnm=>3*aT (af req nm)) l (λnm _=>EB req nm);rw[DP]at h2;have h3:=rK hd hl req;omega
structure TK(w0 w:World)(sb bl:Nat)(nn mm:Int)(es:List cw)(put:Int)(cf tk:Array Value)(ky bs:ByteArray)(W:World):Prop where
 cfg:W.heap[w.heap.size]?=some (.cells cf 32 (0,0))
 plan:W.heap[w.heap.size+1]?=some (.cells (dP ky bs false false) 260 (0,0))
 res:W.heap[w.heap.size+1+1]?=some (.cells (cW (.int .i64 0) (.string ⟨#[]⟩) (.int .i64 0) (.slice none 0 0) (.string ⟨#[]⟩) (.int .i64 0) (.int .i64 0) (.int .i64 0) (.bool false) (.slice none 0 0)) 207 (0,0))
 tak:W.heap[w.heap.size+1+1+1]?=some (.cells tk 327 (0,0))
 ptr:W.heap[w.heap.size+1+1+1+1]?=some (.cells #[.pointer (some ⟨w.heap.size+1+1+1,0,none⟩)] 325 (0,0))
 sk:SK w0 w sb bl nn mm es put W
section
variable {w0 w W W':World}{sb bl:Nat}{nn mm:Int}{es:List cw}{put:Int}{cf tk:Array Value}{ky bs:ByteArray}
theorem TK.below(h:TK w0 w sb bl nn mm es put cf tk ky bs W)(hb:Below W.heap.size W W'):TK w0 w sb bl nn mm es put cf tk ky bs W':=⟨(hb.block _ (ae h.cfg)).trans h.cfg,(hb.block _ (ae h.plan)).trans h.plan,(hb.block _ (ae h.res)).trans h.res,(hb.block _ (ae h.tak)).trans h.tak,(hb.block _ (ae h.ptr)).trans h.ptr,h.sk.below hb⟩
theorem TK.drew(h:TK w0 w sb bl nn mm es put cf tk ky bs W):TK w0 w sb bl nn mm es put cf tk ky bs W.drew:=h.below (aO _ _).drew
theorem Ec:gd 32:=⟨by decide,by decide,by decide,by decide⟩
theorem jM:gd 260:=⟨by decide,by decide,by decide,by decide⟩
theorem gJ:gd 207:=⟨by decide,by decide,by decide,by decide⟩
theorem ve:gd 327:=⟨by decide,by decide,by decide,by decide⟩
theorem Ea:gd 325:=⟨by decide,by decide,by decide,by decide⟩
theorem TK.to{NE:List cw}{put':Int}(h:TK w0 w sb bl nn mm es put cf tk ky bs W)(hl:dS w0 W' sb bl nn mm NE put')(hk:de W W'):TK w0 w sb bl nn mm NE put' cf tk ky bs W':=⟨hk.blk h.cfg Ec,hk.blk h.plan jM,hk.blk h.res gJ,hk.blk h.tak ve,hk.blk h.ptr Ea,h.sk.to hl hk⟩
theorem TK.tks{tk':Array Value}(h:TK w0 w sb bl nn mm es put cf tk ky bs W)(hs:ap (w.heap.size+1+1+1) W W')(ht:W'.heap[w.heap.size+1+1+1]?=some (.cells tk' 327 (0,0))):TK w0 w sb bl nn mm es put cf tk' ky bs W':=
 ⟨(hs.2 _ (ae h.cfg) (by omega)).trans h.cfg,(hs.2 _ (ae h.plan) (by omega)).trans h.plan,(hs.2 _ (ae h.res) (by omega)).trans h.res,ht,(hs.2 _ (ae h.ptr) (by omega)).trans h.ptr,
  ⟨h.sk.live.beside h.tak ve (by have:=h.sk.hi;omega) hs,h.sk.kept.beside (by omega) hs,h.sk.hi⟩⟩
theorem TK.hi(h:TK w0 w sb bl nn mm es put cf tk ky bs W):w.heap.size+1+1+1+1<W.heap.size:=ae h.ptr
end
theorem sJ(xs:List aU):aE (aI xs)<=aE xs:=bj (fK _ _) (fK _ _)
theorem E9(xs req:List aU):(gg xs req).length<=64*xs.length:=by
 unfold gg
 cases(bz (aI xs)).isSome
 ·exact a_ _
 ·have h1:=qd (aI xs);have h2:=oM xs;rw[cond_true];unfold fB;rw[eE];omega
theorem Ef(xs req:List aU):aE (gg xs req)<=aE xs+3*aE req:=by
 unfold gg
 cases(bz (aI xs)).isSome
 ·exact a_ _
 ·have h1:=BI (aI xs) req;have h2:=sJ xs;rw[cond_true];omega
theorem J_{w:World}{b:Nat}{T:TypeId}{e0 e1 e2 e3 e4 e5 e6 e7:Value}{ky bs:ByteArray}{hit:Bool}{dev:ByteArray}{rq:Value}{now:Int}{r0 r1 r2 r3 r4:Value}{right:Bool}(v0 v1 v2 v3 v4:Value)(h:w.heap[b]?=some (.cells (ud e0 e1 e2 e3 e4 e5 e6 e7 ky bs hit dev rq now r0 r1 r2 r3 r4 right) T (0,0))):((((((w.setCell ⟨b,23,none⟩ v0).setCell ⟨b,24,none⟩ v1).setCell ⟨b,25,none⟩ v2).setCell ⟨b,26,none⟩ v3).setCell ⟨b,27,none⟩ v4).setCell ⟨b,28,none⟩ (.bool true)).heap[b]?=some (.cells (ud e0 e1 e2 e3 e4 e5 e6 e7 ky bs hit dev rq now v0 v1 v2 v3 v4 true) T (0,0)):=by have h5:=aj (j:=28) (v:=.bool true) (aj (j:=27) (v:=v4) (aj (j:=26) (v:=v3) (aj (j:=25) (v:=v2) (aj (j:=24) (v:=v1) (aj (j:=23) (v:=v0) h)))));unfold ud at h5 ⊢;simp only[cH,cI,cF]at h5;exact h5
theorem Jh(b:Nat)(w:World)(j0 j1 j2 j3 j4 j5:Nat)(v0 v1 v2 v3 v4 v5:Value):ap b w ((((((w.setCell ⟨b,j0,none⟩ v0).setCell ⟨b,j1,none⟩ v1).setCell ⟨b,j2,none⟩ v2).setCell ⟨b,j3,none⟩ v3).setCell ⟨b,j4,none⟩ v4).setCell ⟨b,j5,none⟩ v5):=((((((ap.refl b w).set j0 v0).set j1 v1).set j2 v2).set j3 v3).set j4 v4).set j5 v5
def Lg(ky ft dev:ByteArray)(F:Option Addr)(m d:Nat)(now:Int):Array Value:=ud (.int .i64 0) (.string ⟨#[]⟩) (.int .i64 0) (.slice none 0 0) (.string ⟨#[]⟩) (.int .i64 0) (.int .i64 0) (.slice none 0 0) ky ft false dev (.slice F m d) now (.int .i64 0) (.string ⟨#[]⟩) (.int .i64 0) (.slice none 0 0) (.string ⟨#[]⟩) false
theorem IT{B:Nat}{e:TypeId}{size:Nat}{v:Value}{n:Nat}{xs:List Value}{w w1:World}(h:w.ownsRow B e size v n xs)(hk:de w w1)(h1:e≠171)(h2:e≠174)(h3:e≠116):w1.ownsRow B e size v n xs:=by
 obtain⟨h4,h5⟩:=h;refine⟨h4,?_⟩;rcases h5 with h5|⟨g,cap,cur,hv,hg,hh,r⟩
 ·exact Or.inl h5
 ·exact Or.inr ⟨g,cap,cur,hv,hg,hk.2 g _ _ _ hh h1 h2 h3,r⟩
theorem pI{B:Nat}{v:Value}{fs:List aU}{w w1:World}(h:aM B v fs w)(hk:de w w1):aM B v fs w1:=IT h hk (by decide) (by decide) (by decide)
theorem DC{w:World}{b:Nat}{T:TypeId}{u0 u1 u2 u3 u4 u5 u6 u7 u8 u9:Value}(v0 v1 v2 v3 v4 v5 v6 v7 v8 v9:Value)(h:w.heap[b]?=some (.cells (cW u0 u1 u2 u3 u4 u5 u6 u7 u8 u9) T (0,0))):((((((((((w.setCell ⟨b,0,none⟩ v0).setCell ⟨b,1,none⟩ v1).setCell ⟨b,2,none⟩ v2).setCell ⟨b,3,none⟩ v3).setCell ⟨b,4,none⟩ v4).setCell ⟨b,5,none⟩ v5).setCell ⟨b,6,none⟩ v6).setCell ⟨b,7,none⟩ v7).setCell ⟨b,8,none⟩ v8).setCell ⟨b,9,none⟩ v9).heap[b]?=some (.cells (cW v0 v1 v2 v3 v4 v5 v6 v7 v8 v9) T (0,0)):=by have h1:=(aj (j:=9) (v:=v9) (aj (j:=8) (v:=v8) (aj (j:=7) (v:=v7) (aj (j:=6) (v:=v6) (aj (j:=5) (v:=v5) (aj (j:=4) (v:=v4) (aj (j:=3) (v:=v3) (aj (j:=2) (v:=v2) (aj (j:=1) (v:=v1) (aj (j:=0) (v:=v0) h))))))))));unfold cW at h1 ⊢;simp only[cH,cI,cF]at h1;exact h1
theorem pA(b:Nat)(w:World)(v0 v1 v2 v3 v4 v5 v6 v7 v8 v9:Value):ap b w ((((((((((w.setCell ⟨b,0,none⟩ v0).setCell ⟨b,1,none⟩ v1).setCell ⟨b,2,none⟩ v2).setCell ⟨b,3,none⟩ v3).setCell ⟨b,4,none⟩ v4).setCell ⟨b,5,none⟩ v5).setCell ⟨b,6,none⟩ v6).setCell ⟨b,7,none⟩ v7).setCell ⟨b,8,none⟩ v8).setCell ⟨b,9,none⟩ v9):=((((((((((ap.refl b w).set 0 v0).set 1 v1).set 2 v2).set 3 v3).set 4 v4).set 5 v5).set 6 v6).set 7 v7).set 8 v8).set 9 v9
theorem EM{w0 w:World}{sb bl:Nat}{nn mm:Int}{es:List cw}{put:Int}(hl:dS w0 w sb bl nn mm es put)(C:B8)(CA F:Option Addr)(cc m d:Nat)(now:Int)(req:List aU)(ky ft b:ByteArray)(rep:lu)(hD:d9 w0)(hT:dV w0)(hE:gD w0)(hq:∀W,de w W->Rd F m 2 (aJ req) W)(hm:m<=100)(Qo:aE req<=7500)(QT:ft.data.toList≠[])(hky:ky.size<=1000)(Qf:ep b.data.toList false=(rep,b.size,0))(N9:b.size<=100000)(Nd:200<=rep.status/\rep.status<=999)(Pq:rep.status≠304)(hn:rep.fields.length<=56)(hs:aE rep.fields<=7500)(PC:rep.reason.length<=10000)(O9:rep.body.length<=262144)(hp:0<=put/\put<=999)(RR:0<=now/\now<=253402300799):Calls Tryz.prog 170 #[.pointer (some ⟨sb,0,none⟩),pB C CA cc,uG ky ft false false,.slice F m d,.int .i64 now,.string b,.bool true] w λe w'=>∃a ac nv nc left esi NE put',e=.returned (.agg (cW (.int .i64 rep.status) (.string ⟨rep.reason.toArray⟩) (.int .i64 rep.minor) (.slice a (aI rep.fields).length ac) (.string ⟨rep.body.toArray⟩) (.int .i64 2) (.int .i64 (dz (aI rep.fields) now now now)) (.int .i64 left) (.bool esi) (.slice nv (dw (bz (aI rep.fields))).length nc)))/\esi=((rep.status==200)&&(vj (af (aI rep.fields) jb) C.dev).esi)/\aM w.heap.size (.slice a (aI rep.fields).length ac) (aI rep.fields) w'/\aQ w.heap.size (.slice nv (dw (bz (aI rep.fields))).length nc) (dw (bz (aI rep.fields))) w'/\dS w0 w' sb bl nn mm NE put'/\put<=put'/\put'<=put+1/\de w w':=by
 have VT:=wG;have Ol:=hl.base;have k2:=λW(hb:Below w0.heap.size w0 W)=>yn b false W (hD.1.below hb) (hE.below hb) (by omega)
 rw[Qf]at k2;obtain⟨st,re,mi,xs,bo⟩:=rep;simp only at Nd Pq hn hs PC O9 k2 ⊢
 unfold iv at k2;simp only at k2
 obtain⟨host,en,V_,inc,dep,dev,fwd⟩:=C;unfold pB zU uG dP;simp only
 obtain⟨cf,Pn⟩:=aH (#[.string ⟨host.toArray⟩,.int .i64 en,.int .i64 V_,.int .i64 inc,.int .i64 dep,.string ⟨dev.toArray⟩,.slice CA fwd.length cc]:Array Value);obtain⟨WA,NK⟩:=bg w (.cells #[.string ⟨host.toArray⟩,.int .i64 en,.int .i64 V_,.int .i64 inc,.int .i64 dep,.string ⟨dev.toArray⟩,.slice CA fwd.length cc] 32);obtain⟨WB,Sj⟩:=bg WA (.cells #[.string ky,.string ft,.bool false,.bool false,.int .i64 0,.string ⟨#[]⟩,.int .i64 0,.slice none 0 0,.string ⟨#[]⟩,.int .i64 0,.int .i64 0,.slice none 0 0] 260);obtain⟨WC,hWC⟩:=bg WB lq;have bA:=bm NK;have bB:=bm Sj;have bC:=bm hWC;have zA:WA.heap.size=w.heap.size+1:=by rw[<-NK];simp
 have zB:WB.heap.size=w.heap.size+1+1:=by rw[<-Sj];simp[zA]
 have zC:WC.heap.size=w.heap.size+1+1+1:=by rw[<-hWC];simp[zB]
 have xA:WA.heap[w.heap.size]?=some (.cells cf 32 (0,0)):=by rw[<-NK,<-Pn];exact ay w _ _ rfl
 have xB:WB.heap[w.heap.size+1]?=some (.cells (dP ky ft false false) 260 (0,0)):=by rw[<-Sj,<-zA];exact ay WA _ _ rfl
 have xC:WC.heap[w.heap.size+1+1]?=some (.cells (cW (.int .i64 0) (.string ⟨#[]⟩) (.int .i64 0) (.slice none 0 0) (.string ⟨#[]⟩) (.int .i64 0) (.int .i64 0) (.int .i64 0) (.bool false) (.slice none 0 0)) 207 (0,0)):=by rw[<-hWC,<-zB];exact ay WB _ _ rfl
 have y0:=(bC.block _ (ae (bB.block _ (ae xA) |>.trans xA))).trans ((bB.block _ (ae xA)).trans xA);have y1:=(bC.block _ (ae xB)).trans xB;have p0:=aS y1 0;have p1:=aS y1 1;have p2:=aS y1 2;have p3:=aS y1 3;have p4:=aS y1 4;have p5:=aS y1 5;have p6:=aS y1 6;have p7:=aS y1 7;have p8:=aS y1 8;have p9:=aS y1 9;have p10:=aS y1 10;have p11:=aS y1 11;have c5:WC.cell? ⟨w.heap.size,5,none⟩=some (.string ⟨dev.toArray⟩):=by rw[(ab y0 5).1,<-Pn];rfl
 have hSC:SK w0 w sb bl nn mm es put WC:=⟨hl.below (bt (bt bA bB) bC),de.of_below (bt (bt bA bB) bC),Ol.size⟩;obtain⟨Tn,WM,HWC,Sp,HSC,Y0⟩:=eN NK Sj hWC Pn hSC y0;obtain⟨Y1,XC,HQ,K2,HMF⟩:=gB y1 xC hq k2 VT;clear NK Sj hWC Pn hSC y0 y1 xA xB xC bA bB bC zA zB hq k2 Ol hl Qf;go_enter Tryz.func170,Tryz.ntmps170
 go_upto_region 1 with(fail)
 rw[Tn.out,WM.out,HWC.out];go_upto_region 2 with(fail)
 obtain⟨WD,hWD⟩:=aH ((WC.alloc (.cells (Lg ky ft ⟨dev.toArray⟩ F m d now) 327)).alloc (.cells #[.pointer (some ⟨w.heap.size+1+1+1,0,none⟩)] 325))
 have hD0:TK w0 w sb bl nn mm es put cf (Lg ky ft ⟨dev.toArray⟩ F m d now) ky ft WD:=by
  have b1:=aV WC (.cells (Lg ky ft ⟨dev.toArray⟩ F m d now) 327);have x1:=ay WC (.cells (Lg ky ft ⟨dev.toArray⟩ F m d now) 327) _ rfl;have z1:(WC.alloc (.cells (Lg ky ft ⟨dev.toArray⟩ F m d now) 327)).heap.size=w.heap.size+1+1+1+1:=by simp[zC]
  generalize WC.alloc (.cells (Lg ky ft ⟨dev.toArray⟩ F m d now) 327)=V1 at*;have b2:=aV V1 (.cells #[.pointer (some ⟨w.heap.size+1+1+1,0,none⟩)] 325);rw[<-hWD];refine⟨((bt b1 b2).block _ (ae Y0.out)).trans Y0.out,((bt b1 b2).block _ (ae Y1.out)).trans Y1.out,((bt b1 b2).block _ (ae XC.out)).trans XC.out,(b2.block _ (by omega)).trans (by rw[<-zC];exact x1),by rw[<-z1];exact ay V1 _ _ rfl,HSC.out.below (bt b1 b2)⟩
 unfold Lg ud at hWD;rw[hWD];have k2:=K2.out WD hD0.sk.live.base;obtain⟨HD0,KK⟩:=az hD0 k2;clear hWD hD0 K2 k2 p0 p1 p2 p3 p4 p5 p6 p7 p8 p9 p10 p11 c5 Tn WM HWC HSC Y0 Y1 XC zC;go_upto_region 3 with(go_at_call 23;(with_reducible refine KK.out.mono ?_);rintro e w2 ⟨A,c,rfl,Nz,M9⟩)
 obtain⟨W3,NW⟩:=bg w2 (.cells #[.int .i64 st,.string ⟨re.toArray⟩,.int .i64 mi,.slice A xs.length c,.string ⟨bo.toArray⟩] 41);have b3:=bm NW;have x3:=dU NW;have Sr:=(HD0.out.below M9).below b3;have Po:=Nz.below b3;have V2:w.heap.size+1+1+1+1<WD.heap.size:=HD0.out.hi;have Qi:WD.heap.size<=w2.heap.size:=M9.size;have p1:=aS Sr.plan 1;have t0:=aS Sr.ptr 0;have r0:=aS x3 0;have r1:=aS x3 1;have r2:=aS x3 2;have r3:=aS x3 3;have r4:=aS x3 4;have q23:=aS Sr.tak 23;have q24:=aS Sr.tak 24;have q25:=aS Sr.tak 25;have q26:=aS Sr.tak 26;have q27:=aS Sr.tak 27;have q28:=aS Sr.tak 28;have f23:=(ab Sr.tak 23).2.1;have f24:=(ab Sr.tak 24).2.1;have f25:=(ab Sr.tak 25).2.1;have f26:=(ab Sr.tak 26).2.1;have f27:=(ab Sr.tak 27).2.1;have f28:=(ab Sr.tak 28).2.1;obtain⟨Qk,HD3,Ob⟩:=bu NW Sr Po
 have Zx:ft.data.toList.isEmpty=false:=by cases h:ft.data.toList with|nil=>exact absurd h QT|cons _ _=>rfl
 have Y7:(!ft.toList.isEmpty)=true:=by rw[dY,Zx];rfl
 have XO:ft.toList.isEmpty=false:=by rw[dY,Zx]
 clear NW Sr Po Nz M9 b3 x3 HD0 KK QT;rw[Qk.out];go_upto_region 4 with(fail)
 go_cut [] (λwx=>TK w0 w sb bl nn mm es put cf (ud (.int .i64 0) (.string ⟨#[]⟩) (.int .i64 0) (.slice none 0 0) (.string ⟨#[]⟩) (.int .i64 0) (.int .i64 0) (.slice none 0 0) ky ft false ⟨dev.toArray⟩ (.slice F m d) now (.int .i64 st) (.string ⟨re.toArray⟩) (.int .i64 mi) (.slice A xs.length c) (.string ⟨bo.toArray⟩) true) ky ft wx/\aM WD.heap.size (.slice A xs.length c) xs wx)
 case first=>
  go_region
  go_wp2_with fail
  go_meet;have ht:=HD3.out.tak;unfold Lg at ht;have hx:=J_ (.int .i64 st) (.string ⟨re.toArray⟩) (.int .i64 mi) (.slice A xs.length c) (.string ⟨bo.toArray⟩) ht;have N9:=(Jh (w.heap.size+1+1+1) W3 23 24 25 26 27 28 (.int .i64 st) (.string ⟨re.toArray⟩) (.int .i64 mi) (.slice A xs.length c) (.string ⟨bo.toArray⟩) (.bool true)).drew;have RP:=(tX _ _).trans hx;have hA:=HD3.out.tks N9 RP;have hB:=bi Ob.out N9 (by omega);exact⟨hA,hB⟩
 case rest=>
 clear r0 r1 r2 r3 r4 q23 q24 q25 q26 q27 q28 f23 f24 f25 f26 f27 f28 p1 t0 Qk HD3 Ob Zx Y7 XO;obtain⟨Vn,Sw⟩:=hcut;obtain⟨W4,rfl⟩:∃W,W=wc:=⟨_,rfl⟩;have ZO:=Vn.hi;have p2:=aS Vn.plan 2;have t0:=aS Vn.ptr 0;have k5:=Jy (w.heap.size+1+1+1) ky ft ⟨dev.toArray⟩ F A m d xs.length c req xs now st mi ⟨re.toArray⟩ ⟨bo.toArray⟩ W4 Vn.tak (λW hs=>(show aM WD.heap.size (.slice A xs.length c) xs W from bi Sw hs (by omega)).rd.2) (λW hs=>HQ.out W (Vn.sk.kept.beside (by omega) hs)) hn hm (by omega) (by omega) ⟨Nd.1,Nd.2⟩ Pq;obtain⟨HK4,K5⟩:=az Vn k5;clear Vn k5 Sw;go_upto_region 6 with(go_at_call 222;(with_reducible refine K5.out.mono ?_);rintro e w5 ⟨rfl,a,ac,v,vc,Ns,hoa5,hov5,VE⟩)
 obtain⟨W6,N0⟩:=bg w5 (.cells #[.bool false] 4);have b6:=bm N0;have x6:=dU N0;have hK6:=(HK4.out.tks VE Ns).below b6;have Zf:=VE.size;obtain⟨PR,Rr,HOA6,HOV6,X6⟩:=gB N0 hK6 (hoa5.below b6) (hov5.below b6) x6;clear N0 b6 x6 hK6 Ns hoa5 hov5 VE K5 HK4 p2 t0;rw[PR.out];go_upto_region 9 with(fail)
 obtain⟨W7,Pt⟩:=bg W6 (.cells #[.int .i64 1,.func (.func 223) #[] #[.pointer (some ⟨w.heap.size+1,0,none⟩)],.int .i64 4,.func (.func 224) #[] #[.pointer (some ⟨w5.heap.size,0,none⟩),.pointer (some ⟨w.heap.size+1+1+1+1,0,none⟩)],.int .i64 5,.func (.func 226) #[] #[.pointer (some ⟨w5.heap.size,0,none⟩)],.int .i64 3,.func (.func 227) #[] #[.pointer (some ⟨w.heap.size+1+1+1+1,0,none⟩)],.int .i64 2,.func (.func 228) #[] #[]] 329);have b7:=bm Pt;have x7:=dU Pt;have QN:=Rr.out.below b7;have hbc:W7.cell? ⟨w5.heap.size,0,none⟩=some (.bool false):=(ab ((b7.block _ (ae X6.out)).trans X6.out) 0).1;have m0:=aS x7 0;have m1:=aS x7 1;have m2:=aS x7 2;have m3:=aS x7 3;have m4:=aS x7 4;have m5:=aS x7 5;have m6:=aS x7 6;have m7:=aS x7 7;have m8:=aS x7 8;have m9:=aS x7 9;have ka:=GC (w.heap.size+1) false W7 (ab QN.plan 2).1
 have kb:=Jq w5.heap.size (w.heap.size+1+1+1+1) W7 hbc;have kc:=H8 w5.heap.size false W7 hbc;have kd:=IY (w.heap.size+1+1+1+1) (w.heap.size+1+1+1) st W7 (ab QN.ptr 0).1 (ab QN.tak 23).1;rw[show(st==304)=false from by simpa using Pq]at kd;have ke:=GS W7;obtain⟨KA,KB,KC,KD,KE⟩:=gB ka kb kc kd ke;obtain⟨TH,HK7,HOA7,HOV7⟩:=bK Pt QN (HOA6.out.below b7) (HOV6.out.below b7);clear Pt x7 b7 QN hbc ka kb kc kd ke Rr HOA6 HOV6 X6 PR;rw[TH.out];clear TH;go_loopw [21,22] (λfr i wr=>wr=W7/\∃k:Nat,k<=5/\i=.int .i64 k/\fr=.int .i64 (if k=5 then 2 else 0)) (λ_ i _=>5-(intOf i).toNat)
 case atStart=>exact⟨rfl,0,by decide,rfl,rfl⟩
 case round=>
  obtain⟨rfl,k,hk,rfl,rfl⟩:=hrel;have S_:k=0\/k=1\/k=2\/k=3\/k=4\/k=5:=by omega
  clear hk;rcases S_ with rfl|rfl|rfl|rfl|rfl|rfl
  ·go_wp2_with fail
   refine KA.out.mono ?_;rintro e w' ⟨rfl,rfl⟩;go_wp2_with fail
   go_roundw
   case rel=>exact⟨trivial,1,by decide,rfl,rfl⟩
   case measure=>simp[intOf]
  ·go_wp2_with fail
   refine KB.out.mono ?_;rintro e w' ⟨rfl,rfl⟩;go_wp2_with fail
   go_roundw
   case rel=>exact⟨trivial,2,by decide,rfl,rfl⟩
   case measure=>simp[intOf]
  ·go_wp2_with fail
   refine KC.out.mono ?_;rintro e w' ⟨rfl,rfl⟩;go_wp2_with fail
   go_roundw
   case rel=>exact⟨trivial,3,by decide,rfl,rfl⟩
   case measure=>simp[intOf]
  ·go_wp2_with fail
   refine KD.out.mono ?_;rintro e w' ⟨rfl,rfl⟩;go_wp2_with fail
   go_roundw
   case rel=>exact⟨trivial,4,by decide,rfl,rfl⟩
   case measure=>simp[intOf]
  ·go_wp2_with fail
   refine KE.out.mono ?_;rintro e w' ⟨rfl,rfl⟩;go_wp2_with fail
   go_roundw
   case rel=>exact⟨trivial,5,by decide,rfl,rfl⟩
   case measure=>simp[intOf]
  ·clear m0 m1 m2 m3 m4 m5 m6 m7 m8 m9 KA KB KC KD KE;go_upto_region 21 with(fail)
   obtain⟨tk,PK⟩:=aH (ud (.int .i64 st) (.string ⟨re.toArray⟩) (.int .i64 mi) (.slice a (aI xs).length ac) (.string ⟨bo.toArray⟩) (.int .i64 now) (.int .i64 now) (.slice v (gg xs req).length vc) ky ft false ⟨dev.toArray⟩ (.slice F m d) now (.int .i64 st) (.string ⟨re.toArray⟩) (.int .i64 mi) (.slice A xs.length c) (.string ⟨bo.toArray⟩) true);have QN:=HK7.out;rw[PK]at QN;have OV:=ah PK;have ZK:Hid (tk[0]?=some (.int .i64 st)/\tk[1]?=some (.string ⟨re.toArray⟩)/\tk[2]?=some (.int .i64 mi)/\tk[3]?=some (.slice a (aI xs).length ac)/\tk[4]?=some (.string ⟨bo.toArray⟩)/\tk[5]?=some (.int .i64 now)/\tk[6]?=some (.int .i64 now)/\tk[7]?=some (.slice v (gg xs req).length vc)):=by rw[<-OV.out];exact am ⟨rfl,rfl,rfl,rfl,rfl,rfl,rfl,rfl⟩
   have hel:(aI xs).length<=56:=bj (oM xs) hn;have XK:aE (aI xs)<=7500:=bj (sJ xs) hs;have QS:(gg xs req).length<=4000:=by have:=E9 xs req;omega
   have Sn:aE (gg xs req)<=1000000:=by have:=Ef xs req;omega
   obtain⟨Qa,ZZ⟩:=az HOA7.out HOV7.out;clear PK HK7 HOA7 HOV7;obtain⟨HD,HT⟩:=az hD hT;clear hD hT;go_cut [23] (λkp wx=>∃kb,kp=.bool kb/\TK w0 w sb bl nn mm es put cf tk ky ft wx/\aM W4.heap.size (.slice a (aI xs).length ac) (aI xs) wx/\aM W4.heap.size (.slice v (gg xs req).length vc) (gg xs req) wx)
   case first=>
    have c5:wr.drew.cell? ⟨w.heap.size,5,none⟩=some (.string ⟨dev.toArray⟩):=by have h:=(ab QN.cfg 5).1;rw[<-Sp.out]at h;exact h
    have t0:=aS QN.ptr 0;obtain⟨d0,d1,d2,d3,d4,d5,d6,d7⟩:=ZK.out
    have q0:wr.drew.cell? ⟨w.heap.size+1+1+1,0,none⟩=some (.int .i64 st):=(ab QN.tak 0).1.trans d0;have q1:wr.drew.cell? ⟨w.heap.size+1+1+1,1,none⟩=some (.string ⟨re.toArray⟩):=(ab QN.tak 1).1.trans d1;have q2:wr.drew.cell? ⟨w.heap.size+1+1+1,2,none⟩=some (.int .i64 mi):=(ab QN.tak 2).1.trans d2;have q3:wr.drew.cell? ⟨w.heap.size+1+1+1,3,none⟩=some (.slice a (aI xs).length ac):=(ab QN.tak 3).1.trans d3;have q4:wr.drew.cell? ⟨w.heap.size+1+1+1,4,none⟩=some (.string ⟨bo.toArray⟩):=(ab QN.tak 4).1.trans d4;have q5:wr.drew.cell? ⟨w.heap.size+1+1+1,5,none⟩=some (.int .i64 now):=(ab QN.tak 5).1.trans d5;have q6:wr.drew.cell? ⟨w.heap.size+1+1+1,6,none⟩=some (.int .i64 now):=(ab QN.tak 6).1.trans d6;have q7:wr.drew.cell? ⟨w.heap.size+1+1+1,7,none⟩=some (.slice v (gg xs req).length vc):=(ab QN.tak 7).1.trans d7
    have km:=Fd jR ⟨dev.toArray⟩ F m d req st mi now now ⟨re.toArray⟩ ⟨bo.toArray⟩ a v (aI xs).length ac (gg xs req).length vc (aI xs) wr.drew (HD.out.below QN.drew.sk.live.base) (HQ.out _ QN.drew.sk.kept) hm Qo (aM.rd (aM.drew Qa.out)).2 (by omega) XK (by omega);unfold dI at km;obtain⟨KM,HK⟩:=az km QN;clear km QN d0 d1 d2 d3 d4 d5 d6 d7;go_still_tail 7,(by kernel_rfl)
    change wpList _ _ _ _ _ wr.drew
    go_wp2_with fail
    refine KM.out.mono ?_;rintro e w8 ⟨rfl,Oa⟩;have HF:=ah (aB (HK.out.drew.below Oa) (aB (aM.below (aM.drew Qa.out) Oa) (aM.below (aM.drew ZZ.out) Oa)));clear KM HK Oa q0 q1 q2 q3 q4 q5 q6 q7 t0 c5;go_wp2_with fail
    go_meet;exact⟨_,rfl,HF.out⟩
   case rest=>
   clear QN;obtain⟨kb,rfl,Si,hA8,hV8⟩:=hcut;obtain⟨W8,rfl⟩:∃W,W=wc:=⟨_,rfl⟩;obtain⟨HK8,HA8,HV8⟩:=bu Si hA8 hV8;clear Si hA8 hV8 Qa ZZ;go_upto_if 124 with(fail)
   go_cut []from 125 to 140 (λwx=>∃NE put',put<=put'/\put'<=put+1/\TK w0 w sb bl nn mm NE put' cf tk ky ft wx/\aM W4.heap.size (.slice a (aI xs).length ac) (aI xs) wx)
   case first=>
    have Si:=HK8.out
    cases kb
    ·have p3:=aS Si.plan 3;clear Si;go_wp2_with fail
     go_meet;exact⟨es,put,iR _,by omega,HK8.out,HA8.out⟩
    ·have t0:=aS Si.ptr 0;have p0:=aS Si.plan 0;obtain⟨d0,d1,d2,d3,d4,d5,d6,d7⟩:=ZK.out
     have q0:W8.drew.cell? ⟨w.heap.size+1+1+1,0,none⟩=some (.int .i64 st):=(ab Si.tak 0).1.trans d0;have q1:W8.drew.cell? ⟨w.heap.size+1+1+1,1,none⟩=some (.string ⟨re.toArray⟩):=(ab Si.tak 1).1.trans d1;have q2:W8.drew.cell? ⟨w.heap.size+1+1+1,2,none⟩=some (.int .i64 mi):=(ab Si.tak 2).1.trans d2;have q3:W8.drew.cell? ⟨w.heap.size+1+1+1,3,none⟩=some (.slice a (aI xs).length ac):=(ab Si.tak 3).1.trans d3;have q4:W8.drew.cell? ⟨w.heap.size+1+1+1,4,none⟩=some (.string ⟨bo.toArray⟩):=(ab Si.tak 4).1.trans d4;have q5:W8.drew.cell? ⟨w.heap.size+1+1+1,5,none⟩=some (.int .i64 now):=(ab Si.tak 5).1.trans d5;have q6:W8.drew.cell? ⟨w.heap.size+1+1+1,6,none⟩=some (.int .i64 now):=(ab Si.tak 6).1.trans d6;have q7:W8.drew.cell? ⟨w.heap.size+1+1+1,7,none⟩=some (.slice v (gg xs req).length vc):=(ab Si.tak 7).1.trans d7
     have kp:=Fu Si.drew.sk.live ky.data.toList st mi now now ⟨re.toArray⟩ ⟨bo.toArray⟩ a v (aI xs).length ac (gg xs req).length vc (aI xs) (gg xs req) (λW hk=>(aM.rd (pI (aM.drew HA8.out) hk)).2) (λW hk=>(aM.rd (pI (aM.drew HV8.out) hk)).2) (by simpa using hky) (by omega) QS (by omega) Sn (by rw[dj];omega) (by rw[dj];omega) (by omega) HT.out;simp only[bN]at kp;unfold dI at kp;have KP:=ah kp;clear kp Si d0 d1 d2 d3 d4 d5 d6 d7;go_upto_region 23 with(fail)
     go_still_tail 7,(by kernel_rfl)
     change wpList _ _ _ _ _ W8.drew
     go_wp2_with fail
     refine KP.out.mono ?_;rintro e w9 ⟨x,-,rfl,hl9,hk9⟩;have HF:=ah (aB (HK8.out.drew.to hl9 hk9) (pI (aM.drew HA8.out) hk9));clear KP hl9 hk9 q0 q1 q2 q3 q4 q5 q6 q7 t0 p0;go_wp2_with fail
     go_meet;exact⟨_,_,by omega,iR _,HF.out⟩
   case rest=>
   clear HK8 HA8 HV8;obtain⟨NE,put',Ut,Ur,Z5,hA9⟩:=hcut;obtain⟨W9,rfl⟩:∃W,W=wc:=⟨_,rfl⟩;have hi9:=Z5.hi;have t0:=aS Z5.ptr 0;have X_:=Z5.tak;rw[<-OV.out]at X_;have kz:=Cd (w.heap.size+1+1+1) ky ft ⟨dev.toArray⟩ (.slice F m d) (.int .i64 st) (.string ⟨re.toArray⟩) (.int .i64 mi) (.slice A xs.length c) (.string ⟨bo.toArray⟩) true a v (aI xs).length ac (gg xs req).length vc (aI xs) now st mi now now 2 ⟨re.toArray⟩ ⟨bo.toArray⟩ kb W9 (HD.out.below Z5.sk.live.base) X_ hA9.rd.2 (by omega) (by omega) (by decide) (by omega) (by omega) (by omega);have HK9:=ah Z5;clear Z5 X_ hA9;unfold cW at kz;have KZ:=ah kz;clear kz;go_wp2_with fail
   refine KZ.out.mono ?_;rintro e wx ⟨a2,c2,nv,nc,left,esi,rfl,QB,Pu,PM,TI⟩;have Yk:=HK9.out.below TI;have SA:=Yk.res;unfold cW at SA;have r0:=aS SA 0;have r1:=aS SA 1;have r2:=aS SA 2;have r3:=aS SA 3;have r4:=aS SA 4;have r5:=aS SA 5;have r6:=aS SA 6;have r7:=aS SA 7;have r8:=aS SA 8;have r9:=aS SA 9;have l0:=λj:Nat=>(ab SA j).2.1
   have h10:=DC (.int .i64 st) (.string ⟨re.toArray⟩) (.int .i64 mi) (.slice a2 (aI xs).length c2) (.string ⟨bo.toArray⟩) (.int .i64 2) (.int .i64 (dz (aI xs) now now now)) (.int .i64 left) (.bool esi) (.slice nv (dw (bz (aI xs))).length nc) Yk.res;have TD:=pA (w.heap.size+1+1) wx (.int .i64 st) (.string ⟨re.toArray⟩) (.int .i64 mi) (.slice a2 (aI xs).length c2) (.string ⟨bo.toArray⟩) (.int .i64 2) (.int .i64 (dz (aI xs) now now now)) (.int .i64 left) (.bool esi) (.slice nv (dw (bz (aI xs))).length nc);have TS:=Yk.sk.live.beside Yk.res gJ (by have:=Yk.sk.hi;omega) TD;have hkx:=Yk.sk.kept.beside (by omega) TD;have RY:=bi Pu TD (by omega);have RS:=bi PM TD (by omega);have HF:=ah (aB h10 (aB TS (aB hkx (aB RY (aB RS QB)))));have hw9:w.heap.size<=W9.heap.size:=by omega
   clear h10 TD TS hkx RY RS QB Pu PM TI Yk SA KZ HK9;go_wp2_with fail
   obtain⟨h1,h2,h3,h4,h5,h6⟩:=HF.out;have b0:=(ab h1 0).1;have b1:=(ab h1 1).1;have b2:=(ab h1 2).1;have b3:=(ab h1 3).1;have b4:=(ab h1 4).1;have b5:=(ab h1 5).1;have b6:=(ab h1 6).1;have b7:=(ab h1 7).1;have b8:=(ab h1 8).1;have b9:=(ab h1 9).1;unfold cW at b0 b1 b2 b3 b4 b5 b6 b7 b8 b9;simp only[cT,cS,cv]at b0 b1 b2 b3 b4 b5 b6 b7 b8 b9;refine bodyPost_ret_by (v:=.agg (cW (.int .i64 st) (.string ⟨re.toArray⟩) (.int .i64 mi) (.slice a2 (aI xs).length c2) (.string ⟨bo.toArray⟩) (.int .i64 2) (.int .i64 (dz (aI xs) now now now)) (.int .i64 left) (.bool esi) (.slice nv (dw (bz (aI xs))).length nc))) ?_ rfl ?_
   ·unfold cW;simp[results,Tryz.results170,go_sem,b0,b1,b2,b3,b4,b5,b6,b7,b8,b9]
   ·exact⟨a2,c2,nv,nc,left,esi,NE,put',rfl,h6,aM.base h4 hw9,aQ.base h5 hw9,h2,Ut,Ur,h3⟩
theorem GD(B:Nat){w:World}{v:Value}{fs:List (List UInt8)}(Nj:aQ B v fs w)(hB:B<=w.heap.size){A:Option Addr}{n c:Nat}{ys:List (List UInt8)}(hr:Rd A n 1 (aF ys) w)(hn:fs.length+n<=1000000000)(ty:TypeId):∃v' w1,(Builtin.append_ #[30,30] ty #[v,.slice A n c]).run Tryz.prog w=.ok v' w1/\aQ B v' (fs++ys) w1/\Below B w w1/\pD w w1 v v':=by
 obtain rfl:=hr.str;obtain⟨i0,hi,N_,NZ,N6⟩:=info_parts IF;by_cases h0:A=none
 ·subst h0
  have hy:ys.length=0:=by
   rcases mw ys.length with h|h
   ·exact h
   ·obtain⟨b,o',e,_⟩:=hr.2 h;cases e
  have RH:ys=[]:=mz hy;subst RH;refine⟨v,w,jp w B _ _ 9 i0 1 c Tryz.underlying30 hi v _ _ Nj,by rw[e9];exact Nj,aO _ _,⟨⟨rfl,rfl,rfl,aw _,λ_ _ _=>rfl⟩,Or.inl rfl⟩⟩
 ·obtain⟨ad,rfl⟩:=Option.ne_none_iff_exists'.1 h0
  obtain⟨v',w',NQ,h2,h3,_,h5⟩:=run_append_own_at (P:=Tryz.prog) w B 30 ty 9 i0 (.string ByteArray.empty) 1 16 Tryz.underlying30 hi N_ NZ N6 rfl (by decide) v fs.length (aF fs) Nj ad ys.length c (aF ys) (by rw[fI,Nat.mul_one]) (by
   intro j u hj;have Qd:j<ys.length:=by have:=(mj.1 hj).1;rwa [fI]at this
   obtain⟨b,o',e,_,hc⟩:=hr.2 (by omega)
   cases e
   have e2:(⟨b,o',none⟩:Addr).add j=⟨b,o'+j,none⟩:=by unfold Addr.add;split<;>simp_all
   rw[e2];exact hc j u hj) (ox ys) (by unfold maxLen;omega) (by omega) hB
  refine⟨v',w',NQ,?_,(aO B w).grown h3 hB (λk hk=>(World.ownsRow.lt Nj k hk).1),⟨h3,?_⟩⟩
  ·unfold aQ;rw[bP,cO];exact h2
  ·rcases h5 with h|h
   ·exact Or.inl h
   ·refine Or.inr λg hg=>?_
    rw[h]at hg;have:=lv hg;omega
theorem DU{ops:Array Oper}{o:Oper}{a:Act}{K:Act->World->Prop}{Q:Exit->Act->World->Prop}{G:Prop}(B:Nat)(s x:Operand){v:Value}{A:Option Addr}{n c:Nat}{fs ys:List (List UInt8)}{w:World}(Ot:o.guard=none)(ho:o.op=.call { callee:=.builtin .append,args:=#[s,x],argTypes:=#[30,30] })(hs:a.eval s=v)(hx:a.eval x=.slice A n c)(hl:aQ B v fs w)(hX:Rd A n 1 (aF ys) w)(hB:B<=w.heap.size)(hn:fs.length+n<=1000000000)(hK:∀v' w1,aQ B v' (fs++ys) w1->Below B w w1->K (a.put o.dst v') w1):if Region.wanted o (yielded ops a.tmps)=true then Oper.wp Tryz.prog o a w K Q else G:=by rw[if_pos (by simp[Region.wanted,Ot])];obtain⟨v',w1,NQ,h1,h2,h3⟩:=GD B (c:=c) hl hB hX hn o.type;unfold Oper.wp execOp;simp only[ho,resolve,invoke,builtin,Sem.run_bind,Sem.run_pure,Result.andThen_ok,List.map_toArray,bw,List.map_nil,hs,hx,NQ];exact hK v' w1 h1 h2
def cR(T:Nat)(w w':World):Prop:=w.heap.size<=w'.heap.size/\∀(g:Nat)(cs:Array Value)(Y:TypeId)(z:Nat × Nat),w.heap[g]?=some (Obj.cells cs Y z)->g≠T->Y≠171->Y≠174->Y≠116->w'.heap[g]?=some (Obj.cells cs Y z)
theorem cR.trans{T:Nat}{a b c:World}(h:cR T a b)(k:cR T b c):cR T a c:=⟨bj h.1 k.1,λg cs Y z h1 h2 h3 h4 h5=>k.2 g cs Y z (h.2 g cs Y z h1 h2 h3 h4 h5) h2 h3 h4 h5⟩
theorem cR.kept{T:Nat}{a b:World}(h:de a b):cR T a b:=⟨h.1,λg cs Y z h1 _ h3 h4 h5=>h.2 g cs Y z h1 h3 h4 h5⟩
theorem cR.beside{T:Nat}{a b:World}(h:ap T a b):cR T a b:=⟨h.size,λg cs Y z h1 h2 _ _ _=>(h.2 g (ae h1) h2).trans h1⟩
theorem cR.below{T:Nat}{a b c:World}(h:cR T a b)(hb:Below b.heap.size b c):cR T a c:=h.trans (cR.kept (de.of_below hb))
theorem cR.blk{T:Nat}{a b:World}(h:cR T a b){g:Nat}{cs:Array Value}{Y:TypeId}{z:Nat × Nat}(hg:a.heap[g]?=some (.cells cs Y z))(hY:gd Y)(Ng:g≠T):b.heap[g]?=some (.cells cs Y z):=h.2 g cs Y z hg Ng hY.2.1 hY.2.2.1 hY.2.2.2
def rV(sb:Nat)(C:B8)(CA:Option Addr)(cc:Nat)(last:Int):Array Value:=#[.pointer (some ⟨sb,0,none⟩),.string ⟨C.host.toArray⟩,.int .i64 C.en,.int .i64 C.by',.int .i64 C.inc,.int .i64 C.dep,.string ⟨C.dev.toArray⟩,.slice CA C.fwd.length cc,.int .i64 last]
theorem wV{w:World}{sb:Nat}{fp:List Nat}{bl:Nat}{n m:Int}{put:Int}(h:fm w sb fp bl n m [] put)(kk:List UInt8):Calls Tryz.prog 168 #[.pointer (some ⟨sb,0,none⟩),.string ⟨kk.toArray⟩] w λe w'=>e=.returned (.slice none 0 0)/\Below w.heap.size w w':=by
 have c0:=(ab h.blk 0).1;have z0:=h.lt;simp only[cT,cS]at c0;unfold ptr at c0;have K1:=ah (rO h);have K2:=ah (Dh h.bud);clear h;go_enter Tryz.func168,Tryz.ntmps168
 go_wp2_with fail
 refine K1.out.mono ?_;rintro e w1 ⟨rfl,rfl⟩;go_wp2_with fail
 refine K2.out.mono ?_;rintro e w1 ⟨ka,kc,rfl,-,M8⟩;rw[show(fu (([]:List cw).map (·.key))).length=0 from rfl];clear K1 K2;go_wp2_with fail
 go_loopw [21,5] (λi out wr=>i=.int .i64 0/\out=.slice none 0 0/\wr=w1) (λi _ _=>0)
 case atStart=>exact⟨rfl,rfl,rfl⟩
 case round=>obtain⟨rfl,rfl,rfl⟩:=hrel;go_wp2;go_ret;exact⟨rfl,M8⟩
theorem A0{w0 w:World}{sb bl:Nat}{nn mm:Int}{put:Int}(h:dS w0 w sb bl nn mm [] put)(kk:List UInt8):Calls Tryz.prog 168 #[.pointer (some ⟨sb,0,none⟩),.string ⟨kk.toArray⟩] w λe w'=>e=.returned (.slice none 0 0)/\Below w.heap.size w w':=by obtain⟨fp,ha,h1,hf⟩:=h;exact wV ha kk
structure OB(w0 w:World)(X:Nat)(k:bY)(sb bl:Nat)(nn mm:Int)(es:List cw)(put:Int)(u:fg)(W:World):Prop where
 uri:W.heap[w.heap.size]?=some (.cells #[.string ⟨u.scheme.toArray⟩,.string ⟨u.host.toArray⟩,.int .i64 u.port,.string ⟨u.path.toArray⟩,.string ⟨u.query.toArray⟩,.bool u.hasQ] 93 (0,0))
 res:W.heap[w.heap.size+1]?=some (.cells (cW (.int .i64 0) (.string ⟨#[]⟩) (.int .i64 0) (.slice none 0 0) (.string ⟨#[]⟩) (.int .i64 0) (.int .i64 0) (.int .i64 0) (.bool false) (.slice none 0 0)) 207 (0,0))
 call:aP X k W
 live:dS w0 W sb bl nn mm es put
 keep:cR X w W
 hiX:w0.heap.size<=X
 ltX:X<w.heap.size
section
variable {w0 w W W':World}{X:Nat}{k:bY}{sb bl:Nat}{nn mm:Int}{es:List cw}{put:Int}{u:fg}
theorem OB.below(h:OB w0 w X k sb bl nn mm es put u W)(hb:Below W.heap.size W W'):OB w0 w X k sb bl nn mm es put u W':=⟨(hb.block _ (ae h.uri)).trans h.uri,(hb.block _ (ae h.res)).trans h.res,h.call.below hb,h.live.below hb,h.keep.below hb,h.hiX,h.ltX⟩
theorem OB.drew(h:OB w0 w X k sb bl nn mm es put u W):OB w0 w X k sb bl nn mm es put u W.drew:=h.below (aO _ _).drew
theorem Fb:gd 93:=⟨by decide,by decide,by decide,by decide⟩
theorem OB.to{NE:List cw}{put':Int}(h:OB w0 w X k sb bl nn mm es put u W)(hl:dS w0 W' sb bl nn mm NE put')(hk:de W W'):OB w0 w X k sb bl nn mm NE put' u W':=⟨hk.blk h.uri Fb,hk.blk h.res gJ,hk.blk h.call gC,hl,h.keep.trans (cR.kept hk),h.hiX,h.ltX⟩
theorem OB.side{k':bY}(h:OB w0 w X k sb bl nn mm es put u W)(hs:ap X W W')(hc:aP X k' W'):OB w0 w X k' sb bl nn mm es put u W':=⟨(hs.2 _ (ae h.uri) (by have:=h.ltX;omega)).trans h.uri,(hs.2 _ (ae h.res) (by have:=h.ltX;omega)).trans h.res,hc,h.live.beside h.call gC h.hiX hs,h.keep.trans (cR.beside hs),h.hiX,h.ltX⟩
theorem OB.hi(h:OB w0 w X k sb bl nn mm es put u W):w.heap.size+1<W.heap.size:=ae h.res
end
theorem L_{w:World}{b:Nat}{T:TypeId}{u0 u1 u2 u3 u4 u5 u6 u7 u8 u9 u10 u11:Value}(v0 v1 v2 v3 v4 v5 v6 v7 v8 v9 v10 v11:Value)(h:w.heap[b]?=some (.cells #[u0,u1,u2,u3,u4,u5,u6,u7,u8,u9,u10,u11] T (0,0))):((((((((((((w.setCell ⟨b,0,none⟩ v0).setCell ⟨b,1,none⟩ v1).setCell ⟨b,2,none⟩ v2).setCell ⟨b,3,none⟩ v3).setCell ⟨b,4,none⟩ v4).setCell ⟨b,5,none⟩ v5).setCell ⟨b,6,none⟩ v6).setCell ⟨b,7,none⟩ v7).setCell ⟨b,8,none⟩ v8).setCell ⟨b,9,none⟩ v9).setCell ⟨b,10,none⟩ v10).setCell ⟨b,11,none⟩ v11).heap[b]?=some (.cells #[v0,v1,v2,v3,v4,v5,v6,v7,v8,v9,v10,v11] T (0,0)):=by have h1:=(aj (j:=11) (v:=v11) (aj (j:=10) (v:=v10) (aj (j:=9) (v:=v9) (aj (j:=8) (v:=v8) (aj (j:=7) (v:=v7) (aj (j:=6) (v:=v6) (aj (j:=5) (v:=v5) (aj (j:=4) (v:=v4) (aj (j:=3) (v:=v3) (aj (j:=2) (v:=v2) (aj (j:=1) (v:=v1) (aj (j:=0) (v:=v0) h))))))))))));simp only[cH,cI,cF]at h1;exact h1
theorem Hw(b:Nat)(w:World)(v0 v1 v2 v3 v4 v5 v6 v7 v8 v9 v10 v11:Value):ap b w ((((((((((((w.setCell ⟨b,0,none⟩ v0).setCell ⟨b,1,none⟩ v1).setCell ⟨b,2,none⟩ v2).setCell ⟨b,3,none⟩ v3).setCell ⟨b,4,none⟩ v4).setCell ⟨b,5,none⟩ v5).setCell ⟨b,6,none⟩ v6).setCell ⟨b,7,none⟩ v7).setCell ⟨b,8,none⟩ v8).setCell ⟨b,9,none⟩ v9).setCell ⟨b,10,none⟩ v10).setCell ⟨b,11,none⟩ v11):=((((((((((((ap.refl b w).set 0 v0).set 1 v1).set 2 v2).set 3 v3).set 4 v4).set 5 v5).set 6 v6).set 7 v7).set 8 v8).set 9 v9).set 10 v10).set 11 v11
theorem jv:gd 62:=⟨by decide,by decide,by decide,by decide⟩
theorem OB.other{w0 w W W':World}{X:Nat}{k:bY}{sb bl:Nat}{nn mm:Int}{es:List cw}{put:Int}{u:fg}{P:Nat}{cs:Array Value}{T:TypeId}{z:Nat × Nat}(h:OB w0 w X k sb bl nn mm es put u W)(hs:ap P W W')(hP:W.heap[P]?=some (.cells cs T z))(hT:gd T)(hw:w.heap.size+2<=P):OB w0 w X k sb bl nn mm es put u W':=
 ⟨(hs.2 _ (ae h.uri) (by omega)).trans h.uri,(hs.2 _ (ae h.res) (by omega)).trans h.res,(hs.2 _ (ae h.call) (by have:=h.ltX;omega)).trans h.call,h.live.beside hP hT (by have:=h.hiX;have:=h.ltX;omega) hs,
  ⟨bj h.keep.1 hs.size,fun g cs Y z h1 h2 h3 h4 h5=>by have h6:=h.keep.2 g cs Y z h1 h2 h3 h4 h5;exact(hs.2 g (ae h6) (by have:=ae h1;omega)).trans h6⟩,h.hiX,h.ltX⟩
abbrev Mw(k:bY)(aa:Option Addr)(ca:Nat):bY:={ k with asked:=.slice aa 1 ca,used:=1 }
abbrev MZ(k:bY)(aa:Option Addr)(ca:Nat)(sv:Option Addr)(n c:Nat):bY:={ k with asked:=.slice aa 1 ca,used:=1,seen:=.slice sv n c }
abbrev MV(k:bY)(aa:Option Addr)(ca:Nat)(sv:Option Addr)(n c:Nat)(rep:lu):bY:={ k with asked:=.slice aa 1 ca,used:=1,seen:=.slice sv n c,age:=max k.age (dz (aI rep.fields) k.now k.now k.now) }
abbrev MW(k:bY)(aa:Option Addr)(ca:Nat)(sv:Option Addr)(n c:Nat)(rep:lu)(left:Int):bY:={ k with asked:=.slice aa 1 ca,used:=1,seen:=.slice sv n c,age:=max k.age (dz (aI rep.fields) k.now k.now k.now),left:=min k.left left }
abbrev tj(rep:lu)(k:bY)(a:Option Addr)(ac:Nat)(left:Int)(esi:Bool)(nv:Option Addr)(n nc:Nat):Array Value:=#[.int .i64 rep.status,.string ⟨rep.reason.toArray⟩,.int .i64 rep.minor,.slice a (aI rep.fields).length ac,.string ⟨rep.body.toArray⟩,.int .i64 2,.int .i64 (dz (aI rep.fields) k.now k.now k.now),.int .i64 left,.bool esi,.slice nv n nc]
theorem AS{w0 w:World}{sb bl:Nat}{nn mm:Int}{put:Int}(hl:dS w0 w sb bl nn mm [] put)(X:Nat)(k:bY)(C:B8)(CA F:Option Addr)(cc m d O o om od:Nat)(last:Int)(u:fg)(req:List aU)(oc:Array Value)(b:ByteArray)(rep:lu)(hD:d9 w0)(hT:dV w0)(hE:gD w0)(hC:aP X k w)(hX:w0.heap.size<=X)(hS:w.heap[k.sg]?=some (.cells (rV sb C CA cc last) 68 (0,0)))(hF:∀W,cR X w W->Rd CA C.fwd.length 1 (aF C.fwd) W)(Ti:k.qf=.slice F m d)(hq:∀W,cR X w W->Rd F m 2 (aJ req) W)(VZ:k.l=.slice (some ⟨O,o,none⟩) om od)(Vo:1<=om/\om<=1000000)(hO:w.heap[O]?=some (.cells oc 62 (0,0)))(Tp:oc[o]?=some (.string b))(Nr:oc[o+1]?=some (.bool true))(Ux:k.asked=.slice none 0 0)(QF:k.used=0)(OA:k.seen=.slice none 0 0)(hu:lI u)(hn:C.fwd.length<=16)(hm:m<=100)(Q8:cj u=0)(TF:C.dev.length<=100000)(Pd:(jI C.dev).length<=1000)(PX:∀x∈C.fwd,x.length<=1000)(Qo:aE req<=7500)(PS:(nI u).length<=1000)(QT:jL C.dev C.fwd u req []≠[])(Qf:ep b.data.toList false=(rep,b.size,0))(N9:b.size<=100000)(Nd:200<=rep.status/\rep.status<=999)(Pq:rep.status≠304)(QZ:rep.fields.length<=56)(Tm:aE rep.fields<=7500)(PC:rep.reason.length<=10000)(O9:rep.body.length<=262144)(hp:0<=put/\put<=999)(RR:0<=k.now/\k.now<=253402300799):Calls Tryz.prog 120 #[.pointer (some ⟨X,0,none⟩),dR u] w λe w'=>∃a ac nv RW nc left esi NE put' aa ca sv sn sc,e=.returned (.agg (cW (.int .i64 rep.status) (.string ⟨rep.reason.toArray⟩) (.int .i64 rep.minor) (.slice a (aI rep.fields).length ac) (.string ⟨rep.body.toArray⟩) (.int .i64 2) (.int .i64 (dz (aI rep.fields) k.now k.now k.now)) (.int .i64 left) (.bool esi) (.slice nv RW nc)))/\esi=((rep.status==200)&&(vj (af (aI rep.fields) jb) C.dev).esi)/\aM w.heap.size (.slice a (aI rep.fields).length ac) (aI rep.fields) w'/\(∃names,sn<=4000/\aQ w.heap.size (.slice sv sn sc) names w') ∧ aP X { k with asked:=.slice aa 1 ca,used:=1,seen:=.slice sv sn sc,age:=max k.age (dz (aI rep.fields) k.now k.now k.now),left:=min k.left left } w'/\dS w0 w' sb bl nn mm NE put'/\put<=put'/\put'<=put+1/\cR X w w':=by
 have Nc:=ae hC
 have U2:k.sg≠X:=λe=>by
  have h1:=hS;rw[e]at h1;have h2:=h1.symm.trans hC;injection h2 with h2
  injection h2 with _ h2 _
  exact absurd h2 (by decide)
 have UA:O≠X:=λe=>by
  have h1:=hO;rw[e]at h1;have h2:=h1.symm.trans hC;injection h2 with h2
  injection h2 with _ h2 _
  exact absurd h2 (by decide)
 obtain⟨Ws,Wf⟩:=az U2 UA;clear U2 UA;obtain⟨WA,NK⟩:=bg w (.cells #[.string ⟨u.scheme.toArray⟩,.string ⟨u.host.toArray⟩,.int .i64 u.port,.string ⟨u.path.toArray⟩,.string ⟨u.query.toArray⟩,.bool u.hasQ] 93);obtain⟨WB,Sj⟩:=bg WA lq;have bA:=bm NK;have bB:=bm Sj;have zA:WA.heap.size=w.heap.size+1:=by rw[<-NK];simp
 have VB:OB w0 w X k sb bl nn mm [] put u WB:=⟨(bB.block _ (by omega)).trans (by rw[<-NK];exact ay w _ _ rfl),by rw[<-Sj,<-zA];exact ay WA _ _ rfl,hC.below (bt bA bB),hl.below (bt bA bB),cR.kept (de.of_below (bt bA bB)),hX,Nc⟩;obtain⟨Tn,WM,HOB,HD,HT,HE⟩:=eN NK Sj VB hD hT hE;obtain⟨HS,HF,HQ,HQF,HOL,HO⟩:=eN hS hF hq Ti VZ hO;obtain⟨Wq,OW,YO,YQ,Th,SS⟩:=eN Tp Nr Ux QF OA Qf;obtain⟨Wn,HCU,HU,HFS⟩:=bK QT Q8 hu PX;clear NK Sj VB bA bB hl hD hT hE hC hX hS hF Ti hq VZ hO Tp Nr Ux QF OA Qf QT Q8 hu PX;have kk:=λW(hb:Below w0.heap.size w0 W)=>wm jR u W (HD.out.1.below hb) (HT.out.on hb) HU.out rfl
 have kl:=λ(W:World)(k':bY)(h:OB w0 w X k' sb bl nn mm [] put u W)=>EI h.live C CA F cc m d k.now u req HD.out.1 HT.out HU.out (λW' hk=>HF.out W' (h.keep.trans (cR.kept hk))) (λW' hk=>HQ.out W' (h.keep.trans (cR.kept hk))) hn hm HCU.out TF Pd HFS.out (by omega) PS rfl
 have kn:=λ(W:World)(k':bY)(h:OB w0 w X k' sb bl nn mm [] put u W)=>A0 h.live (nI u)
 have kt:=λ(W:World)(k':bY)(h:OB w0 w X k' sb bl nn mm [] put u W)=>EM h.live C CA F cc m d k.now req ⟨(nI u).toArray⟩ ⟨(jL C.dev C.fwd u req []).toArray⟩ b rep HD.out HT.out HE.out (λW' hk=>HQ.out W' (h.keep.trans (cR.kept hk))) hm Qo (by simpa using Wn.out) (by rw[dj];exact PS) SS.out N9 Nd Pq QZ Tm PC O9 hp RR
 have PT:(⟨(jL C.dev C.fwd u req []).toArray⟩:ByteArray).data.toList≠[]:=by simpa using Wn.out
 generalize (⟨(jL C.dev C.fwd u req []).toArray⟩:ByteArray)=ft at*;generalize nI u=ky at*;unfold pB zU uG dP at kl kt;unfold cW at kt;obtain⟨KK,KL,KN,KT,U4⟩:=gB kk kl kn kt PT;clear kk kl kn kt PT Wn HFS HCU HU HE SS;obtain⟨sc,ho,po,pa,qu,uq⟩:=u;simp only at*
 unfold dR at*;simp only at*
 have hsur:∀W k',k'.sg=k.sg->OB w0 w X k' sb bl nn mm [] put ⟨sc,ho,po,pa,qu,uq⟩ W->W.heap[k.sg]?=some (.cells (rV sb C CA cc last) 68 (0,0))/\W.cell? ⟨X,0,none⟩=some (.pointer (some ⟨k.sg,0,none⟩))/\W.cell? ⟨k.sg,0,none⟩=some (.pointer (some ⟨sb,0,none⟩)):=λW k' he h=>by have h1:=h.keep.blk HS.out lF Ws.out;exact⟨h1,by rw[(h.call.at 0).1,<-he];rfl,(ab h1 0).1⟩
 have Xc:∀W NE put' k',k'.sg=k.sg->OB w0 w X k' sb bl nn mm NE put' ⟨sc,ho,po,pa,qu,uq⟩ W->W.heap[k.sg]?=some (.cells (rV sb C CA cc last) 68 (0,0))/\W.cell? ⟨X,0,none⟩=some (.pointer (some ⟨k.sg,0,none⟩))/\W.cell? ⟨k.sg,0,none⟩=some (.pointer (some ⟨sb,0,none⟩)):=λW NE put' k' he h=>by have h1:=h.keep.blk HS.out lF Ws.out;exact⟨h1,by rw[(h.call.at 0).1,<-he];rfl,(ab h1 0).1⟩
 obtain⟨HSUR,HSURE⟩:=az hsur Xc;clear hsur Xc;go_enter Tryz.func120,Tryz.ntmps120
 go_upto_region 1 with(fail)
 rw[Tn.out,WM.out];clear Tn WM;go_cut [] (λwx=>OB w0 w X k sb bl nn mm [] put ⟨sc,ho,po,pa,qu,uq⟩ wx)
 case first=>
  have kc:∀w',OB w0 w X k sb bl nn mm [] put ⟨sc,ho,po,pa,qu,uq⟩ w'->w'.cell? ⟨X,0,none⟩=some (.pointer (some ⟨k.sg,0,none⟩))/\w'.cell? ⟨X,20,none⟩=some (.slice none 0 0)/\w'.cell? ⟨k.sg,0,none⟩=some (.pointer (some ⟨sb,0,none⟩))/\w'.cell? ⟨w.heap.size,0,none⟩=some (.string ⟨sc.toArray⟩)/\w'.cell? ⟨w.heap.size,1,none⟩=some (.string ⟨ho.toArray⟩)/\w'.cell? ⟨w.heap.size,2,none⟩=some (.int .i64 po)/\w'.cell? ⟨w.heap.size,3,none⟩=some (.string ⟨pa.toArray⟩)/\w'.cell? ⟨w.heap.size,4,none⟩=some (.string ⟨qu.toArray⟩)/\w'.cell? ⟨w.heap.size,5,none⟩=some (.bool uq):=λW h=>by obtain⟨-,s2,s3⟩:=HSUR.out W k rfl h;have hu:=h.uri;exact⟨s2,by rw[<-Th.out];exact(h.call.at 20).1,s3,(ab hu 0).1,(ab hu 1).1,(ab hu 2).1,(ab hu 3).1,(ab hu 4).1,(ab hu 5).1⟩
  have KC:=ah kc;have Pa:=ah HOB.out.drew;clear kc;refine BW KC.out Pa.out λM7=>?_
  refine aX 0 1 2 3 M7 ?_;refine aX 4 5 6 7 M7 ?_;refine aX 8 9 10 11 M7 ?_;refine fM 12 M7 ?_;refine cL 13 λK hK=>?_
  go_simp;refine(KK.out _ Pa.out.live.base).mono ?_;rintro e w2 ⟨rfl,M9⟩;have NM:=ah (Pa.out.below M9);clear M9;go_wp2_with fail
  refine hK.out _ _ (KC.out _ NM.out) (λM7=>?_);clear hK K
  try simp only[Act.put,go,gk,gn]
  refine cL 14 λK hK=>?_
  go_simp;refine(KN.out _ k NM.out).mono ?_;rintro e w3 ⟨rfl,Na⟩;have Ob:=ah (NM.out.below Na);clear Na;go_wp2_with fail
  refine hK.out _ _ (KC.out _ Ob.out) (λM7=>?_);clear hK K
  try simp only[Act.put,go,gk,gn]
  refine cL 15 λK hK=>?_
  go_simp;refine hK.out _ _ (KC.out _ Ob.out) (λM7=>?_);clear hK K;refine eC 16 17 M7 ?_;have e20:w3.cell? ⟨X,20,none⟩=some (.slice none 0 0):=(KC.out _ Ob.out).2.1;have z20:=(Ob.out.call.at 20).2;have Pj:=ah (Ob.out.side (ap.setCell X 20 w3 (.slice none 0 0)) (k':=k) (by have h:=Ob.out.call.seen (.slice none 0 0);have e:({ k with seen:=.slice none 0 0 }:bY)=k:=by {rw[<-Th.out]};rw[e]at h;exact h));refine cL 18 λK hK=>?_
  go_simp;refine hK.out _ _ (KC.out _ Pj.out) (λM7=>?_);clear hK K
  try simp only[Act.put,go,gk,gn]
  refine wpAnyH_done (by kernel_rfl) ?_ _;clear M7;go_wp2_with fail
  go_meet;exact Pj.out
 case rest=>
 clear HOB KN;have OW:=ah hcut;clear hcut;obtain⟨W1,rfl⟩:∃W,W=wc:=⟨_,rfl⟩;go_upto_region 2 with(fail)
 go_cut [5,6] (λp e wx=>∃P,p=.pointer (some ⟨P,0,none⟩)/\e=.int .i64 0/\w.heap.size+2<=P/\wx.heap[P]?=some (.cells (dP ⟨ky.toArray⟩ ft false false) 260 (0,0))/\OB w0 w X k sb bl nn mm [] put ⟨sc,ho,po,pa,qu,uq⟩ wx)
 case first=>
  have kc:∀w',OB w0 w X k sb bl nn mm [] put ⟨sc,ho,po,pa,qu,uq⟩ w'->w'.cell? ⟨X,0,none⟩=some (.pointer (some ⟨k.sg,0,none⟩))/\w'.cell? ⟨k.sg,0,none⟩=some (.pointer (some ⟨sb,0,none⟩))/\w'.cell? ⟨k.sg,1,none⟩=some (.string ⟨C.host.toArray⟩)/\w'.cell? ⟨k.sg,2,none⟩=some (.int .i64 C.en)/\w'.cell? ⟨k.sg,3,none⟩=some (.int .i64 C.by')/\w'.cell? ⟨k.sg,4,none⟩=some (.int .i64 C.inc)/\w'.cell? ⟨k.sg,5,none⟩=some (.int .i64 C.dep)/\w'.cell? ⟨k.sg,6,none⟩=some (.string ⟨C.dev.toArray⟩)/\w'.cell? ⟨k.sg,7,none⟩=some (.slice CA C.fwd.length cc)/\w'.cell? ⟨w.heap.size,0,none⟩=some (.string ⟨sc.toArray⟩)/\w'.cell? ⟨w.heap.size,1,none⟩=some (.string ⟨ho.toArray⟩)/\w'.cell? ⟨w.heap.size,2,none⟩=some (.int .i64 po)/\w'.cell? ⟨w.heap.size,3,none⟩=some (.string ⟨pa.toArray⟩)/\w'.cell? ⟨w.heap.size,4,none⟩=some (.string ⟨qu.toArray⟩)/\w'.cell? ⟨w.heap.size,5,none⟩=some (.bool uq)/\w'.cell? ⟨X,9,none⟩=some (.slice F m d)/\w'.cell? ⟨X,5,none⟩=some (.int .i64 k.now):=λW h=>by obtain⟨s1,s2,s3⟩:=HSUR.out W k rfl h;have hu:=h.uri;exact⟨s2,s3,(ab s1 1).1,(ab s1 2).1,(ab s1 3).1,(ab s1 4).1,(ab s1 5).1,(ab s1 6).1,(ab s1 7).1,(ab hu 0).1,(ab hu 1).1,(ab hu 2).1,(ab hu 3).1,(ab hu 4).1,(ab hu 5).1,by rw[<-HQF.out];exact(h.call.at 9).1,(h.call.at 5).1⟩
  have KC:=ah kc;have Pa:=ah OW.out.drew;have hzw:=OW.out.hi;clear kc;refine BW KC.out Pa.out λM7=>?_
  refine aX 0 1 2 3 M7 ?_;refine aX 4 5 6 7 M7 ?_;refine aX 8 9 10 11 M7 ?_;refine aX 12 13 14 15 M7 ?_;refine aX 16 17 18 19 M7 ?_;refine aX 20 21 22 23 M7 ?_;refine wpAnyH_ready (rs:=[24,28]) (by kernel_rfl) (by simp) (AllReadyH.cons lW (λK hK=>?_) (AllReadyH.cons lW (λK hK=>?_) AllReadyH.nil))
  ·rw[if_pos (by rfl)];go_simp;refine(KL.out _ k Pa.out).mono ?_;rintro e w2 ⟨rfl,Nq,OA⟩;have NM:=ah (Pa.out.to Nq OA);have N6:=OA.1;clear Nq OA;go_wp2_with fail
   refine hK.out _ _ (KC.out _ NM.out) (λM7=>?_);clear hK K;refine eC 25 26 M7 ?_;refine fM 27 M7 ?_;refine cL 28 λK hK=>?_
   go_simp;have Qa:=ah (NM.out.below (aV w2 GN));refine hK.out _ _ (KC.out _ Qa.out) (λM7=>?_);clear hK K
   try simp only[Act.put,go,gk,gn]
   refine cL 29 λK hK=>?_
   go_simp;have HOA2:=ah (NM.out.below (aV w2 (.cells #[.string ⟨ky.toArray⟩,.string ft,.bool false,.bool false,.int .i64 0,.string ⟨#[]⟩,.int .i64 0,.slice none 0 0,.string ⟨#[]⟩,.int .i64 0,.int .i64 0,.slice none 0 0] 260)));refine hK.out _ _ (KC.out _ HOA2.out) (λM7=>?_);clear hK K;refine fM 30 M7 ?_;refine wpAnyH_done (by kernel_rfl) ?_ _;clear M7;go_wp2_with fail
   go_meet;exact⟨w2.heap.size,rfl,rfl,by have:=NM.out.hi;omega,ay w2 _ _ rfl,HOA2.out⟩
  ·rw[if_pos (by rfl)];go_simp;obtain⟨WA,NK⟩:=aH ((W1.alloc GN).drew);have Qa:=ah (show OB w0 w X k sb bl nn mm [] put ⟨sc,ho,po,pa,qu,uq⟩ WA from by rw[<-NK];exact(OW.out.below (aV W1 GN)).drew);have Np:WA.heap[W1.heap.size]?=some (.cells (dP ⟨#[]⟩ ⟨#[]⟩ false false) 260 (0,0)):=by rw[<-NK];exact ay W1 _ _ rfl
   rw[NK];clear NK;refine hK.out _ _ (KC.out _ Qa.out) (λM7=>?_);clear hK K
   try simp only[Act.put,go,gk,gn]
   refine cL 24 λK hK=>?_
   go_simp;refine(KL.out _ k Qa.out).mono ?_;rintro e w2 ⟨rfl,Nq,OA⟩;have NM:=ah (Qa.out.to Nq OA);have Nt:=OA.blk Np jM;clear Nq OA Np;go_wp2_with fail
   refine hK.out _ _ (KC.out _ NM.out) (λM7=>?_);clear hK K;refine eC 25 26 M7 ?_;refine fM 27 M7 ?_;have q0:=aS Nt 0;have q1:=aS Nt 1;have q2:=aS Nt 2;have q3:=aS Nt 3;have q4:=aS Nt 4;have q5:=aS Nt 5;have q6:=aS Nt 6;have q7:=aS Nt 7;have q8:=aS Nt 8;have q9:=aS Nt 9;have q10:=aS Nt 10;have q11:=aS Nt 11;have p0:=λj:Nat=>(ab Nt j).2.1
   have Oe:=L_ (.string ⟨ky.toArray⟩) (.string ft) (.bool false) (.bool false) (.int .i64 0) (.string ⟨#[]⟩) (.int .i64 0) (.slice none 0 0) (.string ⟨#[]⟩) (.int .i64 0) (.int .i64 0) (.slice none 0 0) Nt;have N9:=Hw W1.heap.size w2 (.string ⟨ky.toArray⟩) (.string ft) (.bool false) (.bool false) (.int .i64 0) (.string ⟨#[]⟩) (.int .i64 0) (.slice none 0 0) (.string ⟨#[]⟩) (.int .i64 0) (.int .i64 0) (.slice none 0 0);have WV:=ah (NM.out.other N9 Nt jM (by omega));refine cL 29 λK hK=>?_
   go_simp;refine hK.out _ _ (KC.out _ WV.out) (λM7=>?_);clear hK K;refine fM 30 M7 ?_;refine wpAnyH_done (by kernel_rfl) ?_ _;clear M7;go_wp2_with fail
   go_meet;exact⟨W1.heap.size,rfl,rfl,by omega,Oe,WV.out⟩
 case rest=>
 clear OW KL KK;obtain⟨P,rfl,rfl,hP,Oe,On⟩:=hcut;obtain⟨W2,rfl⟩:∃W,W=wc:=⟨_,rfl⟩;obtain⟨HP,NM⟩:=az Oe On;have Ui:=ah (ae Oe);clear Oe On;have q1:(W2.alloc Db).cell? ⟨P,1,none⟩=some (.string ft):=((aV W2 _).cell (p:=⟨P,1,none⟩) (ae HP.out)).trans (ab HP.out 1).1;have q2:(W2.alloc Db).cell? ⟨P,2,none⟩=some (.bool false):=((aV W2 _).cell (p:=⟨P,2,none⟩) (ae HP.out)).trans (ab HP.out 2).1;have Zx:ft.data.toList.isEmpty=false:=by cases h:ft.data.toList with|nil=>exact absurd h U4.out|cons _ _=>rfl
 have Y7:(!ft.toList.isEmpty)=true:=by rw[dY,Zx];rfl
 have XO:ft.toList.isEmpty=false:=by rw[dY,Zx]
 obtain⟨W3,NW⟩:=aH (W2.alloc Db);have b3:=bm NW;have hQ3:=dU NW;have Po:=NM.out.below b3;have hP3:=(b3.block _ (ae HP.out)).trans HP.out;have Sw:=Po.keep.blk HO.out jv Wf.out;have ka:=LR X k O o om od ft b true W3 Po.call HOL.out Vo YO.out YQ.out (ae Sw) Wf.out ((ab Sw o).1.trans Wq.out) ((ab Sw (o+1)).1.trans OW.out);rw[NW]at q1 q2;obtain⟨Qk,KA,Ob,Sx,ZH⟩:=gB NW ka Po hP3 hQ3;have N6:=NM.out.hi;clear NW ka Po hP3 hQ3 Sw b3 NM HP;go_upto_region 4 with(fail)
 rw[Qk.out];clear Qk;go_upto_region 5 with(fail)
 go_cut [] (λwx=>∃aa ca,wx.heap[P]?=some (.cells (dP ⟨ky.toArray⟩ ft false false) 260 (0,0))/\wx.heap[W2.heap.size]?=some (.cells #[.string b,.bool true] 62 (0,0))/\OB w0 w X (Mw k aa ca) sb bl nn mm [] put ⟨sc,ho,po,pa,qu,uq⟩ wx)
 case first=>
  go_wp2_with fail
  refine KA.out.mono ?_;rintro e w4 ⟨rfl,Nf,aa,ca,hc4⟩;have hltX:=Ob.out.ltX;have Sw:=Ob.out.side Nf hc4;have hP4:=(Nf.2 _ (ae Sx.out) (by omega)).trans Sx.out;have Xl:=(Nf.2 _ (ae ZH.out) (by omega)).trans ZH.out;have q0:=aS Xl 0;have q3:=aS Xl 1;have z0:=λj:Nat=>(ab Xl j).2.1
  have ZF:=aj (j:=1) (v:=.bool true) (aj (j:=0) (v:=.string b) Xl);simp only[cH,cI,cF]at ZF;have VE:=((ap.refl W2.heap.size w4).set 0 (.string b)).set 1 (.bool true);have Ud:=Sw.other VE Xl jv (by omega);have hP5:=(VE.2 _ (ae hP4) (by have:=Ui.out;omega)).trans hP4;have HF:=ah (aB hP5 (aB ZF Ud));clear Sw hP4 Xl ZF VE Ud hP5 Nf hc4 KA Ob Sx ZH;go_wp2_with fail
  go_meet;exact⟨aa,ca,HF.out⟩
 case rest=>
 clear KA Ob Sx ZH q1 q2 Zx Y7 XO;obtain⟨aa,ca,hP5,ZF,Ud⟩:=hcut;obtain⟨W5,rfl⟩:∃W,W=wc:=⟨_,rfl⟩;obtain⟨HP5,HQ5,Rk⟩:=bu hP5 ZF Ud;clear hP5 ZF Ud;go_upto_region 6 with(fail)
 go_cut [8] (λp wx=>∃R a ac nv nc left esi NE put',p=.pointer (some ⟨R,0,none⟩)/\w.heap.size+2<=R/\wx.heap[R]?=some (.cells (tj rep k a ac left esi nv (dw (bz (aI rep.fields))).length nc) 207 (0,0))/\esi=((rep.status==200)&&(vj (af (aI rep.fields) jb) C.dev).esi)/\aM (w.heap.size+2) (.slice a (aI rep.fields).length ac) (aI rep.fields) wx/\aQ (w.heap.size+2) (.slice nv (dw (bz (aI rep.fields))).length nc) (dw (bz (aI rep.fields))) wx/\put<=put'/\put'<=put+1/\OB w0 w X (Mw k aa ca) sb bl nn mm NE put' ⟨sc,ho,po,pa,qu,uq⟩ wx)
 case first=>
  have kc:∀w' NE put',OB w0 w X (Mw k aa ca) sb bl nn mm NE put' ⟨sc,ho,po,pa,qu,uq⟩ w'/\w'.heap[P]?=some (.cells (dP ⟨ky.toArray⟩ ft false false) 260 (0,0))/\w'.heap[W2.heap.size]?=some (.cells #[.string b,.bool true] 62 (0,0))->w'.cell? ⟨X,0,none⟩=some (.pointer (some ⟨k.sg,0,none⟩))/\w'.cell? ⟨k.sg,0,none⟩=some (.pointer (some ⟨sb,0,none⟩))/\w'.cell? ⟨k.sg,1,none⟩=some (.string ⟨C.host.toArray⟩)/\w'.cell? ⟨k.sg,2,none⟩=some (.int .i64 C.en)/\w'.cell? ⟨k.sg,3,none⟩=some (.int .i64 C.by')/\w'.cell? ⟨k.sg,4,none⟩=some (.int .i64 C.inc)/\w'.cell? ⟨k.sg,5,none⟩=some (.int .i64 C.dep)/\w'.cell? ⟨k.sg,6,none⟩=some (.string ⟨C.dev.toArray⟩)/\w'.cell? ⟨k.sg,7,none⟩=some (.slice CA C.fwd.length cc)/\w'.cell? ⟨P,0,none⟩=some (.string ⟨ky.toArray⟩)/\w'.cell? ⟨P,1,none⟩=some (.string ft)/\w'.cell? ⟨P,2,none⟩=some (.bool false)/\w'.cell? ⟨P,3,none⟩=some (.bool false)/\w'.cell? ⟨P,4,none⟩=some (.int .i64 0)/\w'.cell? ⟨P,5,none⟩=some (.string ⟨#[]⟩)/\w'.cell? ⟨P,6,none⟩=some (.int .i64 0)/\w'.cell? ⟨P,7,none⟩=some (.slice none 0 0)/\w'.cell? ⟨P,8,none⟩=some (.string ⟨#[]⟩)/\w'.cell? ⟨P,9,none⟩=some (.int .i64 0)/\w'.cell? ⟨P,10,none⟩=some (.int .i64 0)/\w'.cell? ⟨P,11,none⟩=some (.slice none 0 0)/\w'.cell? ⟨X,9,none⟩=some (.slice F m d)/\w'.cell? ⟨X,5,none⟩=some (.int .i64 k.now)/\w'.cell? ⟨W2.heap.size,0,none⟩=some (.string b)/\w'.cell? ⟨W2.heap.size,1,none⟩=some (.bool true):=λW NE put' hh=>by obtain⟨h,hp,hq⟩:=hh;obtain⟨s1,s2,s3⟩:=HSURE.out W NE put' (Mw k aa ca) rfl h;exact⟨s2,s3,(ab s1 1).1,(ab s1 2).1,(ab s1 3).1,(ab s1 4).1,(ab s1 5).1,(ab s1 6).1,(ab s1 7).1,(ab hp 0).1,(ab hp 1).1,(ab hp 2).1,(ab hp 3).1,(ab hp 4).1,(ab hp 5).1,(ab hp 6).1,(ab hp 7).1,(ab hp 8).1,(ab hp 9).1,(ab hp 10).1,(ab hp 11).1,by rw[<-HQF.out];exact(h.call.at 9).1,(h.call.at 5).1,(ab hq 0).1,(ab hq 1).1⟩
  have KC:=ah kc;have Pa:=BQ Rk.out.drew HP5.out HQ5.out;have Zf:=Rk.out.hi;have Vh:=ae HP5.out;have hlq:=ae HQ5.out;clear kc
  refine wp_region_held_drew (S:=λw'=>w'.cell? ⟨X,0,none⟩=some (.pointer (some ⟨k.sg,0,none⟩))/\w'.cell? ⟨k.sg,0,none⟩=some (.pointer (some ⟨sb,0,none⟩))/\w'.cell? ⟨k.sg,1,none⟩=some (.string ⟨C.host.toArray⟩)/\w'.cell? ⟨k.sg,2,none⟩=some (.int .i64 C.en)/\w'.cell? ⟨k.sg,3,none⟩=some (.int .i64 C.by')/\w'.cell? ⟨k.sg,4,none⟩=some (.int .i64 C.inc)/\w'.cell? ⟨k.sg,5,none⟩=some (.int .i64 C.dep)/\w'.cell? ⟨k.sg,6,none⟩=some (.string ⟨C.dev.toArray⟩)/\w'.cell? ⟨k.sg,7,none⟩=some (.slice CA C.fwd.length cc)/\w'.cell? ⟨P,0,none⟩=some (.string ⟨ky.toArray⟩)/\w'.cell? ⟨P,1,none⟩=some (.string ft)/\w'.cell? ⟨P,2,none⟩=some (.bool false)/\w'.cell? ⟨P,3,none⟩=some (.bool false)/\w'.cell? ⟨P,4,none⟩=some (.int .i64 0)/\w'.cell? ⟨P,5,none⟩=some (.string ⟨#[]⟩)/\w'.cell? ⟨P,6,none⟩=some (.int .i64 0)/\w'.cell? ⟨P,7,none⟩=some (.slice none 0 0)/\w'.cell? ⟨P,8,none⟩=some (.string ⟨#[]⟩)/\w'.cell? ⟨P,9,none⟩=some (.int .i64 0)/\w'.cell? ⟨P,10,none⟩=some (.int .i64 0)/\w'.cell? ⟨P,11,none⟩=some (.slice none 0 0)/\w'.cell? ⟨X,9,none⟩=some (.slice F m d)/\w'.cell? ⟨X,5,none⟩=some (.int .i64 k.now)/\w'.cell? ⟨W2.heap.size,0,none⟩=some (.string b)/\w'.cell? ⟨W2.heap.size,1,none⟩=some (.bool true)) (by kernel_rfl) (KC.out _ _ _ Pa.out) (λM7=>?_)
  refine aX 0 1 2 3 M7 ?_;refine aX 4 5 6 7 M7 ?_;refine aX 8 9 10 11 M7 ?_;refine aX 12 13 14 15 M7 ?_;refine aX 16 17 18 19 M7 ?_;refine aX 20 21 22 23 M7 ?_;refine aX 24 25 26 27 M7 ?_;refine wpAnyH_ready (rs:=[28,29]) (by kernel_rfl) (by simp) (AllReadyH.cons lW (λK hK=>?_) (AllReadyH.cons lW (λK hK=>?_) AllReadyH.nil))
  ·rw[if_pos (by rfl)];go_simp;refine(KT.out _ _ Pa.out.1).mono ?_;rintro e w6 ⟨a,ac,nv,nc,left,esi,NE,put',rfl,UT,Qv,Qr,S5,Qq,QH,PH⟩;have Pw:=BQ (Pa.out.1.to S5 PH) (PH.blk Pa.out.2.1 jM) (PH.blk Pa.out.2.2 jv);have hz6:=PH.1;have Pu:=aM.base (B':=w.heap.size+2) Qv Zf;have PM:=aQ.base (B':=w.heap.size+2) Qr Zf;have WH:=ah (aB UT (aB Qq QH));clear S5 PH Qv Qr UT Qq QH;go_wp2_with fail
   refine hK.out _ _ (KC.out _ _ _ Pw.out) (λM7=>?_);clear hK K
   try simp only[Act.put,go,gk,gn]
   refine cL 29 λK hK=>?_
   go_simp;have O6:=BQ (Pw.out.1.below (aV w6 lq)) (((aV w6 lq).block _ (ae Pw.out.2.1)).trans Pw.out.2.1) (((aV w6 lq).block _ (ae Pw.out.2.2)).trans Pw.out.2.2);refine hK.out _ _ (KC.out _ _ _ O6.out) (λM7=>?_);clear hK K
   try simp only[Act.put,go,gk,gn]
   refine cL 30 λK hK=>?_
   go_simp;have PL:=BQ (Pw.out.1.below (aV w6 (.cells (tj rep k a ac left esi nv (dw (bz (aI rep.fields))).length nc) 207))) (((aV w6 (.cells (tj rep k a ac left esi nv (dw (bz (aI rep.fields))).length nc) 207)).block _ (ae Pw.out.2.1)).trans Pw.out.2.1) (((aV w6 (.cells (tj rep k a ac left esi nv (dw (bz (aI rep.fields))).length nc) 207)).block _ (ae Pw.out.2.2)).trans Pw.out.2.2);refine hK.out _ _ (KC.out _ _ _ PL.out) (λM7=>?_);clear hK K
   try simp only[Act.put,go,gk,gn]
   refine wpAnyH_done (by kernel_rfl) ?_ _;clear M7;have HF:=ah (aB (ay w6 (.cells (tj rep k a ac left esi nv (dw (bz (aI rep.fields))).length nc) 207) _ rfl) (aB WH.out.1 (aB (Pu.below (aV w6 (.cells (tj rep k a ac left esi nv (dw (bz (aI rep.fields))).length nc) 207))) (aB (PM.below (aV w6 (.cells (tj rep k a ac left esi nv (dw (bz (aI rep.fields))).length nc) 207))) (aB WH.out.2.1 (aB WH.out.2.2 PL.out.1))))));have hz8:w.heap.size+2<=w6.heap.size:=by have:=Pw.out.1.hi;omega
   clear Pu PM O6 PL WH Pw Pa KC;go_wp2_with fail
   go_meet;exact⟨_,a,ac,nv,nc,left,esi,NE,put',rfl,hz8,HF.out⟩
  ·rw[if_pos (by rfl)];go_simp;obtain⟨WA,NK⟩:=aH ((W5.alloc lq).drew)
   have Qa:Hid (OB w0 w X (Mw k aa ca) sb bl nn mm [] put ⟨sc,ho,po,pa,qu,uq⟩ WA/\WA.heap[P]?=some (.cells (dP ⟨ky.toArray⟩ ft false false) 260 (0,0))/\WA.heap[W2.heap.size]?=some (.cells #[.string b,.bool true] 62 (0,0))):=am (by rw[<-NK];exact⟨(Rk.out.below (aV W5 lq)).drew,((aV W5 lq).block _ Vh).trans HP5.out,((aV W5 lq).block _ hlq).trans HQ5.out⟩)
   have Np:WA.heap[W5.heap.size]?=some (.cells (cW (.int .i64 0) (.string ⟨#[]⟩) (.int .i64 0) (.slice none 0 0) (.string ⟨#[]⟩) (.int .i64 0) (.int .i64 0) (.int .i64 0) (.bool false) (.slice none 0 0)) 207 (0,0)):=by rw[<-NK];exact ay W5 _ _ rfl
   have hza:=Qa.out.1.hi;have Nx:=ae Np;rw[NK];clear NK;refine hK.out _ _ (KC.out _ _ _ Qa.out) (λM7=>?_);clear hK K
   try simp only[Act.put,go,gk,gn]
   refine cL 28 λK hK=>?_
   go_simp;refine(KT.out _ _ Qa.out.1).mono ?_;rintro e w6 ⟨a,ac,nv,nc,left,esi,NE,put',rfl,UT,Qv,Qr,S5,Qq,QH,PH⟩;have Pw:=BQ (Qa.out.1.to S5 PH) (PH.blk Qa.out.2.1 jM) (PH.blk Qa.out.2.2 jv);have hz6:=PH.1;have Pu:=aM.base (B':=W5.heap.size+1) Qv Nx;have PM:=aQ.base (B':=W5.heap.size+1) Qr Nx;have Nt:=PH.blk Np gJ;have WH:=ah (aB UT (aB Qq QH));clear S5 PH Qv Qr UT Qq QH Np;go_wp2_with fail
   refine hK.out _ _ (KC.out _ _ _ Pw.out) (λM7=>?_);clear hK K
   try simp only[Act.put,go,gk,gn]
   have y0:=aS Nt 0;have y1:=aS Nt 1;have y2:=aS Nt 2;have y3:=aS Nt 3;have y4:=aS Nt 4;have y5:=aS Nt 5;have y6:=aS Nt 6;have y7:=aS Nt 7;have y8:=aS Nt 8;have y9:=aS Nt 9;have x0:=(ab Nt 0).2.1;have x1:=(ab Nt 1).2.1;have x2:=(ab Nt 2).2.1;have x3:=(ab Nt 3).2.1;have x4:=(ab Nt 4).2.1;have x5:=(ab Nt 5).2.1;have x6:=(ab Nt 6).2.1;have x7:=(ab Nt 7).2.1;have x8:=(ab Nt 8).2.1;have x9:=(ab Nt 9).2.1;have Oe:=DC (.int .i64 rep.status) (.string ⟨rep.reason.toArray⟩) (.int .i64 rep.minor) (.slice a (aI rep.fields).length ac) (.string ⟨rep.body.toArray⟩) (.int .i64 2) (.int .i64 (dz (aI rep.fields) k.now k.now k.now)) (.int .i64 left) (.bool esi) (.slice nv (dw (bz (aI rep.fields))).length nc) Nt;unfold cW at Oe
   have N9:=pA W5.heap.size w6 (.int .i64 rep.status) (.string ⟨rep.reason.toArray⟩) (.int .i64 rep.minor) (.slice a (aI rep.fields).length ac) (.string ⟨rep.body.toArray⟩) (.int .i64 2) (.int .i64 (dz (aI rep.fields) k.now k.now k.now)) (.int .i64 left) (.bool esi) (.slice nv (dw (bz (aI rep.fields))).length nc);have WV:=BQ (Pw.out.1.other N9 Nt gJ (by omega)) ((N9.2 _ (ae Pw.out.2.1) (by omega)).trans Pw.out.2.1) ((N9.2 _ (ae Pw.out.2.2) (by omega)).trans Pw.out.2.2);have U1:=aM.base (B':=w.heap.size+2) (bi Pu N9 (Nat.lt_succ_self _)) (by omega);have Rq:=aQ.base (B':=w.heap.size+2) (bi PM N9 (Nat.lt_succ_self _)) (by omega);have HF:=ah (aB Oe (aB WH.out.1 (aB U1 (aB Rq (aB WH.out.2.1 (aB WH.out.2.2 WV.out.1))))));clear Pu PM U1 Rq Oe N9 WH
   refine cL 30 λK hK=>?_
   go_simp;refine hK.out _ _ (KC.out _ _ _ WV.out) (λM7=>?_);clear hK K
   try simp only[Act.put,go,gk,gn]
   refine wpAnyH_done (by kernel_rfl) ?_ _;clear M7;clear WV Pw Qa Pa KC;go_wp2_with fail
   go_meet;exact⟨_,a,ac,nv,nc,left,esi,NE,put',rfl,by omega,HF.out⟩
 case rest=>
 clear HP5 HQ5 Rk KT;obtain⟨R,a,ac,nv,nc,left,esi,NE,put',rfl,hzR,hR,he,Pu,PM,Ut,Ur,hO⟩:=hcut;obtain⟨W6,rfl⟩:∃W,W=wc:=⟨_,rfl⟩;obtain⟨ns,hns⟩:=aH (dw (bz (aI rep.fields)));have T7:ns.length<=4000:=by have h1:=qd (aI rep.fields);have h2:=oM rep.fields;rw[hns]at h1;omega
 rw[hns]at hR PM;have HNS:=ah hns;clear hns;obtain⟨HR,Qa,Xw,Pw,HEE,HZR⟩:=eN hR Pu PM hO (aB he (aB Ut Ur)) hzR;clear hR Pu PM hO he Ut Ur;go_upto_region 7 with(fail)
 go_cut [] (λwx=>∃sv TR,OB w0 w X (MZ k aa ca sv ns.length TR) sb bl nn mm NE put' ⟨sc,ho,po,pa,qu,uq⟩ wx/\wx.heap[R]?=some (.cells (tj rep k a ac left esi nv ns.length nc) 207 (0,0))/\aM (w.heap.size+2) (.slice a (aI rep.fields).length ac) (aI rep.fields) wx/\aQ (w.heap.size+2) (.slice sv ns.length TR) ns wx)
 case first=>
  have kc:∀w' k',(OB w0 w X k' sb bl nn mm NE put' ⟨sc,ho,po,pa,qu,uq⟩ w'/\w'.heap[R]?=some (.cells (tj rep k a ac left esi nv ns.length nc) 207 (0,0)))->w'.cell? ⟨R,9,none⟩=some (.slice nv ns.length nc):=λW k' hh=>(ab hh.2 9).1
  have KC:=ah kc;have Pa:=wC Pw.out.drew HR.out;have hz6:=Pw.out.hi;have Xy:=ae HR.out;have hltX:=Pw.out.ltX;clear kc;refine wp_region_held_drew (S:=λw'=>w'.cell? ⟨R,9,none⟩=some (.slice nv ns.length nc)) (by kernel_rfl) (KC.out _ _ Pa.out) (λM7=>?_);refine aX 0 1 2 3 M7 ?_;refine eC 5 6 M7 ?_;have c20:W6.drew.cell? ⟨X,20,none⟩=some (.slice none 0 0):=by rw[<-Th.out];exact(Pa.out.1.call.at 20).1
  refine cL 4 λK hK=>?_
  go_simp;refine hK.out _ _ (KC.out _ _ Pa.out) (λM7=>?_);clear hK K
  try simp only[Act.put,go,gk,gn]
  refine wpAnyH_ready (rs:=[7]) (by kernel_rfl) (by simp) (AllReadyH.cons lW (λK hK=>?_) AllReadyH.nil);refine DU (v:=.slice none 0 0) (A:=nv) (n:=ns.length) (c:=nc) (fs:=[]) (ys:=ns) W6.heap.size (.tmp 100) (.tmp 102) rfl rfl rfl rfl (aQ.nil W6.heap.size W6.drew) (show Rd nv ns.length 1 (aF ns) W6.drew from(aQ.rd Xw.out).2) (aw _) (by simp;omega) ?_;intro v8 w8 Z_ Oa;obtain⟨sv,TR,rfl⟩:=Z_.shape;rw[lp]at Z_;have Oa:Below W6.heap.size W6 w8:=((aO _ W6).drew).trans Oa;have PL:=wC (Pw.out.below Oa) ((Oa.block _ Xy).trans HR.out);refine hK.out _ _ (KC.out _ _ PL.out) (λM7=>?_);clear hK K
  try simp only[Act.put,go,gk,gn]
  simp only[lp];refine eC 8 9 M7 ?_;have e20:w8.cell? ⟨X,20,none⟩=some (.slice none 0 0):=by rw[<-Th.out];exact(PL.out.1.call.at 20).1
  have z20:=(PL.out.1.call.at 20).2;have N9:=ap.setCell X 20 w8 (.slice sv ns.length TR);have S8:=wC (PL.out.1.side N9 (PL.out.1.call.seen (.slice sv ns.length TR))) ((N9.2 _ (ae PL.out.2) (by have:=HZR.out;omega)).trans PL.out.2);have hoa9:=bi (aM.below Qa.out Oa) N9 (by omega);have hon9:=bi (aQ.base (B':=w.heap.size+2) Z_ (by omega)) N9 (by omega);have HF:=ah (aB S8.out.1 (aB S8.out.2 (aB hoa9 hon9)));clear hoa9 hon9 N9;refine cL 10 λK hK=>?_
  go_simp;refine hK.out _ _ (KC.out _ _ S8.out) (λM7=>?_);clear hK K
  try simp only[Act.put,go,gk,gn]
  refine wpAnyH_done (by kernel_rfl) ?_ _;clear M7;go_wp2_with fail
  go_meet;exact⟨sv,TR,HF.out⟩
 case rest=>
 clear HR Qa Xw Pw;obtain⟨sv,TR,hO,hR,Pu,PM⟩:=hcut;obtain⟨W7,rfl⟩:∃W,W=wc:=⟨_,rfl⟩;obtain⟨HR,Qa,Xw,O6⟩:=bK hR Pu PM hO;clear hR Pu PM hO;go_upto_region 8 with(fail)
 go_cut [] (λwx=>OB w0 w X (MW k aa ca sv ns.length TR rep left) sb bl nn mm NE put' ⟨sc,ho,po,pa,qu,uq⟩ wx/\wx.heap[R]?=some (.cells (tj rep k a ac left esi nv ns.length nc) 207 (0,0))/\aM (w.heap.size+2) (.slice a (aI rep.fields).length ac) (aI rep.fields) wx/\aQ (w.heap.size+2) (.slice sv ns.length TR) ns wx)
 case first=>
  have Pa:=wC O6.out.drew HR.out;have c18:W7.drew.cell? ⟨X,18,none⟩=some (.int .i64 k.age):=(Pa.out.1.call.at 18).1;have c19:W7.drew.cell? ⟨X,19,none⟩=some (.int .i64 k.left):=(Pa.out.1.call.at 19).1;have z18:=(Pa.out.1.call.at 18).2;have z19:=(Pa.out.1.call.at 19).2;have r6:=aS Pa.out.2 6;have r7:=aS Pa.out.2 7;have kc:∀w' k',(OB w0 w X k' sb bl nn mm NE put' ⟨sc,ho,po,pa,qu,uq⟩ w'/\w'.heap[R]?=some (.cells (tj rep k a ac left esi nv ns.length nc) 207 (0,0)))->w'.cell? ⟨R,6,none⟩=some (.int .i64 (dz (aI rep.fields) k.now k.now k.now))/\w'.cell? ⟨R,7,none⟩=some (.int .i64 left):=λW k' hh=>⟨(ab hh.2 6).1,(ab hh.2 7).1⟩
  have KC:=ah kc;clear kc;refine wp_region_held_drew (S:=λw'=>w'.cell? ⟨R,6,none⟩=some (.int .i64 (dz (aI rep.fields) k.now k.now k.now))/\w'.cell? ⟨R,7,none⟩=some (.int .i64 left)) (by kernel_rfl) (KC.out _ _ Pa.out) (λM7=>?_);refine aX 0 1 2 3 M7 ?_;refine aX 4 6 7 9 M7 ?_;refine aX 10 11 13 14 M7 ?_;refine wpAnyH_ready (rs:=[5,12]) (by kernel_rfl) (by simp) (AllReadyH.cons lW (λK hK=>?_) (AllReadyH.cons lW (λK hK=>?_) AllReadyH.nil))
  ·rw[if_pos (by rfl)];go_simp;refine hK.out _ _ (KC.out _ _ Pa.out) (λM7=>?_);clear hK K;refine fM 8 M7 ?_;refine cL 12 λK hK=>?_
   go_simp;refine hK.out _ _ (KC.out _ _ Pa.out) (λM7=>?_);clear hK K;refine eC 15 16 M7 ?_;refine fM 17 M7 ?_;refine cL 18 λK hK=>?_
   go_simp;obtain⟨W8,Q6⟩:=aH ((W7.setCell ⟨X,18,none⟩ (.int .i64 (max k.age (dz (aI rep.fields) k.now k.now k.now)))).drew);have Oa:ap X W7 W8:=by rw[<-Q6];exact(ap.setCell X 18 W7 (.int .i64 (max k.age (dz (aI rep.fields) k.now k.now k.now)))).drew
   have hc8:aP X (MV k aa ca sv ns.length TR rep) W8:=by rw[<-Q6];exact(O6.out.call.age (max k.age (dz (aI rep.fields) k.now k.now k.now))).below (aO _ _).drew
   have PL:=wC (O6.out.side Oa hc8) ((Oa.2 _ (ae HR.out) (by have:=O6.out.ltX;have:=HZR.out;omega)).trans HR.out);have UC:=bi Qa.out Oa (by have:=O6.out.ltX;omega);have UW:=bi Xw.out Oa (by have:=O6.out.ltX;omega);have d19:W8.cell? ⟨X,19,none⟩=some (.int .i64 k.left):=(PL.out.1.call.at 19).1;have y19:=(PL.out.1.call.at 19).2;rw[Q6];clear Q6 Oa hc8;refine hK.out _ _ (KC.out _ _ PL.out) (λM7=>?_);clear hK K;refine eC 19 20 M7 ?_;have NL:=ap.setCell X 19 W8 (.int .i64 (min k.left left));have S8:=wC (PL.out.1.side NL (PL.out.1.call.left (min k.left left))) ((NL.2 _ (ae PL.out.2) (by have:=O6.out.ltX;have:=HZR.out;omega)).trans PL.out.2);have HF:=ah (aB S8.out.1 (aB S8.out.2 (aB (bi UC NL (by have:=O6.out.ltX;omega)) (bi UW NL (by have:=O6.out.ltX;omega)))))
   clear UC UW NL;refine cL 21 λK hK=>?_
   go_simp;refine hK.out _ _ (KC.out _ _ S8.out) (λM7=>?_);clear hK K
   try simp only[Act.put,go,gk,gn]
   refine wpAnyH_done (by kernel_rfl) ?_ _;clear M7;go_wp2_with fail
   go_meet;exact HF.out
  ·rw[if_pos (by rfl)];go_simp;refine hK.out _ _ (KC.out _ _ Pa.out) (λM7=>?_);clear hK K;refine fM 15 M7 ?_;refine cL 5 λK hK=>?_
   go_simp;refine hK.out _ _ (KC.out _ _ Pa.out) (λM7=>?_);clear hK K;refine eC 8 16 M7 ?_;refine fM 17 M7 ?_;refine cL 18 λK hK=>?_
   go_simp;obtain⟨W8,Q6⟩:=aH ((W7.setCell ⟨X,18,none⟩ (.int .i64 (max k.age (dz (aI rep.fields) k.now k.now k.now)))).drew);have Oa:ap X W7 W8:=by rw[<-Q6];exact(ap.setCell X 18 W7 (.int .i64 (max k.age (dz (aI rep.fields) k.now k.now k.now)))).drew
   have hc8:aP X (MV k aa ca sv ns.length TR rep) W8:=by rw[<-Q6];exact(O6.out.call.age (max k.age (dz (aI rep.fields) k.now k.now k.now))).below (aO _ _).drew
   have PL:=wC (O6.out.side Oa hc8) ((Oa.2 _ (ae HR.out) (by have:=O6.out.ltX;have:=HZR.out;omega)).trans HR.out);have UC:=bi Qa.out Oa (by have:=O6.out.ltX;omega);have UW:=bi Xw.out Oa (by have:=O6.out.ltX;omega);have d19:W8.cell? ⟨X,19,none⟩=some (.int .i64 k.left):=(PL.out.1.call.at 19).1;have y19:=(PL.out.1.call.at 19).2;rw[Q6];clear Q6 Oa hc8;refine hK.out _ _ (KC.out _ _ PL.out) (λM7=>?_);clear hK K;refine eC 19 20 M7 ?_;have NL:=ap.setCell X 19 W8 (.int .i64 (min k.left left));have S8:=wC (PL.out.1.side NL (PL.out.1.call.left (min k.left left))) ((NL.2 _ (ae PL.out.2) (by have:=O6.out.ltX;have:=HZR.out;omega)).trans PL.out.2);have HF:=ah (aB S8.out.1 (aB S8.out.2 (aB (bi UC NL (by have:=O6.out.ltX;omega)) (bi UW NL (by have:=O6.out.ltX;omega)))))
   clear UC UW NL;refine cL 21 λK hK=>?_
   go_simp;refine hK.out _ _ (KC.out _ _ S8.out) (λM7=>?_);clear hK K
   try simp only[Act.put,go,gk,gn]
   refine wpAnyH_done (by kernel_rfl) ?_ _;clear M7;go_wp2_with fail
   go_meet;exact HF.out
 case rest=>
 clear HR Qa Xw O6;obtain⟨hO,hR,Pu,PM⟩:=hcut;obtain⟨W8,rfl⟩:∃W,W=wc:=⟨_,rfl⟩;have r0:=aS hR 0;have r1:=aS hR 1;have r2:=aS hR 2;have r3:=aS hR 3;have r4:=aS hR 4;have r5:=aS hR 5;have r6:=aS hR 6;have r7:=aS hR 7;have r8:=aS hR 8;have r9:=aS hR 9;have Pf:=hO.res;unfold cW at Pf;have x0:=aS Pf 0;have x1:=aS Pf 1;have x2:=aS Pf 2;have x3:=aS Pf 3;have x4:=aS Pf 4;have x5:=aS Pf 5;have x6:=aS Pf 6;have x7:=aS Pf 7;have x8:=aS Pf 8;have x9:=aS Pf 9;have l0:=λj:Nat=>(ab Pf j).2.1
 have h10:=DC (.int .i64 rep.status) (.string ⟨rep.reason.toArray⟩) (.int .i64 rep.minor) (.slice a (aI rep.fields).length ac) (.string ⟨rep.body.toArray⟩) (.int .i64 2) (.int .i64 (dz (aI rep.fields) k.now k.now k.now)) (.int .i64 left) (.bool esi) (.slice nv ns.length nc) hO.res;have TD:=pA (w.heap.size+1) W8 (.int .i64 rep.status) (.string ⟨rep.reason.toArray⟩) (.int .i64 rep.minor) (.slice a (aI rep.fields).length ac) (.string ⟨rep.body.toArray⟩) (.int .i64 2) (.int .i64 (dz (aI rep.fields) k.now k.now k.now)) (.int .i64 left) (.bool esi) (.slice nv ns.length nc);have TS:=hO.live.beside hO.res gJ (by have:=hO.hiX;have:=hO.ltX;omega) TD;have hcx:aP X (MW k aa ca sv ns.length TR rep left) _:=(TD.2 _ (ae hO.call) (by have:=hO.ltX;omega)).trans hO.call
 have hkx:cR X w _:=⟨bj hO.keep.1 TD.size,λg cs Y z h1 h2 h3 h4 h5=>by have h6:=hO.keep.2 g cs Y z h1 h2 h3 h4 h5;exact(TD.2 g (ae h6) (by have:=ae h1;omega)).trans h6⟩;have RY:=bi Pu TD (by omega);have RS:=bi PM TD (by omega);have HF:=ah (aB h10 (aB TS (aB hcx (aB hkx (aB RY RS)))));clear h10 TD TS hcx hkx RY RS Pu PM hO hR Pf;go_wp2_with fail
 obtain⟨h1,h2,h3,h4,h5,h6⟩:=HF.out;have b0:=(ab h1 0).1;have b1:=(ab h1 1).1;have b2:=(ab h1 2).1;have b3:=(ab h1 3).1;have b4:=(ab h1 4).1;have b5:=(ab h1 5).1;have b6:=(ab h1 6).1;have b7:=(ab h1 7).1;have b8:=(ab h1 8).1;have b9:=(ab h1 9).1;unfold cW at b0 b1 b2 b3 b4 b5 b6 b7 b8 b9;simp only[cT,cS,cv]at b0 b1 b2 b3 b4 b5 b6 b7 b8 b9;refine bodyPost_ret_by (v:=.agg (cW (.int .i64 rep.status) (.string ⟨rep.reason.toArray⟩) (.int .i64 rep.minor) (.slice a (aI rep.fields).length ac) (.string ⟨rep.body.toArray⟩) (.int .i64 2) (.int .i64 (dz (aI rep.fields) k.now k.now k.now)) (.int .i64 left) (.bool esi) (.slice nv ns.length nc))) ?_ rfl ?_
 ·unfold cW;simp[results,Tryz.results120,go_sem,b0,b1,b2,b3,b4,b5,b6,b7,b8,b9]
 ·exact⟨a,ac,nv,ns.length,nc,left,esi,NE,put',aa,ca,sv,ns.length,TR,rfl,HEE.out.1,aM.base h5 (by omega),⟨ns,T7,aQ.base h6 (by omega)⟩,h3,h2,HEE.out.2.1,HEE.out.2.2,h4⟩
end Go.Proofs.YtdbjnlkbhhebbaaGreatDoor
