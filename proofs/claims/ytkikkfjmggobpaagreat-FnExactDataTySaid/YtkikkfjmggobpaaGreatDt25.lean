/- Parts of the proof, merged: Ut13, Ut3, Ut16, FindTyItem, Us17. -/
import Derived.Test.YtkikkfjmggobpaaGreatDt24
namespace Go.Proofs.YtkikkfjmggobpaaGreat
open Go.RowKit
set_option maxRecDepth 100000
set_option maxHeartbeats 16000000
set_option linter.unusedVariables false
set_option linter.unusedSimpArgs false
attribute [local go_sem] Ext.cell
theorem dataY_skip {T:List GType} {s:IS} (h:s.cd≠0):∀ (f:Nat) (t:PxT),(dataY T f t s).2=s
 |0,t=>rfl
 |f+1,.mk kd n str ks=>by unfold dataY;rw[if_pos h]
theorem PxR.fr {f b:Nat} {w w' : World} {v:Value} {t:PxT} (h:PxR f (fun q=>b<q) w v t) (hf:IFr b w w'):PxR f (fun q=>b<q) w' v t:=h.to (fun q h1 h2=>hf.kept q h2 (by omega)) (fun _ h _=>h)
theorem pieces3_sl {w:World} {g:Nat} {lo:Nat} {u1 u2 u3:Value} {l1 l2 l3:List GTyItem} (h:RowAt w g 0 [u1,u2,u3]) (hg:lo<=g) (h1:Sl GTyItem.R 3 lo w u1 l1) (h2:Sl GTyItem.R 3 lo w u2 l2) (h3:Sl GTyItem.R 3 lo w u3 l3):Sl PieceR 1 lo w (.slice (some ⟨g,0,none⟩) 3 3) [l1,l2,l3]:=by
 refine⟨_,3,rfl,Nat.le_refl _,by decide,fun _=>⟨g,0,hg,rfl,fun i x hx=>?_⟩⟩
 match i,hx with
 |0,hx=>obtain rfl:=Option.some.inj hx;exact⟨_,⟨u1,rfl,h1⟩,fun j c hc=>by match j,hc with
   |0,hc=>exact h 0 c hc
   |j+1,hc=>simp at hc⟩
 |1,hx=>obtain rfl:=Option.some.inj hx;exact⟨_,⟨u2,rfl,h2⟩,fun j c hc=>by match j,hc with
   |0,hc=>exact h 1 c hc
   |j+1,hc=>simp at hc⟩
 |2,hx=>obtain rfl:=Option.some.inj hx;exact⟨_,⟨u3,rfl,h3⟩,fun j c hc=>by match j,hc with
   |0,hc=>exact h 2 c hc
   |j+1,hc=>simp at hc⟩
 |i+3,hx=>simp at hx
theorem star1_sl {w:World} {g lo:Nat} (hlo:lo<=g) (h:RowAt w g 0 [.int .i64 0,.string nmStar,.int .i64 2]):Sl GTyItem.R 3 lo w (.slice (some ⟨g,0,none⟩) 1 1) [⟨0,nmStar,2⟩]:=by
 refine⟨_,1,rfl,Nat.le_refl _,by decide,fun _=>⟨g,0,hlo,rfl,fun i x hx=>?_⟩⟩
 match i,hx with
 |0,hx=>obtain rfl:=Option.some.inj hx;exact⟨_,⟨rfl,⟨by decide,by decide⟩,strok (by decide),⟨by decide,by decide⟩⟩,h⟩
 |i+1,hx=>simp at hx
def DaPost (b:Nat) (P0 P1:Value) (T:List GType) (f:Nat) (t:PxT) (s:IS) (w:World) (e:Ending) (w' : World):Prop:=
 ∃v lv',e=.returned v/\SB b P0 P1 w' (dataY T f t s).2 lv'/\IFr b w w'/\TV b (3*nT t) (dataY T f t s).2.cd w' v (dataY T f t s).1
def DaC (b tn tc:Nat) (ta:Option Addr) (P1:Value) (T:List GType) (f:Nat):Prop:=
 ∀ (t:PxT),DOkS f t->∀ (s:IS) (lv pv:Value) (w:World),SB b (.slice ta tn tc) P1 w s lv->TyMem b (.slice ta tn tc) T w->s.Good->s.cd=0->s.nx+2*nT t<=600000->PxR f (fun q=>b<q) w pv t->
  Calls Tryz.prog 31 #[.pointer (some ⟨b,0,none⟩),pv] w (DaPost b (.slice ta tn tc) P1 T f t s w)
theorem data_step {b tn tc:Nat} {ta:Option Addr} {P1:Value} {T:List GType} (hT:TysOk T) (f:Nat) (ih:DaC b tn tc ta P1 T f) (t:PxT) (hD:DOkS (f+1) t) (s:IS) (lv pv:Value) (w:World) (S:SB b (.slice ta tn tc) P1 w s lv) (hM:TyMem b (.slice ta tn tc) T w) (hg:s.Good) (h0:s.cd=0) (hn:s.nx+2*nT t<=600000) (hX:PxR (f+1) (fun q=>b<q) w pv t) :
  Calls Tryz.prog 31 #[.pointer (some ⟨b,0,none⟩),pv] w (DaPost b (.slice ta tn tc) P1 T (f+1) t s w):=by
 have hlt:=S.lt
 unfold DaC at ih
 have hok:=dataY_ok hT (f+1) t s hD hg
 obtain⟨hwf,hsh,hTk⟩:=hD
 obtain⟨xb,ka,kc,rfl,hxb,-,hr,hk1,hk2,hkk⟩:=hX
 obtain⟨kd,nn,str,ks⟩:=t
 dsimp only[PxT.kind,PxT.n,PxT.s,PxT.kids]at hr hk1 hkk hTk
 unfold DSh at hsh
 simp only[PxT.kind,PxT.n,PxT.s,PxT.kids]at hsh
 have hnt:=nT_mk kd nn str ks
 have hpost:∀W v lv',SB b (.slice ta tn tc) P1 W (dataY T (f+1) (.mk kd nn str ks) s).2 lv'->IFr b w W->TV b (3*nT (.mk kd nn str ks)) (dataY T (f+1) (.mk kd nn str ks) s).2.cd W v (dataY T (f+1) (.mk kd nn str ks) s).1->DaPost b (.slice ta tn tc) P1 T (f+1) (.mk kd nn str ks) s w (.returned v) W:=fun W v lv' h1 h2 h7=>⟨v,lv',rfl,h1,h2,h7⟩
 generalize DaPost b (.slice ta tn tc) P1 T (f+1) (.mk kd nn str ks) s w=Q at *
 obtain⟨km,hkm⟩ : ∃q,q=ks.length:=⟨_,rfl⟩
 rw[<- hkm]at hr hk1 hkk
 obtain⟨e_0,e_1,e_2,e_3⟩:=hr.box4
 have hxl:=World.block_lt_of_cell? _ _ e_0;dsimp only at hxl
 have hn1:1<=nT (.mk kd nn str ks):=by rw[hnt];omega
 have hp:=hpost
 have hs64:StrOk str:=hwf.2.2
 replace hkm:=kH hkm;replace ih:=kH ih;replace hnt:=kH hnt;replace hok:=kH hok;replace hM:=kH hM;replace hTk:=kH hTk;replace hkk:=kH hkk
 clear hpost hwf hk1 hk2
 go_enter Tryz.func31,Tryz.ntmps31
 rcases hsh with⟨rfl,-,hks⟩|⟨rfl,-,hks,-⟩|⟨rfl,-,-,hks⟩|⟨rfl,-,-,hks⟩|⟨rfl,-,hks⟩
 ·have hdy:dataY T (f+1) (.mk 2 nn str ks) s=(.c0 nmString,s):=by unfold dataY;rw[if_neg (fun h=>h h0),if_neg (by decide),if_pos rfl]
  have cN:=single_c nmString (strok (by decide)) w
  (unfold ItPost at cN;rw[hdy]at hp;clear hdy hok;replace hp:=kH hp;replace cN:=kH cN;go_wp2_with (go_at_call 74;(with_reducible refine(cN.out).mono ?_);rintro e w2 ⟨v2,rfl,T2,hb2⟩);exact hp.out w2 v2 lv (S.below hb2) (IFr.of hb2 (Nat.le_of_lt hlt)) (TV.of ((T2.sl flatTyItem).mono GTyItem.good hlt) (by simp only[szY];omega)))
 ·have hdy:dataY T (f+1) (.mk 3 nn str ks) s=(.c0 nmInt,s):=by unfold dataY;rw[if_neg (fun h=>h h0),if_pos rfl]
  have cN:=single_c nmInt (strok (by decide)) w
  (unfold ItPost at cN;rw[hdy]at hp;clear hdy hok;replace hp:=kH hp;replace cN:=kH cN;go_wp2_with (go_at_call 74;(with_reducible refine(cN.out).mono ?_);rintro e w2 ⟨v2,rfl,T2,hb2⟩);exact hp.out w2 v2 lv (S.below hb2) (IFr.of hb2 (Nat.le_of_lt hlt)) (TV.of ((T2.sl flatTyItem).mono GTyItem.good hlt) (by simp only[szY];omega)))
 ·have hdy:dataY T (f+1) (.mk 6 nn str ks) s=(.c0 nmUnit,s):=by unfold dataY;rw[if_neg (fun h=>h h0),if_neg (by decide),if_neg (by decide),if_pos rfl]
  have cN:=single_c nmUnit (strok (by decide)) w
  (unfold ItPost at cN;rw[hdy]at hp;clear hdy hok;replace hp:=kH hp;replace cN:=kH cN;go_wp2_with (go_at_call 74;(with_reducible refine(cN.out).mono ?_);rintro e w2 ⟨v2,rfl,T2,hb2⟩);exact hp.out w2 v2 lv (S.below hb2) (IFr.of hb2 (Nat.le_of_lt hlt)) (TV.of ((T2.sl flatTyItem).mono GTyItem.good hlt) (by simp only[szY];omega)))
 ·obtain⟨t0,t1,rfl⟩ : ∃k0 k1,ks=[k0,k1]:=by
   match ks,hks with
   |[k0,k1],_=>exact⟨k0,k1,rfl⟩
  obtain rfl:km=2:=hkm.out
  obtain⟨g,o,rfl,hgb,hkids⟩:=hkk.out (by omega)
  obtain⟨p0,hp0,hX0⟩:=hkids 0 t0 rfl
  obtain⟨p1,hp1,hX1⟩:=hkids 1 t1 rfl
  obtain⟨q0,rfl⟩:=hX0.form
  obtain⟨q1,rfl⟩:=hX1.form
  have hdy:dataY T (f+1) (.mk 5 nn str [t0,t1]) s=(.c2 nmStar (dataY T f t0 s).1 (dataY T f t1 (dataY T f t0 s).2).1,(dataY T f t1 (dataY T f t0 s).2).2):=by
   conv=>lhs;unfold dataY
   rw[if_neg (fun h=>h h0),if_neg (by decide),if_neg (by decide),if_neg (by decide),if_pos rfl]
  rw[hdy]at hp
  have hnt2:nT (.mk 5 nn str [t0,t1])=1+(nT t0+nT t1):=by rw[hnt.out];simp[nTs]
  rw[hnt2]at hp hn
  have hT0:=hTk.out t0 (by simp)
  have hT1:=hTk.out t1 (by simp)
  have i1:=dataY_ok hT f t0 s hT0 hg
  have ca:=ih.out t0 hT0 s lv (.pointer (some ⟨q0,0,none⟩)) w S hM.out hg h0 (by omega) hX0
  have cb:=fun W lv' (hS:SB b (.slice ta tn tc) P1 W (dataY T f t0 s).2 lv') (hF:IFr b w W) (hc:(dataY T f t0 s).2.cd=0)=>ih.out t1 hT1 (dataY T f t0 s).2 lv' (.pointer (some ⟨q1,0,none⟩)) W hS (hM.out.fr hF) i1.good hc (by have:=i1.hi;omega) (hX1.fr hF)
  have hskip:(dataY T f t0 s).2.cd≠0->(dataY T f t1 (dataY T f t0 s).2).2=(dataY T f t0 s).2:=fun h=>dataY_skip h f t1
  have i2:=dataY_ok hT f t1 (dataY T f t0 s).2 hT1 i1.good
  have h21:=i2.cd
  have hsz0:=i1.sz
  have hsz1:=i2.sz
  unfold DaPost at ca cb
  generalize dataY T f t0 s=Y0 at *
  generalize dataY T f t1 Y0.2=Y1 at *
  obtain⟨n0,hn0⟩ : ∃q,q=nT t0:=⟨_,rfl⟩
  obtain⟨n1,hn1'⟩ : ∃q,q=nT t1:=⟨_,rfl⟩
  rw[<- hn0]at hp hn hsz0 ca
  rw[<- hn1']at hp hn hsz1 cb
  have hp0' : w.cell? ⟨g,o,none⟩=some (.pointer (some ⟨q0,0,none⟩)):=by simpa using hp0
  have hgl:=World.block_lt_of_cell? _ _ hp0';dsimp only at hgl
  clear hdy hnt2 i1 i2 hok hnt hn1 hT0 hT1 hkids hX0 hX1 hn0 hn1' hp0
  replace hp:=kH hp;replace ca:=kH ca;replace cb:=kH cb;replace hskip:=kH hskip;replace h21:=kH h21
  go_upto_region 10 with(go_at_call 31;(with_reducible refine(ca.out).mono ?_);rintro e w1 ⟨v1,lv1,rfl,S1,F1,T1⟩)
  obtain⟨⟨s_0,s_1,s_2,s_3,s_4,s_5⟩,-⟩:=S1.cells
  have x_0:=F1.row hr (by omega)
  obtain⟨u_0,u_1,u_2,u_3⟩:=x_0.box4
  have u_4:=F1.cell hp1 (by omega)
  have hz1:=F1.size
  replace T1:=kH T1;replace F1:=kH F1
  clear e_0 e_1 e_2 e_3 hp0' hp1 hr
  by_cases hc:Y0.2.cd=0
  ·have dc:(Y0.2.cd != 0)=false:=by rw[hc];rfl
   have cb1:=cb.out w1 lv1 S1 F1.out hc
   replace cb1:=kH cb1
   obtain⟨a1,m1,c1,rfl⟩:=T1.out.form
   go_upto_region 13 with(go_at_call 31;(with_reducible refine(cb1.out).mono ?_);rintro e w2 ⟨v2,lv2,rfl,S2,F2,T2⟩)
   have F02:=F1.out.trans F2
   have hz2:=F2.size
   have T12:=T1.out.fr F2
   have hlt2:=S2.lt
   obtain⟨a2,m2,c2,rfl⟩:=T2.form
   obtain⟨l1,L1,hl1,hf1⟩:=T12
   obtain⟨l2,L2,hl2,hf2⟩:=T2
   obtain⟨w3,hW3⟩ : ∃W,W=(w2.alloc (.cells #[.int .i64 0,.string nmStar,.int .i64 2] 107)).alloc (.cells #[.slice (some ⟨w2.heap.size,0,none⟩) 1 1,.slice a1 m1 c1,.slice a2 m2 c2] 31):=⟨_,rfl⟩
   have hb3:Below w2.heap.size w2 w3:=by rw[hW3];go_grown
   have R3:RowAt w3 w2.heap.size 0 [.int .i64 0,.string nmStar,.int .i64 2]:=by rw[hW3];exact(RowAt.box w2 #[_,_,_] 107).below (by go_grown)
   have P3:RowAt w3 (w2.heap.size+1) 0 [.slice (some ⟨w2.heap.size,0,none⟩) 1 1,.slice a1 m1 c1,.slice a2 m2 c2]:=by rw[hW3];have h:=RowAt.box (w2.alloc (.cells #[.int .i64 0,.string nmStar,.int .i64 2] 107)) #[.slice (some ⟨w2.heap.size,0,none⟩) 1 1,.slice a1 m1 c1,.slice a2 m2 c2] 31;simp only[World.size_alloc]at h;exact h
   have cC:=concatT_c [[⟨0,nmStar,2⟩],l1,l2] (by simp) (by simp;omega) _ (b+1) w3 (pieces3_sl P3 (by omega) (star1_sl (by omega) R3) (L1.below GTyItem.good hb3) (L2.below GTyItem.good hb3))
   unfold ItPost at cC
   rw[hW3]at cC
   replace cC:=kH cC;replace hW3:=kH hW3
   clear R3 P3 L1 L2
   go_wp2_with (go_at_call 75;(with_reducible refine(cC.out).mono ?_);rintro e w4 ⟨v4,rfl,T4,hb4⟩;rw[<- hW3.out]at T4 hb4)
   have hb34:=hb3.trans (hb4.mono hb3.size)
   have hz3:=hb3.size
   refine hp.out w4 v4 lv2 (S2.below hb34) (F02.grow hb34 (by omega)) ⟨_,(T4.sl flatTyItem).mono GTyItem.good (by omega),by simp;omega,fun h=>?_⟩
   rw[hf1 hc,hf2 h]
   simp[flatY]
  ·have dc:(Y0.2.cd != 0)=true:=by simpa using hc
   have hs:=hskip.out hc
   rw[hs]at hp
   clear cb
   go_wp2_with fail
   exact hp.out w1 _ lv1 S1 F1.out (TV.none hc)
 ·obtain⟨one,hone⟩ : ∃q,q=decide (0<km):=⟨_,rfl⟩
  have cCn:=fun W (hS:SB b (.slice ta tn tc) P1 W s lv) (hW:TyMem b (.slice ta tn tc) T W)=>cons_c hS hW hT (by omega) h0 str one 0
  have hlko:=lookY_ok hT hg str one (a:=0) i64_zero
  obtain⟨L,hL⟩ : ∃L,L=lookY T s str one 0:=⟨_,rfl⟩
  rw[<- hL]at cCn hlko
  have hd:decide ((0:Int)<(km:Int))=one:=by rw[hone];simp
  have hd2:decide (0<km)=one:=hone.symm
  unfold CnPost at cCn
  replace cCn:=kH cCn;replace hL:=kH hL;replace hlko:=kH hlko;replace hone:=kH hone
  go_upto_region 14 with fail
  go_cut [7,8,9] (fun v1 v2 okv wx=>∃ (aO:Option Addr) (nO cO:Nat) (aA:Option Addr) (nA cA:Nat),v1=.slice aO nO cO/\v2=.slice aA nA cA/\okv=.bool (decide (L.2.2.cd=0))/\SB b (.slice ta tn tc) P1 wx L.2.2 lv/\Hid (IFr b w wx)/\Hid (TV b 3 L.2.2.cd wx (.slice aO nO cO) L.1)/\Hid (one=true->TV b 40000 L.2.2.cd wx (.slice aA nA cA) L.2.1))
  case first=>
   go_region_held3 (fun w'=>w'.cell? ⟨xb,2,none⟩=some (.string str)/\w'.cell? ⟨xb,3,none⟩=some (.slice ka km kc))
    (first|exact⟨e_2,e_3⟩|exact⟨u_2,u_3⟩|go_keep)
    (first|(go_at_call 76;(with_reducible refine(cCn.out _ (S.below ((Below.refl _ w).drew)) (hM.out.below ((Below.refl _ w).drew) (Nat.le_of_lt hlt))).mono ?_);rintro e w1 ⟨v1,v2,rfl,S1,F1',⟨aO,nO,cO,rfl⟩,⟨aA,nA,cA,rfl⟩,T1,T2⟩;have F1:=(IFr.of ((Below.refl _ w).drew) (Nat.le_of_lt hlt)).trans F1';have hr1:=F1.row hr (by omega);obtain⟨u_0,u_1,u_2,u_3⟩:=hr1.box4;replace F1:=kH F1;replace T1:=kH T1;replace T2:=kH T2))
   all_goals go_wp2_with fail
   all_goals go_meet
   all_goals exact⟨_,_,_,_,_,_,rfl,rfl,rfl,S1,F1,T1,T2⟩
  obtain⟨aO,nO,cO,aA,nA,cA,rfl,rfl,rfl,S1,F1,T1,T2⟩:=hcut
  have hr1:=F1.out.row hr (by omega)
  have hz1:=F1.out.size
  clear e_0 e_1 e_2 e_3 hr cCn
  obtain⟨w1,rfl⟩ : ∃W,W=wc:=⟨_,rfl⟩
  obtain⟨e_0,e_1,e_2,e_3⟩:=hr1.box4
  have hxl1:=World.block_lt_of_cell? _ _ e_0;dsimp only at hxl1
  match ks,hks with
  |[],_=>
   obtain rfl:km=0:=hkm.out
   obtain rfl:one=false:=hone.out
   have hdy:dataY T (f+1) (.mk 4 nn str []) s=(L.1,L.2.2):=by
    rw[hL.out];unfold dataY;rw[if_neg (fun h=>h h0),if_neg (by decide),if_neg (by decide),if_neg (by decide),if_neg (by decide)]
   rw[hdy]at hp
   have hp1:=hp w1 (.slice aO nO cO) lv S1 F1.out (T1.out.cd id (by omega))
   generalize decide (L.2.2.cd=0)=okb at *
   replace hp1:=kH hp1
   clear hp hdy hok hlko hL S1 F1 T1 T2 hTk hkk
   cases okb
   ·go_wp2_with fail
    exact hp1.out
   ·go_wp2_with fail
    exact hp1.out
  |[k],_=>
   obtain rfl:km=1:=hkm.out
   obtain rfl:one=true:=hone.out
   by_cases hc:L.2.2.cd=0
   ·have hdy:dataY T (f+1) (.mk 4 nn str [k]) s=(L.1,(dataY T f k L.2.2).2.demand (dataY T f k L.2.2).1 L.2.1 0):=by
     have hL':=hL.out
     conv=>lhs;unfold dataY
     rw[if_neg (fun h=>h h0),if_neg (by decide),if_neg (by decide),if_neg (by decide),if_neg (by decide)]
     dsimp only
     rw[<- hL',if_pos hc]
    rw[hdy]at hp
    obtain⟨g1,g2,g3,g4,g5⟩:=hlko.out
    obtain⟨t1,-,t3⟩:=g5 hc
    obtain⟨t4,-⟩:=t3 rfl
    have hTk0:=hTk.out k (by simp)
    have hnt2:nT (.mk 4 nn str [k])=1+nT k:=by rw[hnt.out];simp[nTs]
    rw[hnt2]at hp hn
    have i1:=dataY_ok hT f k L.2.2 hTk0 g1
    obtain⟨g,o,rfl,hgb,hkids⟩:=hkk.out (by omega)
    obtain⟨p0,hp0,hX0⟩:=hkids 0 k rfl
    obtain⟨q0,rfl⟩:=hX0.form
    have ca:=ih.out k hTk0 L.2.2 lv (.pointer (some ⟨q0,0,none⟩)) w1 S1 (hM.out.fr F1.out) g1 hc (by omega) (hX0.fr F1.out)
    have hp0' : w1.cell? ⟨g,o,none⟩=some (.pointer (some ⟨q0,0,none⟩)):=F1.out.cell (by simpa using hp0) (by omega)
    have hgl:=World.block_lt_of_cell? _ _ hp0';dsimp only at hgl
    have hcd0:=i1.cd
    have cS:=fun W lv' (v3:Value) (hS:SB b (.slice ta tn tc) P1 W (dataY T f k L.2.2).2 lv') (hF:IFr b w1 W) (hv:TV b (3*nT k) (dataY T f k L.2.2).2.cd W v3 (dataY T f k L.2.2).1)=>
     same_c (m:=1000000) (x:=(dataY T f k L.2.2).1) (y:=L.2.1) hS i1.good (by have:=i1.hi;omega) (Nat.le_refl _) (hv.cd id (by omega)) (((T2.out rfl).fr hF).cd hcd0 (by omega)) i1.ty (fun h=>t4.up i1.lo) 0 i64_zero
    have hdc:((dataY T f k L.2.2).2.demand (dataY T f k L.2.2).1 L.2.1 0).cd=0->L.2.2.cd=0:=fun h=>hcd0 (demand_cd h)
    have dc:decide (L.2.2.cd=0)=true:=decide_eq_true hc
    rw[dc]
    unfold DaPost at ca
    unfold SmPost at cS
    generalize dataY T f k L.2.2=Y at *
    generalize Y.2.demand Y.1 L.2.1 0=D at *
    replace hp:=kH hp;replace ca:=kH ca;replace cS:=kH cS;replace hdc:=kH hdc
    clear hdy g1 g2 g3 g4 g5 t1 t3 t4 hTk0 hnt2 i1 hkids hX0 hp0 hlko hL hok hTk hkk ih dc
    go_wp2_with (first
     |(go_at_call 31;(with_reducible refine(ca.out).mono ?_);rintro e w3 ⟨v3,lv3,rfl,S3,F3,T3⟩)
     |(go_at_call 77;(with_reducible refine(cS.out w3 lv3 v3 S3 F3 T3).mono ?_);rintro e w4 ⟨rfl,lv4,S4,F4⟩))
    exact hp.out w4 _ lv4 S4 ((F1.out.trans F3).trans F4) (((T1.out.fr F3).fr F4).cd hdc.out (by omega))
   ·have hdy:dataY T (f+1) (.mk 4 nn str [k]) s=(L.1,L.2.2):=by
     have hL':=hL.out
     conv=>lhs;unfold dataY
     rw[if_neg (fun h=>h h0),if_neg (by decide),if_neg (by decide),if_neg (by decide),if_neg (by decide)]
     dsimp only
     rw[<- hL',if_neg hc]
    rw[hdy]at hp
    have dc:decide (L.2.2.cd=0)=false:=decide_eq_false hc
    rw[dc]
    have hp1:=hp w1 (.slice aO nO cO) lv S1 F1.out (T1.out.cd id (by omega))
    replace hp1:=kH hp1
    clear hp hdy hok hlko hL S1 F1 T1 T2 hTk hkk dc
    go_wp2_with fail
    exact hp1.out
theorem data_all {b tn tc:Nat} {ta:Option Addr} {P1:Value} {T:List GType} (hT:TysOk T) (f:Nat):DaC b tn tc ta P1 T f:=by
 induction f with
 |zero=>intro t h;exact absurd h (by simp[DOkS])
 |succ f ih=>exact fun t h1 s lv pv w h2 h3 h4 h5 h6 h7=>data_step hT f ih t h1 s lv pv w h2 h3 h4 h5 h6 h7
def canU (F:List Int) (l:List GTyItem) (i:Nat):List GTyItem:=(l.take i).map (canX F)++l.drop i
theorem canU_len (F:List Int) (l:List GTyItem) (i:Nat):(canU F l i).length=l.length:=by unfold canU;simp;omega
theorem canU_get {F:List Int} {l:List GTyItem} {i:Nat} {x:GTyItem} (h:l[i]? = some x):(canU F l i)[i]? = some x:=by
 have hi:=(List.getElem?_eq_some_iff.1 h).1
 unfold canU
 rw[List.getElem?_append_right (by simp;omega)]
 simp only[List.length_map,List.length_take,List.getElem?_drop]
 rw[show i+(i-min i l.length)=i by omega];exact h
theorem canU_step {F:List Int} {l:List GTyItem} {i:Nat} {x:GTyItem} (h:l[i]? = some x):canU F l (i+1)=(l.take i).map (canX F)++canX F x :: l.drop (i+1)/\canU F l i=(l.take i).map (canX F)++x :: l.drop (i+1):=by
 obtain⟨hi,hx⟩:=List.getElem?_eq_some_iff.1 h
 refine⟨?_,?_⟩
 ·unfold canU;rw[take_snoc' h,List.map_append];simp
 ·unfold canU;rw[List.drop_eq_getElem_cons hi,hx]
theorem rows_set0 {A B:List GTyItem} {x:GTyItem} {k:Int} {m:Nat} (hm:m=A.length*3) :
  (rowsOf tyRow (A++x :: B)).take m ++ [.int .i64 k] ++ (rowsOf tyRow (A++x :: B)).drop (m+1)=rowsOf tyRow (A ++ ⟨k,x.name,x.arity⟩ :: B):=by
 have e:∀y:GTyItem,rowsOf tyRow (A++y :: B)=rowsOf tyRow A++(tyRow y++rowsOf tyRow B):=fun y=>by
  rw[rowsOf_append];congr 1
 have hl:(rowsOf tyRow A).length=m:=by rw[flatTyItem.length,hm]
 rw[e,e,List.take_append_of_le_length (by omega),List.take_of_length_le (by omega),<- hl,List.drop_append,List.drop_of_length_le (by omega),show(rowsOf tyRow A).length+1-(rowsOf tyRow A).length=1 by omega]
 simp[tyRow]
theorem own_can {F:List Int} {l:List GTyItem} {i lo g n cap:Nat} {x:GTyItem} {w:World} (h:OwnT lo w (.slice (some ⟨g,0,none⟩) n cap) (canU F l i)) (hn:n=l.length) (hx:l[i]? = some x) (he:x.name.toList.isEmpty=true) {k:Int} (hk:k=((F.idxOf x.var:Nat):Int)) (hk64:I64 k) :
  OwnT lo (w.setCell ⟨g,i*3,none⟩ (.int .i64 k)) (.slice (some ⟨g,0,none⟩) n cap) (canU F l (i+1)):=by
 obtain⟨e1,e2⟩:=canU_step (F:=F) hx
 have hi:=(List.getElem?_eq_some_iff.1 hx).1
 have hlA:((l.take i).map (canX F)).length=i:=by simp;omega
 have hcx:canX F x=⟨k,x.name,x.arity⟩:=by unfold canX;rw[if_pos he,hk]
 have hl:=canU_len F l i
 refine⟨?_,fun y hy=>?_⟩
 ·have h1:=own_store_cells (r:=[.int .i64 k]) (off:=i*3) (by have:=h.1;rw[hl,<- hn]at this;exact this) (by simp;omega)
  rw[e2,List.length_singleton,rows_set0 (by rw[hlA])]at h1
  rw[canU_len,<- hn,e1,hcx]
  exact h1
 ·rw[e1]at hy
  have hw:=h.2
  rw[e2]at hw
  rcases List.mem_append.1 hy with h1|h1
  ·exact hw y (List.mem_append_left _ h1)
  ·rcases List.mem_cons.1 h1 with rfl|h1
   ·have hxw:=hw x (List.mem_append_right _ (by simp))
    rw[hcx];exact⟨hk64,hxw.2⟩
   ·exact hw y (List.mem_append_right _ (by simp[h1]))
theorem canon_c (l:List GTyItem) (hB:l.length<=1000000) (tv:Value) (w:World) (ht:Sl GTyItem.R 3 0 w tv l) :
  Calls Tryz.prog 73 #[tv] w (TyPost (canL l) w):=by
 have cV:=fun W (hW:Below w.heap.size w W)=>varsIn_c l (by omega) tv W (ht.below GTyItem.good hW)
 have cC:=fun W (hW:Below w.heap.size w W)=>cloneT_c l tv 0 (by omega) W (ht.below GTyItem.good hW)
 unfold ViPost at cV
 unfold ItPost at cC
 have hpost:∀W v,OwnT w.heap.size W v (canL l)->Below w.heap.size w W->TyPost (canL l) w (.returned (.agg #[v])) W:=fun W v h1 h3=>⟨v,rfl,h1,h3⟩
 generalize TyPost (canL l) w=Q at *
 obtain⟨ta,tc,rfl⟩:=ht.form
 clear ht
 obtain⟨n,hn⟩ : ∃n,n=l.length:=⟨_,rfl⟩
 rw[<- hn]at hB cV cC ⊢
 have hF:∀ (i:Nat) (x:GTyItem),l[i]? = some x->x.name.toList.isEmpty=true->idxI (seenL l) x.var=(((seenL l).idxOf x.var:Nat):Int)/\I64 (((seenL l).idxOf x.var:Nat):Int):=fun i x h h2=>by
  have hm:=seen_in l [] x (List.mem_of_getElem? h) h2
  unfold idxI
  refine⟨if_pos hm,?_⟩
  have:=List.idxOf_lt_length_of_mem hm
  have:=seenL_len l
  have:=hn
  unfold seenL at *
  exact⟨by omega,by omega⟩
 rw[canL_map]at hpost
 have hl0:canU (seenL l) l 0=l:=by unfold canU;simp
 have hln:canU (seenL l) l n=l.map (canX (seenL l)):=by unfold canU;rw[hn];simp
 have hget:∀ (i:Nat) (x:GTyItem),l[i]? = some x->(canU (seenL l) l i)[i]? = some x:=fun i x h=>canU_get h
 have hnam:∀ (i:Nat) (x:GTyItem),l[i]? = some x->x.name.toList.isEmpty=false->canU (seenL l) l (i+1)=canU (seenL l) l i:=fun i x h h2=>by
  obtain⟨e1,e2⟩:=canU_step (F:=seenL l) h
  rw[e1,e2,canX_named h2]
 have hown:=fun {i lo g cap:Nat} {x:GTyItem} {w:World} (h:OwnT lo w (.slice (some ⟨g,0,none⟩) n cap) (canU (seenL l) l i))=>own_can h hn (x:=x)
 have hsl:=fun i=>canU_len (seenL l) l i
 rw[<- hn]at hsl
 rw[<- hln]at hpost
 generalize seenL l=F at *
 clear hln
 replace hn:=kH hn;replace hpost:=kH hpost;replace cV:=kH cV;replace cC:=kH cC;replace hF:=kH hF;replace hl0:=kH hl0;replace hget:=kH hget;replace hnam:=kH hnam;replace hsl:=kH hsl
 go_enter Tryz.func73,Tryz.ntmps73
 go_upto_region 1 with fail
 have R:RowAt (w.alloc (.cells #[.slice none 0 0] 33)) (w.heap.size) 0 [.slice none 0 0]:=RowAt.box w #[.slice none 0 0] 33
 have RW:Wr (w.alloc (.cells #[.slice none 0 0] 33)) (w.heap.size) 0 1:=Wr.box w #[.slice none 0 0] 33
 have hw:Below w.heap.size w (w.alloc (.cells #[.slice none 0 0] 33)):=by go_grown
 generalize (w.alloc (.cells #[.slice none 0 0] 33))=w0 at *
 have rf_0:=RW.frz 0 (by omega);have r_0:=R.box1;have hsR:=bLt r_0
 have hz0:=hw.size
 go_upto_region 2 with(go_at_call 115;(with_reducible refine(cV.out _ hw).mono ?_);rintro e w2 ⟨v2,rfl,V2,hb2⟩;have R2:=R.below hb2;have R2W:=RW.below hb2;have hw2:=hw.trans (hb2.mono hw.size);have hv2:=V2.base;have hzz:=hb2.size;have hsR0:=World.block_lt_of_cell? _ _ (R 0 _ rfl);dsimp only at hsR0;clear hb2;replace V2:=kH V2;replace hv2:=kH hv2)
 clear r_0 rf_0 hsR R RW hw cV
 go_upto_region 3 with(go_at_call 116;(with_reducible refine(cC.out _ hw2).mono ?_);rintro e w3 ⟨v3,rfl,C3,hb3⟩;have R3:=R2.below hb3;have R3W:=R2W.below hb3;have V3:=V2.out.below hb3;have hw3:=hw2.trans (hb3.mono hw2.size);clear hb3;replace V3:=kH V3)
 have hz2:w.heap.size+1<=w2.heap.size:=by omega
 clear R2 R2W V2 hw2 cC hzz hsR0
 obtain⟨B1,hB1⟩ : ∃q,q=w2.heap.size:=⟨_,rfl⟩
 rw[<- hB1]at C3 hz2 hv2
 obtain⟨a,c,hv3⟩:=C3.form
 rw[<- hn.out]at hv3
 subst hv3
 rw[<- hl0.out]at C3
 have V3:=kH (V3.out.mono hz0)
 have hvb:∀g,v2.ownBlock=some g->g<B1:=fun g hg=>(hv2.out g hg).2
 obtain⟨va2,vn2,vc2,rfl⟩ : ∃a n c,v2=.slice a n c:=by obtain⟨a,c,h⟩:=V3.out.form;exact⟨_,_,_,h⟩
 replace C3:=kH C3;replace hB1:=kH hB1;replace hvb:=kH hvb
 clear hl0 hv2
 go_wp2_with fail
 go_loopw [13] (fun ii wr=>∃ (i:Nat),i<=n/\ii=.int .i64 i/\Hid (OwnT B1 wr (.slice a n c) (canU F l i))/\Hid (OwnF 3 1 intRow I64 w.heap.size wr (.slice va2 vn2 vc2) F)/\RowAt wr w.heap.size 0 [.slice none 0 0]/\Wr wr w.heap.size 0 1/\Below w.heap.size w wr) (fun ii _=>n-(intOf ii).toNat)
 case atStart=>exact⟨0,by omega,rfl,C3,V3,R3,R3W,hw3⟩
 case round=>
  clear C3 V3 R3 R3W hw3
  obtain⟨i,hi,rfl,OT,V,R,RW,hw⟩:=hrel
  have hz:=hw.size
  by_cases hlt:i<n
  ·obtain⟨g,cap,hv,q1,q2,q3,q4,q5,q6⟩:=own_cells OT.out.1 (by rw[hsl.out];omega)
   obtain⟨rfl,rfl⟩ : a=some ⟨g,0,none⟩/\c=cap:=by injection hv with e1 e2 e3;exact⟨e1,e3⟩
   clear hv
   obtain⟨x,P1⟩ : ∃x,l[i]? = some x:=⟨_,List.getElem?_eq_getElem (by have:=hn.out;omega)⟩
   have hg:=hget.out i x P1
   have r1:∀j c,(tyRow x)[j]? = some c->wr.cell? ⟨g,i*3+j,none⟩=some c:=fun j c h=>by have:=q5 _ c (flatTyItem.get hg h);rwa [Nat.zero_add]at this
   have hnm:=hnam.out i x P1
   have hFx:=hF.out i x P1
   have hst:=fun W (h:OwnT B1 W (.slice (some ⟨g,0,none⟩) n c) (canU F l i))=>hown (i:=i) (lo:=B1) (g:=g) (cap:=c) (x:=x) (w:=W) h P1
   have hfz:wr.frozen? ⟨g,i*3,none⟩=false:=q6.frz _ (by rw[hsl.out];omega)
   have cI:=fun W (hW:Below wr.heap.size wr W)=>indexI_c F x.var _ _ W ((V.out.sl flatInt).below IntR.good hW)
   obtain⟨va,nm,ar⟩:=x
   dsimp only[tyRow]at r1
   dsimp only at hnm hFx hst cI
   have e_0:wr.cell? ⟨g,i*3,none⟩=some (.int .i64 va):=by simpa using r1 0 _ rfl
   have e_1:wr.cell? ⟨g,i*3+1,none⟩=some (.string nm):=r1 1 _ rfl
   have e_2:wr.cell? ⟨g,i*3+2,none⟩=some (.int .i64 ar):=r1 2 _ rfl
   obtain⟨q,hq⟩ : ∃q,nm.toList.isEmpty=q:=⟨_,rfl⟩
   have hq2:(nm.toList == [])=q:=by rw[<- hq];cases nm.toList<;>rfl
   rw[hq]at hnm hFx hst
   clear r1 P1 q5 q6 hg
   obtain⟨k,hk⟩ : ∃k,k=idxI F va:=⟨_,rfl⟩
   replace cI:∀W,Below wr.heap.size wr W->Calls Tryz.prog 117 #[.slice va2 vn2 vc2,.int .i64 va] W (fun e w'=>e=.returned (.int .i64 k)/\w' = W):=fun W hW=>by
    rw[hk];exact cI W hW
   rw[<- hk]at hFx
   replace hq:=kH hq;replace hnm:=kH hnm;replace hFx:=kH hFx;replace hst:=kH hst;replace hk:=kH hk;replace cI:=kH cI
   go_upto_region 6 with fail
   obtain⟨w4,hW4⟩ : ∃W,W=wr.alloc (.cells #[.int .i64 va,.string nm,.int .i64 ar] 107):=⟨_,rfl⟩
   rw[<- hW4]
   have hb4:Below wr.heap.size wr w4:=by rw[hW4];go_grown
   have X:RowAt w4 wr.heap.size 0 [.int .i64 va,.string nm,.int .i64 ar]:=by rw[hW4];exact RowAt.box wr #[_,_,_] _
   obtain⟨xb,hxb⟩ : ∃x,x=wr.heap.size:=⟨_,rfl⟩
   rw[<- hxb]at X ⊢
   have cI4:=cI.out w4 hb4
   have T4:=OT.out.below hb4
   have V4:=V.out.below hb4
   have R4:=R.below hb4
   have R4W:=RW.below hb4
   have hw4:=hw.trans (hb4.mono hz)
   have f_0:=cell_below hb4 e_0
   have ff_0:w4.frozen? ⟨g,i*3,none⟩=false:=by
    obtain⟨_,_,hv4,_,_,_,_,_,p6⟩:=own_cells T4.1 (by rw[hsl.out];omega)
    obtain⟨rfl,rfl⟩ : g=_/\_=_:=by injection hv4 with e1 e2 e3;injection e1 with e1;injection e1 with e1;exact⟨e1,e3⟩
    exact p6.frz _ (by rw[hsl.out];omega)
   have hgl:=World.block_lt_of_cell? _ _ f_0;dsimp only at hgl
   replace T4:=kH T4;replace V4:=kH V4;replace cI4:=kH cI4;replace hxb:=kH hxb
   clear hW4 hb4 e_0 e_1 e_2 OT V R RW hw cI hfz
   obtain⟨x_0,x_1,x_2⟩:=X.box3;have hsX:=bLt x_0
   cases q
   ·have hnm2:=hnm.out rfl
    replace hnm2:=kH hnm2
    go_wp2_with fail
    go_roundw
    case rel=>exact⟨i+1,by omega,by go_num,kH (by rw[hnm2.out];exact T4.out),V4,R4,R4W,hw4⟩
    case measure=>simp[intOf];omega
   ·obtain⟨h5,h6⟩:=hFx.out rfl
    have hst2:=hst.out w4 T4.out rfl (k:=k) h5 (by rw[h5];exact h6)
    replace hst2:=kH hst2
    clear hst hFx hnm hk h5 h6
    go_wp2_with (go_at_call 117;(with_reducible refine(cI4.out).mono ?_);rintro e w5 ⟨rfl,rfl⟩)
    go_roundw
    case rel=>exact⟨i+1,by omega,by go_num,hst2,kH (V4.out.kept ((Kept.refl (fun q=>q=g) _).set (p:=⟨g,i*3,none⟩) rfl _) (fun y hy e=>by have:=hvb.out y hy;omega)),R4.kept ((Kept.refl (fun q=>q=g) _).set (p:=⟨g,i*3,none⟩) rfl _) (by omega),R4W.kept ((Kept.refl (fun q=>q=g) _).set (p:=⟨g,i*3,none⟩) rfl _) (by omega),hw4.setCell (p:=⟨g,i*3,none⟩) (by dsimp only;omega) _⟩
    case measure=>simp[intOf];omega
  ·obtain rfl:i=n:=by omega
   have rf_0:=RW.frz 0 (by omega);have r_0:=R.box1;have hsR:=bLt r_0
   go_wp2_with fail
   refine bodyPost_ret (ret_ty (a:=2) Tryz.results73 rfl (R.putAt (j:=0) (by simp) (.slice a i c))) rfl ?_
   exact hpost.out _ _ ((OT.out.kept ((Kept.refl (fun q=>q=w.heap.size) wr).set (p:=⟨w.heap.size,0,none⟩) rfl _) (fun g hg e=>by have:=OT.out.base g hg;omega)).mono (by omega)) (hw.setCell (p:=⟨w.heap.size,0,none⟩) (Nat.le_refl _) _)
theorem ret_told {fn:Func} {tmps:Array Value} {a i j:Nat} {g:Nat} {v0 u0 u1:Value} {w:World} (hf:fn.results = #[.cell a 33,.tmp i,.tmp j]) (hp:tmps.getD a undef=.pointer (some ⟨g,0,none⟩)) (hi:tmps.getD i undef=u0) (hj:tmps.getD j undef=u1) (h0:RowAt w g 0 [v0]) :
  (results fn tmps).run Tryz.prog w=.ok (.tuple #[.agg #[v0],u0,u1]) w:=by
 have hp' : tmps[a]?.getD undef=.pointer (some ⟨g,0,none⟩):=by simpa using hp
 have hi' : tmps[i]?.getD undef=u0:=by simpa using hi
 have hj' : tmps[j]?.getD undef=u1:=by simpa using hj
 have e0:=h0.box1
 simp[results,hf,go_sem,hp',hi',hj',e0]
def toldP (s:IS) (t:TyT):List GTyItem × Int × Int:=if s.cd≠0 then ([],s.cd,s.at_) else if 200<szY (subY s.sub t) then ([],26,0) else (canL (flatY (subY s.sub t)),0,0)
def ToPost (q:List GTyItem × Int × Int) (w:World) (e:Ending) (w' : World):Prop:=∃v,e=.returned (.tuple #[.agg #[v],.int .i64 q.2.1,.int .i64 q.2.2])/\OwnT w.heap.size w' v q.1/\Below w.heap.size w w'
theorem told_c {b m:Nat} {P0 P1 lv tv:Value} {w:World} {s:IS} {t:TyT} (S:SB b P0 P1 w s lv) (hg:s.Good) (ht:TV b m s.cd w tv t) (hm:m<=1000000) (hN:s.cd=0->NamesY t) :
  Calls Tryz.prog 30 #[.pointer (some ⟨b,0,none⟩),tv] w (ToPost (toldP s t) w):=by
 have hlt:=S.lt
 have hpost:∀W v l c a,toldP s t=(l,c,a)->OwnT w.heap.size W v l->Below w.heap.size w W->ToPost (toldP s t) w (.returned (.tuple #[.agg #[v],.int .i64 c,.int .i64 a])) W:=fun W v l c a h h1 h2=>by rw[h];exact⟨v,rfl,h1,h2⟩
 obtain⟨ta,tn,tc,rfl⟩:=ht.form
 obtain⟨la,ln,lc,rfl⟩:=S.form
 by_cases h0:s.cd=0
 rotate_left
 ·have d0:(s.cd != 0)=true:=by simpa using h0
  have hq:toldP s t=([],s.cd,s.at_):=if_pos h0
  have hp:=fun W v=>hpost W v _ _ _ hq
  generalize ToPost (toldP s t) w=Q at *
  replace hp:=kH hp
  clear hpost hq hN ht hg
  go_enter Tryz.func30,Tryz.ntmps30
  go_upto_region 1 with fail
  have R:RowAt (w.alloc (.cells #[.slice none 0 0] 33)) (w.heap.size) 0 [.slice none 0 0]:=RowAt.box w #[.slice none 0 0] 33
  have RW:Wr (w.alloc (.cells #[.slice none 0 0] 33)) (w.heap.size) 0 1:=Wr.box w #[.slice none 0 0] 33
  have hw:Below w.heap.size w (w.alloc (.cells #[.slice none 0 0] 33)):=by go_grown
  generalize (w.alloc (.cells #[.slice none 0 0] 33))=w0 at *
  have S0:=S.below hw
  obtain⟨⟨s_0,s_1,s_2,s_3,s_4,s_5⟩,-⟩:=S0.cells
  have hlt0:=S0.lt
  have rf_0:=RW.frz 0 (by omega);have r_0:=R.box1;have hsR:=bLt r_0
  have v_4:∀u,((w0.setCell ⟨w.heap.size,0,none⟩ u).drew).cell? ⟨b,4,none⟩=some (.int .i64 s.cd):=fun u=>by
   show(w0.setCell ⟨w.heap.size,0,none⟩ u).cell? ⟨b,4,none⟩=_
   rw[World.cell?_setCell_other _ _ _ _ (by intro e;injection e with e1;omega)];exact s_4
  have v_5:∀u,((w0.setCell ⟨w.heap.size,0,none⟩ u).drew).cell? ⟨b,5,none⟩=some (.int .i64 s.at_):=fun u=>by
   show(w0.setCell ⟨w.heap.size,0,none⟩ u).cell? ⟨b,5,none⟩=_
   rw[World.cell?_setCell_other _ _ _ _ (by intro e;injection e with e1;omega)];exact s_5
  replace v_4:=kH v_4;replace v_5:=kH v_5
  go_upto_region 2 with fail
  go_region_held3 (fun w'=>w'.cell? ⟨b,4,none⟩=some (.int .i64 s.cd)/\w'.cell? ⟨b,5,none⟩=some (.int .i64 s.at_))
   (first|exact⟨s_4,s_5⟩|exact⟨v_4.out _,v_5.out _⟩|go_keep)
   (fail)
  all_goals go_wp2_with fail
  all_goals (refine bodyPost_ret (ret_told (a:=4) (i:=5) (j:=6) Tryz.results30 rfl rfl rfl (show RowAt ((w0.setCell ⟨w.heap.size,0,none⟩ (.slice none 0 0)).drew) w.heap.size 0 [.slice none 0 0] from R.putAt (j:=0) (by simp) _)) rfl ?_)
  all_goals exact hp.out _ _ OwnF.empty (hw.setCell (p:=⟨w.heap.size,0,none⟩) (Nat.le_refl _) _).drew
 ·have hN0:=hN h0
  obtain⟨g1,g2⟩:=hg.sub h0
  have hts:=ht.good h0
  have htz:szY t<=m:=by obtain⟨l,_,h2,h3⟩:=ht;rw[h3 h0,flatY_len]at h2;exact h2
  have hX:=sz_sub (σ:=s.sub) g1.sz t
  have hls:=S.sl h0
  have hNX:=names_sub g2 t hN0
  have cP:∀W,Below w.heap.size w W->Calls Tryz.prog 72 #[.slice ta tn tc,.slice la ln lc] W (ItPost (flatY (subY s.sub t)) W):=fun W hW=>by
   rw[<- putL_flat _ _ hN0]
   exact put_c (flatY t) s.sub (by rw[putL_flat _ _ hN0,flatY_len];omega) _ _ W ((hts.below GTyItem.good hW).mono GTyItem.good (Nat.zero_le _)) ((hls.below SubR.good hW).mono SubR.good (Nat.zero_le _))
  have hbig:200<szY (subY s.sub t)->toldP s t=([],26,0):=fun h=>by unfold toldP;rw[if_neg (fun h=>h h0),if_pos h]
  have hok : ¬ 200<szY (subY s.sub t)->toldP s t=(canL (flatY (subY s.sub t)),0,0):=fun h=>by unfold toldP;rw[if_neg (fun h=>h h0),if_neg h]
  have cC:=fun W v (hv:Sl GTyItem.R 3 0 W v (flatY (subY s.sub t))) (h:szY (subY s.sub t)<=200)=>canon_c (flatY (subY s.sub t)) (by rw[flatY_len];omega) v W hv
  generalize ToPost (toldP s t) w=Q at *
  have hzX:=flatY_len (subY s.sub t)
  generalize subY s.sub t=X at *
  obtain⟨z,hz⟩ : ∃z,z=szY X:=⟨_,rfl⟩
  rw[<- hz]at hbig hok hzX cC
  unfold ItPost at cP
  unfold TyPost at cC
  replace hpost:=kH hpost;replace cP:=kH cP;replace hbig:=kH hbig;replace hok:=kH hok;replace cC:=kH cC;replace hz:=kH hz;replace hzX:=kH hzX
  clear hN hN0 g1 g2 hts hls hX hg ht htz hNX
  go_enter Tryz.func30,Tryz.ntmps30
  go_upto_region 1 with fail
  have R:RowAt (w.alloc (.cells #[.slice none 0 0] 33)) (w.heap.size) 0 [.slice none 0 0]:=RowAt.box w #[.slice none 0 0] 33
  have RW:Wr (w.alloc (.cells #[.slice none 0 0] 33)) (w.heap.size) 0 1:=Wr.box w #[.slice none 0 0] 33
  have hw:Below w.heap.size w (w.alloc (.cells #[.slice none 0 0] 33)):=by go_grown
  generalize (w.alloc (.cells #[.slice none 0 0] 33))=w0 at *
  have S0:=S.below hw
  obtain⟨⟨s_0,s_1,s_2,s_3,s_4,s_5⟩,-⟩:=S0.cells
  rw[h0]at s_4
  have hlt0:=S0.lt
  replace h0:=kH h0
  go_upto_region 4 with(go_at_call 72;(with_reducible refine(cP.out _ hw).mono ?_);rintro e w2 ⟨v2,rfl,T2,hb2⟩;obtain⟨a2,c2,rfl⟩:=T2.form;rw[hzX.out]at T2 ⊢)
  have R2:=R.below hb2
  have R2W:=RW.below hb2
  have hw2:=hw.trans (hb2.mono hw.size)
  have T2s:=(T2.sl flatTyItem).mono GTyItem.good (Nat.zero_le _)
  replace T2s:=kH T2s
  clear s_0 s_1 s_2 s_3 s_4 s_5 S0 R RW hw hb2 T2 cP
  have r2f_0:=R2W.frz 0 (by omega);have r2_0:=R2.box1;have hsR2:=bLt r2_0
  by_cases hb:200<z
  ·have d1:decide ((200:Int)<(z:Int))=true:=decide_eq_true (by omega)
   have hp:=fun W v=>hpost.out W v _ _ _ (hbig.out hb)
   replace hp:=kH hp
   go_wp2_with fail
   refine bodyPost_ret (ret_told (a:=4) (i:=5) (j:=6) Tryz.results30 rfl rfl rfl (R2.putAt (j:=0) (by simp) (.slice none 0 0))) rfl ?_
   exact hp.out _ _ OwnF.empty (hw2.setCell (p:=⟨w.heap.size,0,none⟩) (Nat.le_refl _) _)
  ·have d1:decide ((200:Int)<(z:Int))=false:=decide_eq_false (by omega)
   have hp:=fun W v=>hpost.out W v _ _ _ (hok.out hb)
   have cC2:=cC.out w2 _ T2s.out (by omega)
   replace hp:=kH hp;replace cC2:=kH cC2
   go_wp2_with (go_at_call 73;(with_reducible refine(cC2.out).mono ?_);rintro e w3 ⟨v3,rfl,T3,hb3⟩;obtain⟨a3,c3,rfl⟩:=T3.form;have R3:=R2.below hb3;have R3W:=R2W.below hb3;have r3_0:=R3.box1;have r3f:=R3W.frz 0 (by omega);have hsR3:=bLt r3_0;have hz2:=hw2.size)
   obtain⟨n3,hn3⟩ : ∃q,q=(canL (flatY X)).length:=⟨_,rfl⟩
   rw[<- hn3]at T3 ⊢
   refine bodyPost_ret (ret_told (a:=4) (i:=5) (j:=6) Tryz.results30 rfl rfl rfl (R3.putAt (j:=0) (by simp) (.slice a3 n3 c3))) rfl ?_
   have hb3s:=T3.base
   exact hp.out _ _ ((T3.mono hw2.size).kept ((Kept.refl (fun q=>q=w.heap.size) w3).set (p:=⟨w.heap.size,0,none⟩) rfl _) (fun g hg e=>by have:=hb3s g hg;omega)) ((hw2.trans (hb3.mono hw2.size)).setCell (p:=⟨w.heap.size,0,none⟩) (Nat.le_refl _) _)
theorem indexFuncTyItem_c (xs:List GTyItem) (p:GTyItem->Bool) (g:Nat) (lb:Array Value) (lo:Nat) (u:Value) (w:World) (hu:Sl GTyItem.R 3 lo w u xs)
  (hp:∀ (i:Nat) x r W,xs[i]? = some x->Below w.heap.size w W->GTyItem.R lo W r x->Calls Tryz.prog g (#[.agg r.toArray] ++ lb) W fun e w'=>e=.returned (.bool (p x))/\Below W.heap.size W w') (eg:∀args w,(callFunc g args).run Tryz.prog w=.ok (.enter g args) w) :
  Calls Tryz.prog 109 #[u,.func (.func g) #[] lb] w (IdxPost p xs w):=by
 obtain⟨ua,uc,rfl,ul,um,h0⟩:=hu
 replace hp:=kH hp
 replace h0:=kH h0
 obtain⟨m,hm⟩ : ∃m,m=xs.length:=⟨_,rfl⟩
 rw[<- hm]at ul ⊢
 replace hm:=kH hm
 go_enter Tryz.func109,Tryz.ntmps109
 go_wp2_with fail
 go_loopw [8] (fun i wr=>∃k:Nat,k<=m/\i=.int .i64 k/\Below w.heap.size w wr/\Hid (∀y∈xs.take k,p y=false)) (fun i _=>m-(intOf i).toNat)
 case atStart=>exact⟨0,by omega,rfl,Below.refl _ _,fun y hy=>by simp at hy⟩
 case round=>
  obtain⟨k,hk,rfl,hw,hF⟩:=hrel
  by_cases hlt:k<m
  ·obtain⟨b1,o1,x,r,_,rfl,P1,hx,r1⟩:=(h0.out.below GTyItem.good hw).get hm hlt
   have hc:=hp.out k x r wr P1.out hw hx
   obtain⟨rfl,hxf⟩:=id hx
   obtain⟨e_0,e_1,e_2⟩:=r1.cells3
   clear r1 hx hxf
   replace P1:=P1
   generalize hq:p x=q at hc
   replace hq:=kH hq
   cases q with
   |true=>
    go_wp2_with (go_at_fn g;refine hc.mono ?_;rintro e w1 ⟨rfl,hb⟩)
    go_returns
    exact⟨k,rfl,by
     have:xs.any p=true:=List.any_eq_true.2 ⟨x,List.mem_of_getElem? P1.out,hq.out⟩
     rw[this];simp,hw.trans (hb.mono hw.size)⟩
   |false=>
    go_wp2_with (go_at_fn g;refine hc.mono ?_;rintro e w1 ⟨rfl,hb⟩)
    go_roundw
    case rel=>exact⟨k+1,by omega,by go_num,hw.trans (hb.mono hw.size),by
     show ∀y∈xs.take (k+1),p y=false
     rw[take_snoc' P1.out]
     intro y hy
     rcases List.mem_append.1 hy with h|h
     ·exact hF.out y h
     ·simp at h;subst h;exact hq.out⟩
    case measure=>simp[intOf];omega
  ·obtain rfl:k=m:=by omega
   go_wp2_with fail
   go_returns
   exact⟨-1,rfl,by
    have hF:=hF.out
    rw[take_full hm]at hF
    have:xs.any p=false:=List.any_eq_false.2 fun y hy=>by rw[hF y hy];simp
    rw[this];simp,hw⟩
theorem containsFuncTyItem_c (xs:List GTyItem) (p:GTyItem->Bool) (g:Nat) (lb:Array Value) (lo:Nat) (u:Value) (w:World) (hu:Sl GTyItem.R 3 lo w u xs)
  (hp:∀ (i:Nat) x r W,xs[i]? = some x->Below w.heap.size w W->GTyItem.R lo W r x->Calls Tryz.prog g (#[.agg r.toArray] ++ lb) W fun e w'=>e=.returned (.bool (p x))/\Below W.heap.size W w') (eg:∀args w,(callFunc g args).run Tryz.prog w=.ok (.enter g args) w) :
  Calls Tryz.prog 63 #[u,.func (.func g) #[] lb] w fun e w'=>e=.returned (.bool (xs.any p))/\Below w.heap.size w w':=by
 have hc:=indexFuncTyItem_c xs p g lb lo u w hu hp eg
 replace hc:Calls Tryz.prog 109 #[u,.func (.func g) #[] lb] w fun e w'=>∃n:Int,e=.returned (.int .i64 n)/\decide (0<=n)=xs.any p/\Below w.heap.size w w':=hc
 clear hp
 generalize xs.any p=q at *
 obtain⟨ua,uc,rfl⟩:=hu.form
 clear hu
 go_enter Tryz.func63,Tryz.ntmps63
 go_wp2_with (go_at_call 109;refine hc.mono ?_;rintro e w1 ⟨n,rfl,hn,hb⟩)
 go_returns
 exact⟨rfl,hb⟩
abbrev nmRef:ByteArray:=⟨#[114,101,102]⟩
abbrev nmArr:ByteArray:=⟨#[45,62]⟩
def givenN (s:ByteArray):Int:=if s=nmInt\/s=nmBool\/s=nmString\/s=nmUnit then 0 else if s=nmList\/s=nmRef then 1 else if s=nmArr\/s=nmStar then 2 else -1
theorem l06Given_c (s:ByteArray) (w:World):Calls Tryz.prog 46 #[.string s] w fun e w'=>e=.returned (.int .i64 (givenN s))/\Below w.heap.size w w':=by
 have c1:=str_lit s [105,110,116]
 have c2:=str_lit s [98,111,111,108]
 have c3:=str_lit s [115,116,114,105,110,103]
 have c4:=str_lit s [117,110,105,116]
 have c5:=str_lit s [108,105,115,116]
 have c6:=str_lit s [114,101,102]
 have c7:=str_lit s [45,62]
 have c8:=str_lit s [42]
 obtain⟨g,hg⟩ : ∃g,g=givenN s:=⟨_,rfl⟩
 rw[<- hg]
 unfold givenN at hg
 by_cases h1:s=nmInt
 ·rw[decide_eq_true (show s=(⟨[105,110,116].toArray⟩ : ByteArray) from h1)]at c1
  rw[if_pos (.inl h1)]at hg
  subst hg
  replace h1:=kH h1;clear c2 c3 c4 c5 c6 c7 c8
  go_enter Tryz.func46,Tryz.ntmps46
  go_wp2_with fail
  go_returns
  exact⟨rfl,Below.refl _ _⟩
 rw[decide_eq_false (show ¬ s=(⟨[105,110,116].toArray⟩ : ByteArray) from h1)]at c1
 by_cases h2:s=nmBool
 ·rw[decide_eq_true (show s=(⟨[98,111,111,108].toArray⟩ : ByteArray) from h2)]at c2
  rw[if_pos (.inr (.inl h2))]at hg
  subst hg
  replace h1:=kH h1;replace h2:=kH h2;clear c3 c4 c5 c6 c7 c8
  go_enter Tryz.func46,Tryz.ntmps46
  go_wp2_with fail
  go_returns
  exact⟨rfl,Below.refl _ _⟩
 rw[decide_eq_false (show ¬ s=(⟨[98,111,111,108].toArray⟩ : ByteArray) from h2)]at c2
 by_cases h3:s=nmString
 ·rw[decide_eq_true (show s=(⟨[115,116,114,105,110,103].toArray⟩ : ByteArray) from h3)]at c3
  rw[if_pos (.inr (.inr (.inl h3)))]at hg
  subst hg
  replace h1:=kH h1;replace h2:=kH h2;replace h3:=kH h3;clear c4 c5 c6 c7 c8
  go_enter Tryz.func46,Tryz.ntmps46
  go_wp2_with fail
  go_returns
  exact⟨rfl,Below.refl _ _⟩
 rw[decide_eq_false (show ¬ s=(⟨[115,116,114,105,110,103].toArray⟩ : ByteArray) from h3)]at c3
 by_cases h4:s=nmUnit
 ·rw[decide_eq_true (show s=(⟨[117,110,105,116].toArray⟩ : ByteArray) from h4)]at c4
  rw[if_pos (.inr (.inr (.inr h4)))]at hg
  subst hg
  replace h1:=kH h1;replace h2:=kH h2;replace h3:=kH h3;replace h4:=kH h4;clear c5 c6 c7 c8
  go_enter Tryz.func46,Tryz.ntmps46
  go_wp2_with fail
  go_returns
  exact⟨rfl,Below.refl _ _⟩
 rw[decide_eq_false (show ¬ s=(⟨[117,110,105,116].toArray⟩ : ByteArray) from h4)]at c4
 rw[if_neg (fun h=>by rcases h with h|h|h|h;exact h1 h;exact h2 h;exact h3 h;exact h4 h)]at hg
 replace h1:=kH h1;replace h2:=kH h2;replace h3:=kH h3;replace h4:=kH h4
 by_cases h5:s=nmList
 ·rw[decide_eq_true (show s=(⟨[108,105,115,116].toArray⟩ : ByteArray) from h5)]at c5
  rw[if_pos (.inl h5)]at hg
  subst hg
  replace h5:=kH h5;clear c6 c7 c8
  go_enter Tryz.func46,Tryz.ntmps46
  go_wp2_with fail
  go_returns
  exact⟨rfl,Below.refl _ _⟩
 rw[decide_eq_false (show ¬ s=(⟨[108,105,115,116].toArray⟩ : ByteArray) from h5)]at c5
 by_cases h6:s=nmRef
 ·rw[decide_eq_true (show s=(⟨[114,101,102].toArray⟩ : ByteArray) from h6)]at c6
  rw[if_pos (.inr h6)]at hg
  subst hg
  replace h5:=kH h5;replace h6:=kH h6;clear c7 c8
  go_enter Tryz.func46,Tryz.ntmps46
  go_wp2_with fail
  go_returns
  exact⟨rfl,Below.refl _ _⟩
 rw[decide_eq_false (show ¬ s=(⟨[114,101,102].toArray⟩ : ByteArray) from h6)]at c6
 rw[if_neg (fun h=>by rcases h with h|h;exact h5 h;exact h6 h)]at hg
 replace h5:=kH h5;replace h6:=kH h6
 by_cases h7:s=nmArr
 ·rw[decide_eq_true (show s=(⟨[45,62].toArray⟩ : ByteArray) from h7)]at c7
  rw[if_pos (.inl h7)]at hg
  subst hg
  replace h7:=kH h7;clear c8
  go_enter Tryz.func46,Tryz.ntmps46
  go_wp2_with fail
  go_returns
  exact⟨rfl,Below.refl _ _⟩
 rw[decide_eq_false (show ¬ s=(⟨[45,62].toArray⟩ : ByteArray) from h7)]at c7
 by_cases h8:s=nmStar
 ·rw[decide_eq_true (show s=(⟨[42].toArray⟩ : ByteArray) from h8)]at c8
  rw[if_pos (.inr h8)]at hg
  subst hg
  replace h7:=kH h7;replace h8:=kH h8
  go_enter Tryz.func46,Tryz.ntmps46
  go_wp2_with fail
  go_returns
  exact⟨rfl,Below.refl _ _⟩
 rw[decide_eq_false (show ¬ s=(⟨[42].toArray⟩ : ByteArray) from h8)]at c8
 rw[if_neg (fun h=>by rcases h with h|h;exact h7 h;exact h8 h)]at hg
 subst hg
 replace h7:=kH h7;replace h8:=kH h8
 go_enter Tryz.func46,Tryz.ntmps46
 go_wp2_with fail
 go_returns
 exact⟨rfl,Below.refl _ _⟩
def knownP (T:List GType) (name:ByteArray) (ar:Int):Bool:=T.any (fun t=>decide (t.name=name/\t.params=ar))||decide (givenN name=ar)
theorem l06Known_c (T:List GType) (name:ByteArray) (ar:Int) (tv nv:Value) (hnv:∃a n c,nv=.slice a n c) (w:World) (hT:Sl GType.R 3 0 w tv T) (hTl:T.length<=1000000) :
  Calls Tryz.prog 48 #[.agg #[tv,nv],.string name,.int .i64 ar] w fun e w'=>e=.returned (.bool (knownP T name ar))/\Below w.heap.size w w':=by
 obtain⟨na,nn,nc,rfl⟩:=hnv
 obtain⟨ta,tc,rfl,tl,tm,t0⟩:=hT
 obtain⟨tn,hn⟩ : ∃n,n=T.length:=⟨_,rfl⟩
 rw[<- hn]at tl hTl ⊢
 have tK:∀W,Below w.heap.size w W->SlAt GType.R 3 0 W ta T:=fun W hW=>t0.below GType.good hW
 obtain⟨kp,hkp⟩ : ∃q,q=knownP T name ar:=⟨_,rfl⟩
 rw[<- hkp]
 have hyes:∀t∈T,t.name=name->t.params=ar->kp=true:=fun t ht h1 h2=>by
  rw[hkp];unfold knownP;rw[Bool.or_eq_true];exact .inl (List.any_eq_true.2 ⟨t,ht,decide_eq_true ⟨h1,h2⟩⟩)
 have hno:(∀t∈T,¬ (t.name=name/\t.params=ar))->kp=(givenN name == ar):=fun h=>by
  rw[hkp];unfold knownP
  have:T.any (fun t=>decide (t.name=name/\t.params=ar))=false:=List.any_eq_false.2 fun t ht=>by simpa using h t ht
  rw[this,Bool.false_or,Bool.eq_iff_iff,decide_eq_true_iff,beq_iff_eq]
 have cG:=fun W=>l06Given_c name W
 clear hkp t0
 replace tK:=kH tK;replace hn:=kH hn;replace hyes:=kH hyes;replace hno:=kH hno;replace cG:=kH cG
 go_enter Tryz.func48,Tryz.ntmps48
 go_upto_region 1 with fail
 have B:RowAt (w.alloc (.cells #[.slice ta tn tc,.slice na nn nc] 39)) (w.heap.size) 0 [.slice ta tn tc,.slice na nn nc]:=RowAt.box w #[.slice ta tn tc,.slice na nn nc] 39
 have hw:Below w.heap.size w (w.alloc (.cells #[.slice ta tn tc,.slice na nn nc] 39)):=by go_grown
 generalize (w.alloc (.cells #[.slice ta tn tc,.slice na nn nc] 39))=w0 at *
 obtain⟨b_0,b_1⟩:=B.box2;have hsB:=bLt b_0
 go_wp2_with fail
 go_loopw [12] (fun ii wr=>∃i:Nat,i<=tn/\ii=.int .i64 i/\Hid (∀t∈T.take i,¬ (t.name=name/\t.params=ar))/\Below w.heap.size w wr) (fun ii _=>tn-(intOf ii).toNat)
 case atStart=>exact⟨0,by omega,rfl,kH (fun t h=>by simp at h),hw⟩
 case round=>
  clear hw b_0 b_1 hsB B
  obtain⟨i,hi,rfl,hf,hw⟩:=hrel
  have hz:=hw.size
  by_cases hlt:i<tn
  ·obtain⟨b1,o1,t,r1,_,rfl,P1,⟨u0,rfl,hwf,hcs⟩,hr1⟩:=(tK.out _ hw).get hn.out hlt
   obtain⟨ca,cc,rfl⟩:=hcs.form
   have htm:=List.mem_of_getElem? P1.out
   have hnext : ¬ (t.name=name/\t.params=ar)->∀d∈T.take (i+1),¬ (d.name=name/\d.params=ar):=fun h d hd=>by
    rw[List.take_add_one,P1.out,Option.toList_some,List.mem_append]at hd
    rcases hd with hd|hd
    ·exact hf.out d hd
    ·simp only[List.mem_singleton]at hd;subst hd;exact h
   have hy:=hyes.out t htm
   obtain⟨tnm,htnm⟩ : ∃q,q=t.name:=⟨_,rfl⟩
   obtain⟨pr,hpr⟩ : ∃q,q=t.params:=⟨_,rfl⟩
   obtain⟨cn,hcn⟩ : ∃q,q=t.cons.length:=⟨_,rfl⟩
   rw[<- htnm,<- hpr]at hnext hy
   rw[<- htnm,<- hpr,<- hcn]at hr1
   have e_0:wr.cell? ⟨b1,o1+i*3,none⟩=some (.string tnm):=by simpa using hr1 0 _ rfl
   have e_1:wr.cell? ⟨b1,o1+i*3+1,none⟩=some (.int .i64 pr):=hr1 1 _ rfl
   have e_2:wr.cell? ⟨b1,o1+i*3+2,none⟩=some (.slice ca cn cc):=hr1 2 _ rfl
   have hbb1:=World.block_lt_of_cell? _ _ e_0;dsimp only at hbb1
   have hnb:(tnm.toList == name.toList)=decide (tnm=name):=by rw[Bool.eq_iff_iff,beq_iff_eq,toList_eq,decide_eq_true_iff]
   clear hr1 hcs hwf
   replace htm:=kH htm;replace hnext:=kH hnext;replace hy:=kH hy;replace htnm:=kH htnm;replace hpr:=kH hpr;replace hcn:=kH hcn
   by_cases h1:tnm=name
   ·rw[decide_eq_true h1]at hnb
    by_cases h2:pr=ar
    ·have d2:(pr == ar)=true:=by rw[h2];simp
     have hk:=hy.out h1 h2
     subst hk
     replace h1:=kH h1;replace h2:=kH h2
     go_wp2_with fail
     go_returns
     exact⟨rfl,hw.trans (Below.mono (by go_grown) hz)⟩
    ·have d2:(pr == ar)=false:=beq_eq_false_iff_ne.2 h2
     have hnx:=hnext.out (fun h=>h2 h.2)
     replace h1:=kH h1;replace h2:=kH h2;replace hnx:=kH hnx
     go_wp2_with fail
     go_roundw
     case rel=>exact⟨i+1,by omega,by go_num,hnx,hw.trans (Below.mono (by go_grown) hz)⟩
     case measure=>simp[intOf];omega
   ·rw[decide_eq_false h1]at hnb
    have hnx:=hnext.out (fun h=>h1 h.1)
    replace h1:=kH h1;replace hnx:=kH hnx
    go_wp2_with fail
    go_roundw
    case rel=>exact⟨i+1,by omega,by go_num,hnx,hw.trans (Below.mono (by go_grown) hz)⟩
    case measure=>simp[intOf];omega
  ·obtain rfl:i=tn:=by omega
   have hk:=hno.out (by have:=hf.out;rwa [List.take_of_length_le (by have:=hn.out;omega)]at this)
   subst hk
   go_wp2_with (go_at_call 46;(with_reducible refine(cG.out _).mono ?_);rintro e w2 ⟨rfl,hb2⟩)
   go_returns
   exact⟨rfl,hw.trans (hb2.mono hz)⟩
end Go.Proofs.YtkikkfjmggobpaaGreat
