/- Parts of the proof, merged: Us15. -/
import Derived.Test.YtkikkfjmggobpaaGreatDt31
namespace Go.Proofs.YtkikkfjmggobpaaGreat
open Go.RowKit
set_option maxRecDepth 100000
set_option maxHeartbeats 16000000
set_option linter.unusedVariables false
set_option linter.unusedSimpArgs false
attribute [local go_sem] Ext.cell
def DMem (b:Nat) (r:List Value) (d:GData) (w:World):Prop:=∃w0:World,GData.R 0 w0 r d/\w0.heap.size<=b/\Below w0.heap.size w0 w
theorem DMem.fr {b:Nat} {r:List Value} {d:GData} {w w' : World} (h:DMem b r d w) (hf:IFr b w w'):DMem b r d w':=let ⟨w0,h1,h2,h3⟩:=h;⟨w0,h1,h2,h3.trans (hf.below.mono h2)⟩
def DtPost (b:Nat) (P0 P1:Value) (T:List GType) (f:Nat) (t:PxT) (s m:IS) (w:World) (e:Ending) (w' : World):Prop:=
 ∃ (v:Value) (s' : IS) (lv' : Value),e=.returned (.agg #[v])/\SB b P0 P1 w' s' lv'/\IFr b w w'/\s'.Good/\ISeq s' (dataY T f t m).2/\s.nx<=s'.nx/\s'.nx<=s.nx+2*nT t/\TV b (3*nT t) s'.cd w' v (dataY T f t m).1
theorem kids_cells {wd:World} {ka:Option Addr} {ks:List Int} (h:SlAt IntR 1 0 wd ka ks) (h0:0<ks.length):∃g o,ka=some ⟨g,o,none⟩/\∀ (j:Nat) k,ks[j]? = some k->wd.cell? ⟨g,o+j,none⟩=some (.int .i64 k):=by
 obtain⟨g,o,-,rfl,h1⟩:=h h0
 refine⟨g,o,rfl,fun j k hj=>?_⟩
 obtain⟨r,⟨rfl,-⟩,h2⟩:=h1 j k hj
 simpa using h2 0 _ rfl
theorem sl_boxG2 {lo:Nat} {w' : World} {p q:Option Addr} {n c m d:Nat} {la lb:List GTyItem} {g:Nat} (hr:RowAt w' g 0 [.slice p n c,.slice q m d]) (hg:lo<=g) (h:Sl GTyItem.R 3 lo w' (.slice p n c) la) (h2:Sl GTyItem.R 3 lo w' (.slice q m d) lb):Sl GTy.R 1 lo w' (.slice (some ⟨g,0,none⟩) 2 2) [⟨la⟩,⟨lb⟩]:=by
 refine⟨_,2,rfl,Nat.le_refl _,by decide,fun _=>⟨g,0,hg,rfl,fun i x hx=>?_⟩⟩
 match i,hx with
 |0,hx=>obtain rfl:=Option.some.inj hx;exact⟨_,⟨_,rfl,by trivial,h⟩,fun j c hc=>by match j,hc with|0,hc=>exact hr 0 c hc|j+1,hc=>simp at hc⟩
 |1,hx=>obtain rfl:=Option.some.inj hx;exact⟨_,⟨_,rfl,by trivial,h2⟩,fun j c hc=>by match j,hc with|0,hc=>exact hr 1 c hc|j+1,hc=>simp at hc⟩
 |i+2,hx=>simp at hx
def DtC (b tn tc:Nat) (ta:Option Addr) (P1:Value) (T:List GType) (d:GData) (f:Nat):Prop:=
 ∀ (i:Nat),i<d.nodes.length->d.nodes.length<=i+f->DOkS f (treeOf d.nodes f i)->∀ (s m:IS) (lv:Value) (r:List Value) (w:World),SB b (.slice ta tn tc) P1 w s lv->TyMem b (.slice ta tn tc) T w->DMem b r d w->s.Good->m.Good->ISeq s m->s.nx+2*nT (treeOf d.nodes f i)<=600000->
  Calls Tryz.prog 22 #[.pointer (some ⟨b,0,none⟩),.agg r.toArray,.int .i64 (i:Int)] w (DtPost b (.slice ta tn tc) P1 T f (treeOf d.nodes f i) s m w)
theorem l21Ty_step {b tn tc:Nat} {ta:Option Addr} {P1:Value} {T:List GType} (hT:TysOk T) (d:GData) (hU:Up d.nodes) (hL:d.nodes.length<=600) (f:Nat) (ih:DtC b tn tc ta P1 T d f) (i:Nat) (hi:i<d.nodes.length) (hf:d.nodes.length<=i+(f+1)) (hD:DOkS (f+1) (treeOf d.nodes (f+1) i))
  (s m:IS) (lv:Value) (r:List Value) (w:World) (S:SB b (.slice ta tn tc) P1 w s lv) (hM:TyMem b (.slice ta tn tc) T w) (hDm:DMem b r d w) (hg:s.Good) (hgm:m.Good) (hq:ISeq s m) (hn:s.nx+2*nT (treeOf d.nodes (f+1) i)<=600000) :
  Calls Tryz.prog 22 #[.pointer (some ⟨b,0,none⟩),.agg r.toArray,.int .i64 (i:Int)] w (DtPost b (.slice ta tn tc) P1 T (f+1) (treeOf d.nodes (f+1) i) s m w):=by
 have hlt:=S.lt
 unfold DtC at ih
 have hok:=dataY_ok hT (f+1) (treeOf d.nodes (f+1) i) m hD hgm
 have HD:=hDm
 obtain⟨wd,⟨u,rfl,-,hs⟩,hdb,hdw⟩:=hDm
 obtain⟨ua,uc,rfl,ul,um,h0⟩:=hs
 obtain⟨b1,o1,x,s1,_,rfl,P1',hx,r1⟩:=h0.get (kH rfl) hi
 have P1':=P1'.out
 rw[treeOf_some P1']at hD hn hok ⊢
 have hup:=hU i x P1'
 obtain⟨kd,nn,str,ks⟩:=x
 obtain⟨u0,rfl,hwf,hkd⟩:=hx
 obtain⟨ka,kc,rfl,kl,km_,k0⟩:=hkd
 obtain⟨-,hsh,hTk⟩:=hD
 dsimp only at *
 unfold DSh at hsh
 simp only[PxT.kind,PxT.n,PxT.s,PxT.kids,List.length_map]at hsh hTk
 have hr1:=r1.below (hdw)
 have kK:SlAt IntR 1 0 wd ka ks:=k0
 have hkm:∀k∈ks,DOkS f (treeOf d.nodes f k.toNat):=fun k hk=>hTk _ (List.mem_map.2 ⟨k,hk,rfl⟩)
 have hnt:=nT_mk kd nn str (ks.map fun k=>treeOf d.nodes f k.toNat)
 have hpost:∀W v s' lv',SB b (.slice ta tn tc) P1 W s' lv'->IFr b w W->s'.Good->ISeq s' (dataY T (f+1) (.mk kd nn str (ks.map fun k=>treeOf d.nodes f k.toNat)) m).2->s.nx<=s'.nx->s'.nx<=s.nx+2*nT (.mk kd nn str (ks.map fun k=>treeOf d.nodes f k.toNat))->TV b (3*nT (.mk kd nn str (ks.map fun k=>treeOf d.nodes f k.toNat))) s'.cd W v (dataY T (f+1) (.mk kd nn str (ks.map fun k=>treeOf d.nodes f k.toNat)) m).1->DtPost b (.slice ta tn tc) P1 T (f+1) (.mk kd nn str (ks.map fun k=>treeOf d.nodes f k.toNat)) s m w (.returned (.agg #[v])) W:=fun W v s' lv' h1 h2 h3 h4 h5 h6 h7=>⟨v,s',lv',rfl,h1,h2,h3,h4,h5,h6,h7⟩
 generalize DtPost b (.slice ta tn tc) P1 T (f+1) (.mk kd nn str (ks.map fun k=>treeOf d.nodes f k.toNat)) s m w=Q at *
 obtain⟨km,hkm'⟩ : ∃q,q=ks.length:=⟨_,rfl⟩
 rw[<- hkm']at hr1 kl
 obtain⟨e_0,e_1,e_2,e_3⟩:=hr1.cells4
 have hbb:=World.block_lt_of_cell? _ _ e_0;dsimp only at hbb
 have hs64:StrOk str:=hwf.2.2
 obtain⟨n,hn'⟩ : ∃q,q=d.nodes.length:=⟨_,rfl⟩
 rw[<- hn']at ul hL hi ⊢
 replace hkm':=kH hkm';replace kK:=kH kK;replace hup:=kH hup;replace ih:=kH ih;replace hsh:=kH hsh;replace hkm:=kH hkm;replace HD:=kH HD;replace hnt:=kH hnt;replace hpost:=kH hpost;replace hok:=kH hok;replace hn':=kH hn';replace hdw:=kH hdw;replace hM:=kH hM
 clear r1 P1' h0 hU hTk k0 hr1
 show Calls Tryz.prog 22 #[.pointer (some ⟨b,0,none⟩),.agg #[.slice (some ⟨b1,o1,none⟩) n uc],.int .i64 i] w _
 go_enter Tryz.func22,Tryz.ntmps22
 go_upto_region 1 with fail
 have hRO:One ((w.alloc (.cells #[.slice (some ⟨b1,o1,none⟩) n uc] 43)).alloc (.cells #[.slice none 0 0] 33)) (w.heap.size+1):=by have h:=One.box (w.alloc (.cells #[.slice (some ⟨b1,o1,none⟩) n uc] 43)) (.slice none 0 0) 33;simp only[World.size_alloc]at h;exact h
 have D:RowAt (w.alloc (.cells #[.slice (some ⟨b1,o1,none⟩) n uc] 43)) (w.heap.size) 0 [.slice (some ⟨b1,o1,none⟩) n uc]:=RowAt.box w #[.slice (some ⟨b1,o1,none⟩) n uc] 43
 have D:=D.below (show Below (w.alloc (.cells #[.slice (some ⟨b1,o1,none⟩) n uc] 43)).heap.size (w.alloc (.cells #[.slice (some ⟨b1,o1,none⟩) n uc] 43)) ((w.alloc (.cells #[.slice (some ⟨b1,o1,none⟩) n uc] 43)).alloc (.cells #[.slice none 0 0] 33)) by go_grown)
 have R:RowAt ((w.alloc (.cells #[.slice (some ⟨b1,o1,none⟩) n uc] 43)).alloc (.cells #[.slice none 0 0] 33)) (w.heap.size+1) 0 [.slice none 0 0]:=by have h:=RowAt.box (w.alloc (.cells #[.slice (some ⟨b1,o1,none⟩) n uc] 43)) #[.slice none 0 0] 33;simp only[World.size_alloc]at h;exact h
 have RW:Wr ((w.alloc (.cells #[.slice (some ⟨b1,o1,none⟩) n uc] 43)).alloc (.cells #[.slice none 0 0] 33)) (w.heap.size+1) 0 1:=by have h:=Wr.box (w.alloc (.cells #[.slice (some ⟨b1,o1,none⟩) n uc] 43)) #[.slice none 0 0] 33;simp only[World.size_alloc]at h;exact h
 have hw:Below w.heap.size w ((w.alloc (.cells #[.slice (some ⟨b1,o1,none⟩) n uc] 43)).alloc (.cells #[.slice none 0 0] 33)):=by go_grown
 generalize ((w.alloc (.cells #[.slice (some ⟨b1,o1,none⟩) n uc] 43)).alloc (.cells #[.slice none 0 0] 33))=w0 at *
 obtain⟨f_0,f_1,f_2,f_3⟩ : w0.cell? ⟨b1,o1+i*4,none⟩=some (.int .i64 kd)/\w0.cell? ⟨b1,o1+i*4+1,none⟩=some (.int .i64 nn)/\w0.cell? ⟨b1,o1+i*4+2,none⟩=some (.string str)/\w0.cell? ⟨b1,o1+i*4+3,none⟩=some (.slice ka km kc):=⟨cell_below hw e_0,cell_below hw e_1,cell_below hw e_2,cell_below hw e_3⟩
 have hbb0:=World.block_lt_of_cell? _ _ f_0;dsimp only at hbb0
 have RO:One w0 (w.heap.size+1):=hRO
 have d_0:=D.box1;have hsD:=bLt d_0
 go_upto_region 2 with fail
 obtain⟨w1,hW1⟩ : ∃W,W=w0.alloc (.cells #[.int .i64 kd,.int .i64 nn,.string str,.slice ka km kc] 109):=⟨_,rfl⟩
 rw[<- hW1]
 have hb1:Below w0.heap.size w0 w1:=by rw[hW1];go_grown
 have N1:RowAt w1 w0.heap.size 0 [.int .i64 kd,.int .i64 nn,.string str,.slice ka km kc]:=by rw[hW1];exact RowAt.box w0 #[_,_,_,_] _
 have hsR0:=World.block_lt_of_cell? _ _ (R 0 _ rfl)
 dsimp only at hsR0
 have D1:=D.below hb1
 have R1:=R.below hb1
 have R1W:=RW.below hb1
 have RO1:=RO.below hb1 hsR0
 have hz0:=hw.size
 have hw1:=hw.trans (hb1.mono hz0)
 have S1:=S.below hw1
 have F1:=IFr.of hw1 (Nat.le_of_lt hlt)
 have hz1:=hb1.size
 obtain⟨nb,hnb⟩ : ∃q,q=w0.heap.size:=⟨_,rfl⟩
 rw[<- hnb]at N1 hsR0 hz1 hz0 ⊢
 replace hnb:=kH hnb;replace RO1:=kH RO1;replace F1:=kH F1
 clear hW1 hb1 f_0 f_1 f_2 f_3 hbb0 e_0 e_1 e_2 e_3 hbb d_0 hsD D R RW RO hRO hw
 have d1_0:=D1.box1;have hsD1:=bLt d1_0;obtain⟨n1_0,n1_1,n1_2,n1_3⟩:=N1.box4;have hsN1:=bLt n1_0;have r1f_0:=R1W.frz 0 (by omega);have r1_0:=R1.box1;have hsR1:=bLt r1_0
 obtain⟨⟨s_0,s_1,s_2,s_3,s_4,s_5⟩,-⟩:=S1.cells
 have hlt1:=S1.lt
 by_cases h0:s.cd=0
 ·have hm0:m.cd=0:=by rw[<- hq.cd];exact h0
  obtain rfl:=hq.eq hm0
  rw[h0]at s_4
  have hp:=hpost.out
  have hn1:1<=nT (.mk kd nn str (ks.map fun k=>treeOf d.nodes f k.toNat)):=by rw[hnt.out];omega
  clear hpost
  have cT:∀k∈ks,∀ (W:World) (s' m' : IS) (lv' : Value),SB b (.slice ta tn tc) P1 W s' lv'->IFr b w W->s'.Good->m'.Good->ISeq s' m'->s'.nx+2*nT (treeOf d.nodes f k.toNat)<=600000->Calls Tryz.prog 22 #[.pointer (some ⟨b,0,none⟩),.agg #[.slice (some ⟨b1,o1,none⟩) n uc],.int .i64 k] W (DtPost b (.slice ta tn tc) P1 T f (treeOf d.nodes f k.toNat) s' m' W):=fun k hk W s' m' lv' h1 h2 h3 h4 h5 h6=>by
   have h7:=hup.out k hk
   have h8:=ih.out k.toNat (by omega) (by have:=hn'.out;omega) (hkm.out k hk) s' m' lv' _ W h1 (hM.out.fr h2) (HD.out.fr h2) h3 h4 h5 h6
   rw[show((k.toNat:Nat):Int)=k by omega,<- hn'.out]at h8
   exact h8
  have hwd1:Below wd.heap.size wd w1:=hdw.out.trans (F1.out.below.mono hdb)
  replace cT:=kH cT;replace hwd1:=kH hwd1
  rcases hsh.out with⟨rfl,-,hks⟩|⟨rfl,-,hks,-⟩|⟨rfl,-,-,hks⟩|⟨rfl,-,-,hks⟩|⟨rfl,-,hks⟩
  ·have hdy:dataY T (f+1) (.mk 2 nn str (ks.map fun k=>treeOf d.nodes f k.toNat)) s=(.c0 nmString,s):=by unfold dataY;rw[if_neg (fun h=>h h0),if_neg (by decide),if_pos rfl]
   have cN:=l06Name_c nmString (strok (by decide)) w1
   (unfold TyPost at cN;rw[hdy]at hp;clear hdy hks hok hsh;replace hp:=kH hp;replace cN:=kH cN;go_wp2_with (go_at_call 52;(with_reducible refine(cN.out).mono ?_);rintro e w2 ⟨v2,rfl,T2,hb2⟩;obtain⟨a2,c2,rfl⟩:=T2.form;(rw[flatY_len]at T2 ⊢;simp only[szY]at T2 ⊢);have R2:=R1.below hb2;have R2W:=R1W.below hb2;have r2_0:=R2.box1;have rf2:=R2W.frz 0 (by omega);have hsR2:=bLt r2_0);obtain⟨F3,S3,R3⟩:=ty_fin (Nat.le_succ _) (by omega) (F1.out.grow hb2 (Nat.le_of_lt hlt1)) (S1.below hb2) (RO1.out.below hb2 (by omega)) R2 (.slice a2 1 c2);refine bodyPost_ret (ret_ty (a:=6) Tryz.results22 rfl R3) rfl ?_;exact hp.out _ _ s lv S3 F3 hg (ISeq.refl _) (Nat.le_refl _) (Nat.le_add_right _ _) (tv_one (TV.of ((T2.sl flatTyItem).mono GTyItem.good hlt1) (by simp only[szY];omega)) (RO1.out.below hb2 (by omega)) _))
  ·have hdy:dataY T (f+1) (.mk 3 nn str (ks.map fun k=>treeOf d.nodes f k.toNat)) s=(.c0 nmInt,s):=by unfold dataY;rw[if_neg (fun h=>h h0),if_pos rfl]
   have cN:=l06Name_c nmInt (strok (by decide)) w1
   (unfold TyPost at cN;rw[hdy]at hp;clear hdy hks hok hsh;replace hp:=kH hp;replace cN:=kH cN;go_wp2_with (go_at_call 52;(with_reducible refine(cN.out).mono ?_);rintro e w2 ⟨v2,rfl,T2,hb2⟩;obtain⟨a2,c2,rfl⟩:=T2.form;(rw[flatY_len]at T2 ⊢;simp only[szY]at T2 ⊢);have R2:=R1.below hb2;have R2W:=R1W.below hb2;have r2_0:=R2.box1;have rf2:=R2W.frz 0 (by omega);have hsR2:=bLt r2_0);obtain⟨F3,S3,R3⟩:=ty_fin (Nat.le_succ _) (by omega) (F1.out.grow hb2 (Nat.le_of_lt hlt1)) (S1.below hb2) (RO1.out.below hb2 (by omega)) R2 (.slice a2 1 c2);refine bodyPost_ret (ret_ty (a:=6) Tryz.results22 rfl R3) rfl ?_;exact hp.out _ _ s lv S3 F3 hg (ISeq.refl _) (Nat.le_refl _) (Nat.le_add_right _ _) (tv_one (TV.of ((T2.sl flatTyItem).mono GTyItem.good hlt1) (by simp only[szY];omega)) (RO1.out.below hb2 (by omega)) _))
  ·have hdy:dataY T (f+1) (.mk 6 nn str (ks.map fun k=>treeOf d.nodes f k.toNat)) s=(.c0 nmUnit,s):=by unfold dataY;rw[if_neg (fun h=>h h0),if_neg (by decide),if_neg (by decide),if_pos rfl]
   have cN:=l06Name_c nmUnit (strok (by decide)) w1
   (unfold TyPost at cN;rw[hdy]at hp;clear hdy hks hok hsh;replace hp:=kH hp;replace cN:=kH cN;go_wp2_with (go_at_call 52;(with_reducible refine(cN.out).mono ?_);rintro e w2 ⟨v2,rfl,T2,hb2⟩;obtain⟨a2,c2,rfl⟩:=T2.form;(rw[flatY_len]at T2 ⊢;simp only[szY]at T2 ⊢);have R2:=R1.below hb2;have R2W:=R1W.below hb2;have r2_0:=R2.box1;have rf2:=R2W.frz 0 (by omega);have hsR2:=bLt r2_0);obtain⟨F3,S3,R3⟩:=ty_fin (Nat.le_succ _) (by omega) (F1.out.grow hb2 (Nat.le_of_lt hlt1)) (S1.below hb2) (RO1.out.below hb2 (by omega)) R2 (.slice a2 1 c2);refine bodyPost_ret (ret_ty (a:=6) Tryz.results22 rfl R3) rfl ?_;exact hp.out _ _ s lv S3 F3 hg (ISeq.refl _) (Nat.le_refl _) (Nat.le_add_right _ _) (tv_one (TV.of ((T2.sl flatTyItem).mono GTyItem.good hlt1) (by simp only[szY];omega)) (RO1.out.below hb2 (by omega)) _))
  ·obtain⟨k0,k1,rfl⟩ : ∃k0 k1,ks=[k0,k1]:=by
    match ks,hks with
    |[k0,k1],_=>exact⟨k0,k1,rfl⟩
   obtain⟨g,o,rfl,hcell⟩:=kids_cells kK.out (by simp)
   have q_0:w1.cell? ⟨g,o,none⟩=some (.int .i64 k0):=cell_below hwd1.out (by simpa using hcell 0 k0 rfl)
   have q_1:w1.cell? ⟨g,o+1,none⟩=some (.int .i64 k1):=cell_below hwd1.out (hcell 1 k1 rfl)
   have hgl:=World.block_lt_of_cell? _ _ q_0;dsimp only at hgl
   have hgb:g≠b:=by have:=World.block_lt_of_cell? _ _ (hcell 0 k0 rfl);dsimp only at this;omega
   replace hgb:=kH hgb
   obtain rfl:km=2:=hkm'.out
   have hdy:dataY T (f+1) (.mk 5 nn str ([k0,k1].map fun k=>treeOf d.nodes f k.toNat)) s=(.c2 nmStar (dataY T f (treeOf d.nodes f k0.toNat) s).1 (dataY T f (treeOf d.nodes f k1.toNat) (dataY T f (treeOf d.nodes f k0.toNat) s).2).1,(dataY T f (treeOf d.nodes f k1.toNat) (dataY T f (treeOf d.nodes f k0.toNat) s).2).2):=by
    conv=>lhs;unfold dataY
    rw[if_neg (fun h=>h h0),if_neg (by decide),if_neg (by decide),if_neg (by decide),if_pos rfl]
    rfl
   rw[hdy]at hp
   have hnt2:nT (.mk 5 nn str ([k0,k1].map fun k=>treeOf d.nodes f k.toNat))=1+(nT (treeOf d.nodes f k0.toNat)+nT (treeOf d.nodes f k1.toNat)):=by rw[hnt.out];simp[nTs]
   rw[hnt2]at hp hn
   have i1:=dataY_ok hT f (treeOf d.nodes f k0.toNat) s (hkm.out k0 (by simp)) hg
   have ca:=fun W (hW:Below w1.heap.size w1 W)=>cT.out k0 (by simp) W s s lv (S1.below hW) (F1.out.grow hW (Nat.le_of_lt hlt1)) hg hg (ISeq.refl _) (by omega)
   have cb:=fun W s' lv' (hS:SB b (.slice ta tn tc) P1 W s' lv') (hF:IFr b w W) (h1:s'.Good) (h2:ISeq s' (dataY T f (treeOf d.nodes f k0.toNat) s).2) (h3:s'.nx<=s.nx+2*nT (treeOf d.nodes f k0.toNat))=>cT.out k1 (by simp) W s' (dataY T f (treeOf d.nodes f k0.toNat) s).2 lv' hS hF h1 i1.good h2 (by omega)
   have i2:=dataY_ok hT f (treeOf d.nodes f k1.toNat) (dataY T f (treeOf d.nodes f k0.toNat) s).2 (hkm.out k1 (by simp)) i1.good
   have h01:=i2.cd
   unfold DtPost at ca cb
   generalize treeOf d.nodes f k0.toNat=t0 at *
   generalize treeOf d.nodes f k1.toNat=t1 at *
   generalize hY0:dataY T f t0 s=Y0 at *
   generalize hY1:dataY T f t1 Y0.2=Y1 at *
   replace h01:=kH h01
   clear hY0 hY1 hks hdy hnt2 i1 i2 hok hsh hnt hn1 hcell
   replace hp:=kH hp;replace ca:=kH ca;replace cb:=kH cb
   go_upto_region 12 with fail
   go_cut [8] (fun pv wx=>∃ (xE:Nat) (aE:Option Addr) (nE cE:Nat) (sE:IS) (lE:Value),pv=.pointer (some ⟨xE,0,none⟩)/\RowAt wx xE 0 [.slice aE nE cE]/\nb<xE/\SB b (.slice ta tn tc) P1 wx sE lE/\Hid (IFr b w1 wx)/\sE.Good/\Hid (ISeq sE Y0.2)/\s.nx<=sE.nx/\sE.nx<=s.nx+2*nT t0/\Hid (TV b (3*nT t0) sE.cd wx (.slice aE nE cE) Y0.1))
   case first=>
    obtain⟨wz,hwz⟩ : ∃q,q=w1:=⟨_,rfl⟩
    have DZ:=D1
    have NZ:=N1
    have qz:=q_0
    have hcz:=ca.out
    have hlz:b<w1.heap.size:=by omega
    have hgz:g<w1.heap.size:=by omega
    have hsz:nb<w1.heap.size:=by omega
    rw[<- hwz]at DZ NZ qz hcz hlz hgz hsz ⊢
    have dz_0:=DZ.box1
    have nz_3:=NZ.box4.2.2.2
    have hX1:w.heap.size≠wz.heap.size:=by omega
    have hX2:nb≠wz.heap.size:=by omega
    have hX3:g≠wz.heap.size:=by omega
    have hxb:wz.heap.size≠b:=by omega
    replace hwz:=kH hwz;replace hX1:=kH hX1;replace hX2:=kH hX2;replace hX3:=kH hX3;replace hcz:=kH hcz
    clear D1 N1 q_0
    go_region_held3 (fun w'=>w'.cell? ⟨w.heap.size,0,none⟩=some (.slice (some ⟨b1,o1,none⟩) n uc)/\w'.cell? ⟨nb,3,none⟩=some (.slice (some ⟨g,o,none⟩) 2 kc)/\w'.cell? ⟨g,o,none⟩=some (.int .i64 k0))
     (first|exact⟨dz_0,nz_3,qz⟩|exact⟨x_0,x_1,x_2⟩|exact⟨(DX.set_other hX1.out _).box1,(NX.set_other hX2.out _).box4.2.2.2,(QX.set_other hX3.out _).cells1⟩|go_keep)
     (first|(go_at_call 22;first
      |((with_reducible refine(hcz.out _ ((Below.refl _ wz).drew)).mono ?_);rintro e wF ⟨vF,sF,lF,rfl,SF,FF',gF,qF,loF,hiF,TF⟩;have FF:IFr b wz wF:=(IFr.of ((Below.refl _ wz).drew) (Nat.le_of_lt hlz)).trans FF';obtain⟨aF,nF,cF,rfl⟩:=TF.form;have DX:=FF.row DZ (by omega);have NX:=FF.row NZ (by omega);have QX:RowAt wF g (o) [.int .i64 k0]:=FF.row (fun j c hc=>by match j,hc with|0,hc=>obtain rfl:=Option.some.inj hc;exact qz|j+1,hc=>simp at hc) hgb.out;have x_0:=DX.box1;have x_1:=NX.box4.2.2.2;have x_2:=QX.cells1;have hzF:=FF.size;replace FF':=kH FF';replace FF:=kH FF;replace qF:=kH qF;replace TF:=kH TF)
      |((with_reducible refine(hcz.out _ (((Below.refl _ wz).alloc (Nat.le_refl _) _).drew)).mono ?_);rintro e wF ⟨vF,sF,lF,rfl,SF,FF',gF,qF,loF,hiF,TF⟩;have FF:IFr b wz wF:=(IFr.of (((Below.refl _ wz).alloc (Nat.le_refl _) _).drew) (Nat.le_of_lt hlz)).trans FF';have BX:=FF'.row ((RowAt.box wz #[.slice none 0 0] 33).below ((Below.refl _ _).drew)) hxb;have BXW:=((Wr.box wz #[.slice none 0 0] 33).below ((Below.refl _ _).drew)).kept FF'.kept hxb;have BXO:=((One.box wz (.slice none 0 0) 33).below ((Below.refl _ _).drew) (by simp)).fr FF' hxb (by simp);have bx_0:=BX.box1;have bxf:=BXW.frz0 (by decide);obtain⟨aF,nF,cF,rfl⟩:=TF.form;have DX:=FF.row DZ (by omega);have NX:=FF.row NZ (by omega);have QX:RowAt wF g (o) [.int .i64 k0]:=FF.row (fun j c hc=>by match j,hc with|0,hc=>obtain rfl:=Option.some.inj hc;exact qz|j+1,hc=>simp at hc) hgb.out;have x_0:=DX.box1;have x_1:=NX.box4.2.2.2;have x_2:=QX.cells1;have hzF:=FF.size;replace FF':=kH FF';replace FF:=kH FF;replace qF:=kH qF;replace TF:=kH TF)))
    all_goals (go_wp2_with fail;go_meet)
    all_goals (have hwz':=hwz.out;subst hwz')
    all_goals first
     |exact⟨wF.heap.size,aF,nF,cF,sF,lF,rfl,RowAt.box wF #[_] _,by omega,SF.below (by go_grown),kH (FF.out.grow (by go_grown) (by omega)),gF,qF,loF,hiF,kH (TF.out.below (by go_grown))⟩
     |exact⟨_,aF,nF,cF,sF,lF,rfl,BX.putAt (j:=0) (by simp) _,by omega,SF.one BXO hxb _,kH (FF.out.setNew (Nat.le_refl _) (by omega) _),gF,qF,loF,hiF,kH (tv_one TF.out BXO _)⟩
   obtain⟨xb,a2,n2,c2,s2,lv2,rfl,X2,hxb,S2,F12,g2,q2,l2,u2,T2⟩:=hcut
   obtain⟨w3,rfl⟩ : ∃q,q=wc:=⟨_,rfl⟩
   have hz13:=F12.out.size
   have D3:=F12.out.row D1 (by omega)
   have N3:=F12.out.row N1 (by omega)
   have q_3:w3.cell? ⟨g,o+1,none⟩=some (.int .i64 k1):=(World.cell?_of_block (w:=w1) (a:=⟨g,o+1,none⟩) (F12.out.kept g hgl hgb.out)).trans q_1
   have R3:=F12.out.row R1 (by omega)
   have R3W:=R1W.kept F12.out.kept (by omega)
   have RO3:=RO1.out.fr F12.out (by omega) (by omega)
   have F3:=F1.out.trans F12.out
   have hlt3:=S2.lt
   have cb':=fun W (hW:Below w3.heap.size w3 W)=>cb.out W s2 lv2 (S2.below hW) (F3.grow hW (Nat.le_of_lt hlt3)) g2 q2.out u2
   have hsX2:=World.block_lt_of_cell? _ _ (X2 0 _ rfl)
   dsimp only at hsX2
   replace cb':=kH cb';replace RO3:=kH RO3;replace F3:=kH F3
   clear ca cb D1 N1 R1 R1W RO1 F1 q_0 q_1 d1_0 hsD1 n1_0 n1_1 n1_2 n1_3 r1_0 r1f_0 s_0 s_1 s_2 s_3 s_4 s_5 S1
   go_upto_region 13 with fail
   go_cut [9] (fun pv wx=>∃ (xE:Nat) (aE:Option Addr) (nE cE:Nat) (sE:IS) (lE:Value),pv=.pointer (some ⟨xE,0,none⟩)/\RowAt wx xE 0 [.slice aE nE cE]/\nb<xE/\SB b (.slice ta tn tc) P1 wx sE lE/\Hid (IFr b w3 wx)/\sE.Good/\Hid (ISeq sE Y1.2)/\s2.nx<=sE.nx/\sE.nx<=s2.nx+2*nT t1/\Hid (TV b (3*nT t1) sE.cd wx (.slice aE nE cE) Y1.1))
   case first=>
    obtain⟨wz,hwz⟩ : ∃q,q=w3:=⟨_,rfl⟩
    have DZ:=D3
    have NZ:=N3
    have qz:=q_3
    have hcz:=cb'.out
    have hlz:b<w3.heap.size:=by omega
    have hgz:g<w3.heap.size:=by omega
    have hsz:nb<w3.heap.size:=by omega
    rw[<- hwz]at DZ NZ qz hcz hlz hgz hsz ⊢
    have dz_0:=DZ.box1
    have nz_3:=NZ.box4.2.2.2
    have hX1:w.heap.size≠wz.heap.size:=by omega
    have hX2:nb≠wz.heap.size:=by omega
    have hX3:g≠wz.heap.size:=by omega
    have hxb:wz.heap.size≠b:=by omega
    replace hwz:=kH hwz;replace hX1:=kH hX1;replace hX2:=kH hX2;replace hX3:=kH hX3;replace hcz:=kH hcz
    clear D3 N3 q_3
    go_region_held3 (fun w'=>w'.cell? ⟨w.heap.size,0,none⟩=some (.slice (some ⟨b1,o1,none⟩) n uc)/\w'.cell? ⟨nb,3,none⟩=some (.slice (some ⟨g,o,none⟩) 2 kc)/\w'.cell? ⟨g,o+1,none⟩=some (.int .i64 k1))
     (first|exact⟨dz_0,nz_3,qz⟩|exact⟨x_0,x_1,x_2⟩|exact⟨(DX.set_other hX1.out _).box1,(NX.set_other hX2.out _).box4.2.2.2,(QX.set_other hX3.out _).cells1⟩|go_keep)
     (first|(go_at_call 22;first
      |((with_reducible refine(hcz.out _ ((Below.refl _ wz).drew)).mono ?_);rintro e wF ⟨vF,sF,lF,rfl,SF,FF',gF,qF,loF,hiF,TF⟩;have FF:IFr b wz wF:=(IFr.of ((Below.refl _ wz).drew) (Nat.le_of_lt hlz)).trans FF';obtain⟨aF,nF,cF,rfl⟩:=TF.form;have DX:=FF.row DZ (by omega);have NX:=FF.row NZ (by omega);have QX:RowAt wF g (o+1) [.int .i64 k1]:=FF.row (fun j c hc=>by match j,hc with|0,hc=>obtain rfl:=Option.some.inj hc;exact qz|j+1,hc=>simp at hc) hgb.out;have x_0:=DX.box1;have x_1:=NX.box4.2.2.2;have x_2:=QX.cells1;have hzF:=FF.size;replace FF':=kH FF';replace FF:=kH FF;replace qF:=kH qF;replace TF:=kH TF)
      |((with_reducible refine(hcz.out _ (((Below.refl _ wz).alloc (Nat.le_refl _) _).drew)).mono ?_);rintro e wF ⟨vF,sF,lF,rfl,SF,FF',gF,qF,loF,hiF,TF⟩;have FF:IFr b wz wF:=(IFr.of (((Below.refl _ wz).alloc (Nat.le_refl _) _).drew) (Nat.le_of_lt hlz)).trans FF';have BX:=FF'.row ((RowAt.box wz #[.slice none 0 0] 33).below ((Below.refl _ _).drew)) hxb;have BXW:=((Wr.box wz #[.slice none 0 0] 33).below ((Below.refl _ _).drew)).kept FF'.kept hxb;have BXO:=((One.box wz (.slice none 0 0) 33).below ((Below.refl _ _).drew) (by simp)).fr FF' hxb (by simp);have bx_0:=BX.box1;have bxf:=BXW.frz0 (by decide);obtain⟨aF,nF,cF,rfl⟩:=TF.form;have DX:=FF.row DZ (by omega);have NX:=FF.row NZ (by omega);have QX:RowAt wF g (o+1) [.int .i64 k1]:=FF.row (fun j c hc=>by match j,hc with|0,hc=>obtain rfl:=Option.some.inj hc;exact qz|j+1,hc=>simp at hc) hgb.out;have x_0:=DX.box1;have x_1:=NX.box4.2.2.2;have x_2:=QX.cells1;have hzF:=FF.size;replace FF':=kH FF';replace FF:=kH FF;replace qF:=kH qF;replace TF:=kH TF)))
    all_goals (go_wp2_with fail;go_meet)
    all_goals (have hwz':=hwz.out;subst hwz')
    all_goals first
     |exact⟨wF.heap.size,aF,nF,cF,sF,lF,rfl,RowAt.box wF #[_] _,by omega,SF.below (by go_grown),kH (FF.out.grow (by go_grown) (by omega)),gF,qF,loF,hiF,kH (TF.out.below (by go_grown))⟩
     |exact⟨_,aF,nF,cF,sF,lF,rfl,BX.putAt (j:=0) (by simp) _,by omega,SF.one BXO hxb _,kH (FF.out.setNew (Nat.le_refl _) (by omega) _),gF,qF,loF,hiF,kH (tv_one TF.out BXO _)⟩
   obtain⟨yb,a4,n4,c4,s4,lv4,rfl,Y4,hyb,S4,F34,g4,q4,l4,u4,T4⟩:=hcut
   obtain⟨w5,rfl⟩ : ∃q,q=wc:=⟨_,rfl⟩
   have hz35:=F34.out.size
   have X5:=F34.out.row X2 (by omega)
   have R5:=F34.out.row R3 (by omega)
   have R5W:=R3W.kept F34.out.kept (by omega)
   have RO5:=RO3.out.fr F34.out (by omega) (by omega)
   have T5:=T2.out.fr F34.out
   have F5:=F3.out.trans F34.out
   have hlt5:=S4.lt
   obtain⟨la,hla1,hla2,hla3⟩:=T5
   obtain⟨lb,hlb1,hlb2,hlb3⟩:=T4.out
   have hs2:s4.cd=0->s2.cd=0:=fun h=>by rw[q2.out.cd];exact h01.out (by rw[<- q4.out.cd];exact h)
   have cS:=fun W lv' (h:Sl GTy.R 1 0 W lv' [⟨la⟩,⟨lb⟩])=>l03Named_c nmStar (strok (by decide)) [⟨la⟩,⟨lb⟩] (by simp) (by simp[namedL];omega) lv' W h
   unfold TyPost at cS
   have hNm:namedL nmStar 2 [⟨la⟩,⟨lb⟩]=⟨0,nmStar,2⟩ :: (la++lb):=by simp[namedL]
   replace cS:=kH cS;replace RO5:=kH RO5;replace F5:=kH F5;replace hla1:=kH hla1;replace hla3:=kH hla3;replace hlb1:=kH hlb1;replace hlb3:=kH hlb3;replace hs2:=kH hs2;replace hNm:=kH hNm
   clear R3 R3W RO3 F3 D3 N3 q_3 X2 S2 cb'
   have x5_0:=X5.box1;have hsX5:=bLt x5_0;have y4_0:=Y4.box1;have hsY4:=bLt y4_0;have r5f_0:=R5W.frz 0 (by omega);have r5_0:=R5.box1;have hsR5:=bLt r5_0
   go_upto_region 15 with(go_at_call 53;(with_reducible refine(cS.out _ _ (sl_boxG2 (RowAt.box w5 #[.slice a2 n2 c2,.slice a4 n4 c4] 33) (Nat.zero_le _) ((hla1.out.below GTyItem.good ((Below.refl _ _).alloc (Nat.le_refl _) _)).mono GTyItem.good (Nat.zero_le _)) ((hlb1.out.below GTyItem.good ((Below.refl _ _).alloc (Nat.le_refl _) _)).mono GTyItem.good (Nat.zero_le _)))).mono ?_);rintro e w6 ⟨v6,rfl,T6,hb6⟩;obtain⟨a6,c6,rfl⟩:=T6.form;obtain⟨n6,hn6⟩ : ∃q,q=(namedL nmStar ([⟨la⟩,⟨lb⟩] : List GTy).length [⟨la⟩,⟨lb⟩]).length:=⟨_,rfl⟩;rw[<- hn6]at T6 ⊢;have hb56:Below w5.heap.size w5 w6:=((Below.refl _ _).alloc (Nat.le_refl _) _).trans (hb6.mono (by simp));have R6:=R5.below hb56;have R6W:=R5W.below hb56;have r6_0:=R6.box1;have rf6:=R6W.frz0 (by decide);have hsR6:=bLt r6_0;replace T6:=kH T6;replace hn6:=kH hn6;replace hb56:=kH hb56;replace hb6:=kH hb6)
   have hb6z:=hb56.out.size
   obtain⟨F7,S7,R7⟩:=ty_fin (b:=b) (w:=w) (Nat.le_succ _) (by omega) (F5.out.grow hb56.out (Nat.le_of_lt hlt5)) (S4.below hb56.out) (RO5.out.below hb56.out (by omega)) R6 (.slice a6 n6 c6)
   refine bodyPost_ret (ret_ty (a:=6) Tryz.results22 rfl R7) rfl ?_
   have hT6:OwnT w5.heap.size w6 (.slice a6 n6 c6) (⟨0,nmStar,2⟩ :: (la++lb)):=by
    have h:=T6.out
    rw[show([⟨la⟩,⟨lb⟩] : List GTy).length=2 from rfl,hNm.out]at h
    exact h.mono (by simp)
   refine hp.out _ _ s4 lv4 S7 F7 g4 q4.out (by omega) (by omega) (tv_one ⟨_,(hT6.sl flatTyItem).mono GTyItem.good (by omega),by rw[List.length_cons,List.length_append];omega,fun h=>?_⟩ (RO5.out.below hb56.out (by omega)) _)
   rw[hla3.out (hs2.out h),hlb3.out h]
   rfl
  ·have hm1:km<=1:=by have:=hkm'.out;omega
   have hone:(((km:Int)) == 1)=decide (km=1):=by rw[Bool.eq_iff_iff,beq_iff_eq,decide_eq_true_iff];omega
   have cK:=fun W (hS:SB b (.slice ta tn tc) P1 W s lv) (hF:IFr b w W)=>l06Look_c hS (hM.out.fr hF) hT (by omega) h0 str (km:Int) (decide (km=1)) hone 0
   unfold LookPost at cK
   have hlk:=lookY_ok hT hg str (decide (km=1)) i64_zero
   obtain⟨L,hL⟩ : ∃L,lookY T s str (decide (km=1)) 0=L:=⟨_,rfl⟩
   rw[hL]at cK hlk
   obtain⟨hk1,hk2,hk3,hk4,hk5⟩:=hlk
   replace cK:=kH cK;replace hk5:=kH hk5;replace hL:=kH hL;replace hk4:=kH hk4
   go_upto_region 16 with(go_at_call 54;(with_reducible refine(cK.out _ S1 F1.out).mono ?_);rintro e w2 ⟨v1,v2,s2,rfl,S2,F12,q2,u2,l2,⟨a4,n4,c4,rfl⟩,T2,T2'⟩;obtain⟨a2,n2,c2,rfl⟩:=T2.form)
   obtain⟨w3,hW3⟩ : ∃W,W=(w2.alloc (.cells #[.slice a2 n2 c2] 33)).alloc (.cells #[.slice a4 n4 c4] 33):=⟨_,rfl⟩
   rw[<- hW3]
   have hb23:Below w2.heap.size w2 w3:=by rw[hW3];go_grown
   have X3:RowAt w3 w2.heap.size 0 [.slice a2 n2 c2]:=by rw[hW3];exact(RowAt.box w2 #[_] _).below (by go_grown)
   have Y3:RowAt w3 (w2.heap.size+1) 0 [.slice a4 n4 c4]:=by rw[hW3];have h:=RowAt.box (w2.alloc (.cells #[.slice a2 n2 c2] 33)) #[.slice a4 n4 c4] 33;simp only[World.size_alloc]at h;exact h
   have hzz:w3.heap.size=w2.heap.size+2:=by rw[hW3];simp
   have hz12:=F12.size
   have F13:=F12.grow hb23 (by omega)
   have D3:=F13.row D1 (by omega)
   have N3:=F13.row N1 (by omega)
   have R3:=F13.row R1 (by omega)
   have R3W:=R1W.kept F13.kept (by omega)
   have RO3:=RO1.out.fr F13 (by omega) (by omega)
   have F3:=F1.out.trans F13
   have S3:=S2.below hb23
   have T3:=T2.below hb23
   have T3':=fun h1 h2=>(T2' h1 h2).below GTyItem.good hb23
   have hlt3:=S3.lt
   obtain⟨xb,hxb⟩ : ∃q,q=w2.heap.size:=⟨_,rfl⟩
   rw[<- hxb]at X3 Y3 hz12 hzz ⊢
   have hg2:s2.cd=0->s2=L.2.2:=fun h=>q2.eq (by rw[<- q2.cd];exact h)
   have hgd:s2.Good:=by
    by_cases h:s2.cd=0
    ·rw[hg2 h];exact hk1
    ·exact⟨fun h'=>absurd h' h,by rw[q2.cd];exact hk1.cd,by rw[q2.at_];exact hk1.at_⟩
   replace hzz:=kH hzz;replace hxb:=kH hxb;replace RO3:=kH RO3;replace F3:=kH F3;replace T3:=kH T3;replace T3':=kH T3';replace q2:=kH q2;replace hg2:=kH hg2;replace F13:=kH F13
   clear hW3 hb23 S2 T2 T2' F12 D1 N1 R1 R1W RO1 F1 d1_0 hsD1 n1_0 n1_1 n1_2 n1_3 r1_0 r1f_0 s_0 s_1 s_2 s_3 s_4 s_5 S1 cK
   have hx3:xb+1<w3.heap.size:=by have:=hzz.out;omega
   obtain⟨⟨s_0,s_1,s_2,s_3,s_4,s_5⟩,-⟩:=S3.cells
   have x3_0:=X3.box1;have hsX3:=bLt x3_0;have y3_0:=Y3.box1;have hsY3:=bLt y3_0;obtain⟨n3_0,n3_1,n3_2,n3_3⟩:=N3.box4;have hsN3:=bLt n3_0;have r3f_0:=R3W.frz 0 (by omega);have r3_0:=R3.box1;have hsR3:=bLt r3_0
   match ks,hks,hkm',hnt,hp,hkm,hup,cT,kK,hn,hn1 with
   |[],_,hkm',hnt,hp,hkm,hup,cT,kK,hn,hn1=>
    obtain rfl:km=0:=hkm'.out
    have hdy:dataY T (f+1) (.mk 4 nn str (([] : List Int).map fun k=>treeOf d.nodes f k.toNat)) s=(L.1,L.2.2):=by
     conv=>lhs;unfold dataY
     rw[if_neg (fun h=>h h0),if_neg (by decide),if_neg (by decide),if_neg (by decide),if_neg (by decide),<- hL.out]
     rfl
    by_cases h2:s2.cd=0
    ·rw[h2]at s_4
     replace h2:=kH h2
     (rw[hdy]at hp;replace hp:=kH hp;clear hdy hok hsh hnt;go_wp2_with fail;obtain⟨F7,S7,R7⟩:=ty_fin (b:=b) (w:=w) (Nat.le_succ _) (by omega) F3.out S3 RO3.out R3 (.slice a2 n2 c2);refine bodyPost_ret (ret_ty (a:=6) Tryz.results22 rfl R7) rfl ?_;exact hp.out _ _ s2 lv S7 F7 hgd q2.out (by omega) (by omega) (tv_one (T3.out.cd id (by omega)) RO3.out _))
    ·have d2:(s2.cd == 0)=false:=beq_eq_false_iff_ne.2 h2
     replace h2:=kH h2
     (rw[hdy]at hp;replace hp:=kH hp;clear hdy hok hsh hnt;go_wp2_with fail;obtain⟨F7,S7,R7⟩:=ty_fin (b:=b) (w:=w) (Nat.le_succ _) (by omega) F3.out S3 RO3.out R3 (.slice a2 n2 c2);refine bodyPost_ret (ret_ty (a:=6) Tryz.results22 rfl R7) rfl ?_;exact hp.out _ _ s2 lv S7 F7 hgd q2.out (by omega) (by omega) (tv_one (T3.out.cd id (by omega)) RO3.out _))
   |[k0],_,hkm',hnt,hp,hkm,hup,cT,kK,hn,hn1=>
    obtain rfl:km=1:=hkm'.out
    have hdy0:dataY T (f+1) (.mk 4 nn str ([k0].map fun k=>treeOf d.nodes f k.toNat)) s=if L.2.2.cd=0 then (L.1,(dataY T f (treeOf d.nodes f k0.toNat) L.2.2).2.demand (dataY T f (treeOf d.nodes f k0.toNat) L.2.2).1 L.2.1 0) else (L.1,L.2.2):=by
     conv=>lhs;unfold dataY
     rw[if_neg (fun h=>h h0),if_neg (by decide),if_neg (by decide),if_neg (by decide),if_neg (by decide),<- hL.out]
     rfl
    by_cases h2:s2.cd=0
    ·have e2:=hg2.out h2
     have hdy:=hdy0.trans (if_pos (by rw[<- q2.out.cd];exact h2))
     rw[<- e2]at hdy
     obtain⟨g,o,rfl,hcell⟩:=kids_cells kK.out (by simp)
     have hgl:g<wd.heap.size:=by have:=World.block_lt_of_cell? _ _ (hcell 0 k0 rfl);exact this
     have hwd3:Below wd.heap.size wd w3:=hwd1.out.trans (F13.out.below.mono hdb)
     have q_3:w3.cell? ⟨g,o,none⟩=some (.int .i64 k0):=cell_below hwd3 (by simpa using hcell 0 k0 rfl)
     have hgb:g≠b:=by omega
     have hgl3:g<w3.heap.size:=World.block_lt_of_cell? _ _ q_3
     have hnt2:nT (.mk 4 nn str ([k0].map fun k=>treeOf d.nodes f k.toNat))=1+nT (treeOf d.nodes f k0.toNat):=by rw[hnt.out];simp[nTs]
     rw[hdy,hnt2]at hp
     rw[hnt2]at hn
     have i1:=dataY_ok hT f (treeOf d.nodes f k0.toNat) s2 (hkm.out k0 (by simp)) hgd
     have ca:=fun W (hW:Below w3.heap.size w3 W)=>cT.out k0 (by simp) W s2 s2 lv (S3.below hW) (F3.out.grow hW (Nat.le_of_lt hlt3)) hgd hgd (ISeq.refl _) (by omega)
     unfold DtPost at ca
     obtain⟨k5a,k5b,k5c⟩:=hk5.out (by rw[<- q2.out.cd];exact h2)
     obtain⟨k5d,k5e⟩:=k5c rfl
     rw[<- e2]at k5d
     have iD:=i1.ty
     have iS:=i1.sz
     generalize treeOf d.nodes f k0.toNat=t0 at *
     generalize hY0:dataY T f t0 s2=Y0 at *
     rw[h2]at s_4
     clear hY0 hdy hdy0 hnt2 hok hsh hnt hn1 hcell i1 hk5
     replace hp:=kH hp;replace ca:=kH ca;replace hgb:=kH hgb;replace k5d:=kH k5d;replace iD:=kH iD;replace hwd3:=kH hwd3;replace e2:=kH e2;replace h2:=kH h2
     go_upto_region 17 with fail
     go_cut [12] (fun pv wx=>∃ (xE:Nat) (aE:Option Addr) (nE cE:Nat) (sE:IS) (lE:Value),pv=.pointer (some ⟨xE,0,none⟩)/\RowAt wx xE 0 [.slice aE nE cE]/\nb<xE/\SB b (.slice ta tn tc) P1 wx sE lE/\Hid (IFr b w3 wx)/\sE.Good/\Hid (ISeq sE Y0.2)/\s2.nx<=sE.nx/\sE.nx<=s2.nx+2*nT t0/\Hid (TV b (3*nT t0) sE.cd wx (.slice aE nE cE) Y0.1))
     case first=>
      obtain⟨wz,hwz⟩ : ∃q,q=w3:=⟨_,rfl⟩
      have DZ:=D3
      have NZ:=N3
      have qz:=q_3
      have hcz:=ca.out
      have hlz:b<w3.heap.size:=by omega
      have hgz:g<w3.heap.size:=by omega
      have hsz:nb<w3.heap.size:=by omega
      rw[<- hwz]at DZ NZ qz hcz hlz hgz hsz ⊢
      have dz_0:=DZ.box1
      have nz_3:=NZ.box4.2.2.2
      have hX1:w.heap.size≠wz.heap.size:=by omega
      have hX2:nb≠wz.heap.size:=by omega
      have hX3:g≠wz.heap.size:=by omega
      have hxb:wz.heap.size≠b:=by omega
      replace hwz:=kH hwz;replace hX1:=kH hX1;replace hX2:=kH hX2;replace hX3:=kH hX3;replace hcz:=kH hcz
      clear D3 N3 q_3
      go_region_held3 (fun w'=>w'.cell? ⟨w.heap.size,0,none⟩=some (.slice (some ⟨b1,o1,none⟩) n uc)/\w'.cell? ⟨nb,3,none⟩=some (.slice (some ⟨g,o,none⟩) 1 kc)/\w'.cell? ⟨g,o,none⟩=some (.int .i64 k0))
       (first|exact⟨dz_0,nz_3,qz⟩|exact⟨x_0,x_1,x_2⟩|exact⟨(DX.set_other hX1.out _).box1,(NX.set_other hX2.out _).box4.2.2.2,(QX.set_other hX3.out _).cells1⟩|go_keep)
       (first|(go_at_call 22;first
        |((with_reducible refine(hcz.out _ ((Below.refl _ wz).drew)).mono ?_);rintro e wF ⟨vF,sF,lF,rfl,SF,FF',gF,qF,loF,hiF,TF⟩;have FF:IFr b wz wF:=(IFr.of ((Below.refl _ wz).drew) (Nat.le_of_lt hlz)).trans FF';obtain⟨aF,nF,cF,rfl⟩:=TF.form;have DX:=FF.row DZ (by omega);have NX:=FF.row NZ (by omega);have QX:RowAt wF g (o) [.int .i64 k0]:=FF.row (fun j c hc=>by match j,hc with|0,hc=>obtain rfl:=Option.some.inj hc;exact qz|j+1,hc=>simp at hc) hgb.out;have x_0:=DX.box1;have x_1:=NX.box4.2.2.2;have x_2:=QX.cells1;have hzF:=FF.size;replace FF':=kH FF';replace FF:=kH FF;replace qF:=kH qF;replace TF:=kH TF)
        |((with_reducible refine(hcz.out _ (((Below.refl _ wz).alloc (Nat.le_refl _) _).drew)).mono ?_);rintro e wF ⟨vF,sF,lF,rfl,SF,FF',gF,qF,loF,hiF,TF⟩;have FF:IFr b wz wF:=(IFr.of (((Below.refl _ wz).alloc (Nat.le_refl _) _).drew) (Nat.le_of_lt hlz)).trans FF';have BX:=FF'.row ((RowAt.box wz #[.slice none 0 0] 33).below ((Below.refl _ _).drew)) hxb;have BXW:=((Wr.box wz #[.slice none 0 0] 33).below ((Below.refl _ _).drew)).kept FF'.kept hxb;have BXO:=((One.box wz (.slice none 0 0) 33).below ((Below.refl _ _).drew) (by simp)).fr FF' hxb (by simp);have bx_0:=BX.box1;have bxf:=BXW.frz0 (by decide);obtain⟨aF,nF,cF,rfl⟩:=TF.form;have DX:=FF.row DZ (by omega);have NX:=FF.row NZ (by omega);have QX:RowAt wF g (o) [.int .i64 k0]:=FF.row (fun j c hc=>by match j,hc with|0,hc=>obtain rfl:=Option.some.inj hc;exact qz|j+1,hc=>simp at hc) hgb.out;have x_0:=DX.box1;have x_1:=NX.box4.2.2.2;have x_2:=QX.cells1;have hzF:=FF.size;replace FF':=kH FF';replace FF:=kH FF;replace qF:=kH qF;replace TF:=kH TF)))
      all_goals (go_wp2_with fail;go_meet)
      all_goals (have hwz':=hwz.out;subst hwz')
      all_goals first
       |exact⟨wF.heap.size,aF,nF,cF,sF,lF,rfl,RowAt.box wF #[_] _,by omega,SF.below (by go_grown),kH (FF.out.grow (by go_grown) (by omega)),gF,qF,loF,hiF,kH (TF.out.below (by go_grown))⟩
       |exact⟨_,aF,nF,cF,sF,lF,rfl,BX.putAt (j:=0) (by simp) _,by omega,SF.one BXO hxb _,kH (FF.out.setNew (Nat.le_refl _) (by omega) _),gF,qF,loF,hiF,kH (tv_one TF.out BXO _)⟩
     obtain⟨zb,a6,n6,c6,s6,lv6,rfl,Z5,hzb,S5,F35,g6,q6,l6,u6,T6⟩:=hcut
     obtain⟨w5,rfl⟩ : ∃q,q=wc:=⟨_,rfl⟩
     have hz35:=F35.out.size
     have X5:=F35.out.row X3 (by omega)
     have Y5:=F35.out.row Y3 (by omega)
     have R5:=F35.out.row R3 (by omega)
     have R5W:=R3W.kept F35.out.kept (by omega)
     have RO5:=RO3.out.fr F35.out (by omega) (by omega)
     have F5:=F3.out.trans F35.out
     have hlt5:=S5.lt
     have ix:s6.cd=0->TyIn s6 Y0.1:=fun h=>by rw[q6.out.eq (by rw[<- q6.out.cd];exact h)];exact iD.out (by rw[<- q6.out.cd];exact h)
     have iy:s6.cd=0->TyIn s6 L.2.1:=fun h=>k5d.out.up l6
     have hTy:TV b (3*nT t0+40000) s6.cd w5 (.slice a4 n4 c4) L.2.1:=TV.of (F35.out.sl GTyItem.good (T3'.out h2.out (by decide))) (by omega)
     have cD:=l06Demand_c S5 g6 (by omega) (by omega) (T6.out.cd (m':=3*nT t0+40000) id (by omega)) hTy ix iy 0 i64_zero
     obtain⟨gD1,gD2⟩:=g6.demand ix iy (a:=0) i64_zero
     have qD:=q6.out.demand Y0.1 L.2.1 0
     have T5:=T3.out.fr F35.out
     replace cD:=kH cD;replace RO5:=kH RO5;replace F5:=kH F5;replace qD:=kH qD;replace gD1:=kH gD1;replace gD2:=kH gD2;replace T5:=kH T5
     clear R3 R3W RO3 F3 D3 N3 q_3 X3 Y3 S3 ca ix iy hTy s_0 s_1 s_2 s_3 s_4 s_5 x3_0 y3_0 n3_0 n3_1 n3_2 n3_3 r3_0 r3f_0
     have x5_0:=X5.box1;have hsX5:=bLt x5_0;have y5_0:=Y5.box1;have hsY5:=bLt y5_0;have z5_0:=Z5.box1;have hsZ5:=bLt z5_0;have r5f_0:=R5W.frz 0 (by omega);have r5_0:=R5.box1;have hsR5:=bLt r5_0
     go_wp2_with (go_at_call 55;(with_reducible refine(cD.out).mono ?_);rintro e w6 ⟨rfl,lv7,S6,F56⟩;have X6:=F56.row X5 (by omega);have R6:=F56.row R5 (by omega);have R6W:=R5W.kept F56.kept (by omega);have x6_0:=X6.box1;have r6_0:=R6.box1;have rf6:=R6W.frz0 (by decide);have hsX6:=World.block_lt_of_cell? _ _ x6_0;have hsR6:=World.block_lt_of_cell? _ _ r6_0;dsimp only at hsX6 hsR6)
     obtain⟨F7,S7,R7⟩:=ty_fin (b:=b) (w:=w) (Nat.le_succ _) (by omega) (F5.out.trans F56) S6 (RO5.out.fr F56 (by omega) (by omega)) R6 (.slice a2 n2 c2)
     refine bodyPost_ret (ret_ty (a:=6) Tryz.results22 rfl R7) rfl ?_
     exact hp.out _ _ _ lv7 S7 F7 gD1.out qD.out (by rw[gD2.out];omega) (by rw[gD2.out];omega) (tv_one (((T5.out.fr F56).cd (fun _=>h2.out) (by omega))) (RO5.out.fr F56 (by omega) (by omega)) _)
    ·have d2:(s2.cd == 0)=false:=beq_eq_false_iff_ne.2 h2
     have hdy:=hdy0.trans (if_neg (fun h=>h2 (by rw[q2.out.cd];exact h)))
     replace h2:=kH h2
     clear hdy0
     (rw[hdy]at hp;replace hp:=kH hp;clear hdy hok hsh hnt;go_wp2_with fail;obtain⟨F7,S7,R7⟩:=ty_fin (b:=b) (w:=w) (Nat.le_succ _) (by omega) F3.out S3 RO3.out R3 (.slice a2 n2 c2);refine bodyPost_ret (ret_ty (a:=6) Tryz.results22 rfl R7) rfl ?_;exact hp.out _ _ s2 lv S7 F7 hgd q2.out (by omega) (by omega) (tv_one (T3.out.cd id (by omega)) RO3.out _))
   |a :: c :: l,_,hkm',hnt,hp,hkm,hup,cT,kK,hn,hn1=>exact absurd hkm'.out (by simp;omega)
 ·have hm0:m.cd≠0:=by rw[<- hq.cd];exact h0
  have hdy:dataY T (f+1) (.mk kd nn str (ks.map fun k=>treeOf d.nodes f k.toNat)) m=(.c0 nmInt,m):=by unfold dataY;rw[if_pos hm0]
  rw[hdy]at hpost
  have d0:(s.cd != 0)=true:=by simpa using h0
  have d1:(s.cd == 0)=false:=beq_eq_false_iff_ne.2 h0
  replace hq:=kH hq
  clear hdy hok
  replace h0:=kH h0;replace hm0:=kH hm0
  go_wp2_with fail
  obtain⟨F2,S2,R2⟩:=ty_fin (Nat.le_succ _) (by omega) F1.out S1 RO1.out R1 (.slice none 0 0)
  refine bodyPost_ret (ret_ty (a:=6) Tryz.results22 rfl R2) rfl ?_
  exact hpost.out _ _ s lv S2 F2 hg hq.out (Nat.le_refl _) (Nat.le_add_right _ _) (TV.none h0.out)
theorem l21Ty_all {b tn tc:Nat} {ta:Option Addr} {P1:Value} {T:List GType} (hT:TysOk T) (d:GData) (hU:Up d.nodes) (hL:d.nodes.length<=600) (f:Nat):DtC b tn tc ta P1 T d f:=by
 induction f with
 |zero=>intro i h1 h2;omega
 |succ f ih=>exact fun i h1 h2 h3 s m lv r w h4 h5 h6 h7 h8 h9 h10=>l21Ty_step hT d hU hL f ih i h1 h2 h3 s m lv r w h4 h5 h6 h7 h8 h9 h10
end Go.Proofs.YtkikkfjmggobpaaGreat
