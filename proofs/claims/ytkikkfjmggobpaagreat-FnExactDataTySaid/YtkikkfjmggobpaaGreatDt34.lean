/- Parts of the proof, merged: FoNode, FoCon, FoType, FoProgram, PrSm, FoTy, FtTyItem, FtTy, FtCon. -/
import Derived.OwnWalk
import Derived.Test.YtkikkfjmggobpaaGreatDt33
namespace Go.Proofs.YtkikkfjmggobpaaGreat
open Go.RowKit
set_option maxRecDepth 100000
set_option maxHeartbeats 16000000
set_option linter.unusedVariables false
set_option linter.unusedSimpArgs false
attribute [local go_sem] Ext.cell
def cntNode (x:GNode):Nat:=4+cntL cntInt x.kids+cntL cntPat x.pats
def mkNode (k:Nat) (x:GNode):GNode:=⟨(k:Int),((k+1:Nat):Int),((k+2:Nat):Int),markT (k+3),markL mkInt cntInt (k+4) x.kids,markL mkPat cntPat (k+4+cntL cntInt x.kids) x.pats⟩
def LenOkNode (xs:List GNode):Prop:=xs.length<=4611686018427387904/\∀x∈xs,x.kids.length<=4611686018427387904/\LenOkPat x.pats
theorem markNodeS_c (v:Value) (bs:List Nat) (k lo:Nat) (z:Int) (hz:z=(k:Int)) (xs:List GNode) (w:World) (S:SlO 123 6 GNode.O bs w v xs) (hnd:bs.Nodup) (hlo:∀b∈bs,lo<=b) (hlw:lo<=w.heap.size) (hkn:k+cntL cntNode xs<=4611686018427387904) (hlN:LenOkNode xs) :
  Calls Tryz.prog 38 #[v,.int .i64 z] w fun e w'=>e=.returned (.int .i64 ((k+cntL cntNode xs:Nat):Int))/\SlO 123 6 GNode.O bs w' v (markL mkNode cntNode k xs)/\Kept (·∈bs) w w'/\Below lo w w':=by
 subst hz
 obtain⟨a,c,rfl⟩:=S.form
 obtain⟨n,hn⟩ : ∃n,n=xs.length:=⟨_,rfl⟩
 have hln:n<=4611686018427387904:=by rw[hn];unfold LenOkNode at hlN;omega
 rw[<- hn]at S ⊢
 replace hn:=kH hn;replace S:=kH S;replace hnd:=kH hnd;replace hlo:=kH hlo;replace hkn:=kH hkn;replace hlN:=kH hlN
 go_enter Tryz.func38,Tryz.ntmps38
 go_wp2_with fail
 go_loopw [1,5] (fun kk i wr=>∃m j:Nat,j<=n/\Hid (m=k+cntL cntNode (xs.take j))/\kk=.int .i64 m/\i=.int .i64 j/\Hid (SlO 123 6 GNode.O bs wr (.slice a n c) (markN mkNode cntNode k xs j))/\Below lo w wr/\Hid (Kept (·∈bs) w wr)) (fun _ i _=>n-(intOf i).toNat)
 case atStart=>exact⟨k,0,by omega,by show _=_;simp[cntL],rfl,rfl,by show SlO _ _ _ _ _ _ _;rw[markN_zero];exact S.out,Below.refl _ _,Kept.refl _ _⟩
 case round=>
  clear S
  obtain⟨m,j,hj,hm,rfl,rfl,S,hw0,hK0⟩:=hrel
  have hz0:=hw0.size
  by_cases hlt:j<n
  ·obtain⟨x,hx⟩ : ∃x,xs[j]? = some x:=⟨_,List.getElem?_eq_getElem (by have:=hn.out;omega)⟩
   have hks:=cntL_take (cnt:=cntNode) hx
   have hle:=cntL_le cntNode xs (j+1)
   have hmx:m+cntNode x<=4611686018427387904:=by have:=hkn.out;have:=hm.out;omega
   have hS:=S.out
   clear S
   rcases hS with⟨he,_⟩|⟨ps,⟨rows,hown,hrows⟩,hbs⟩
   ·exfalso
    have:=markN_length (mk:=mkNode) (cnt:=cntNode) k xs j
    rw[he]at this
    have:=hn.out
    simp at *
    omega
   rw[markN_length,<- hn.out]at hown
   obtain⟨g,cap,hv,-⟩:=own_cells hown (by omega)
   obtain⟨rfl,rfl⟩ : a=some ⟨g,0,none⟩/\c=cap:=by injection hv with e1 e2 e3;exact⟨e1,e3⟩
   clear hv
   obtain⟨p,r,hp,hr,hrl,ho⟩:=hrows.at (markN_get hx)
   have M0:=MidO.start hown hrows.wide (by rw[hrows.lr,markN_length,<- hn.out]) hr
   have hnd2:=hnd.out
   rw[hbs,fpO_slice,List.nodup_cons]at hnd2
   have hgp:g ∉ p:=fun h=>hnd2.1 (List.mem_flatten.2 ⟨p,List.mem_of_getElem? hp,h⟩)
   have hpn:p.Nodup:=(List.pairwise_flatten.1 hnd2.2).1 p (List.mem_of_getElem? hp)
   have hpb:∀b∈p,b∈bs:=fun b hb=>by rw[hbs,fpO_slice];exact List.mem_cons_of_mem _ (List.mem_flatten.2 ⟨p,List.mem_of_getElem? hp,hb⟩)
   have hgb:g∈bs:=by rw[hbs,fpO_slice];exact List.mem_cons_self
   have hlog:lo<=g:=hlo.out g hgb
   have hgw:=M0.lt
   obtain⟨u0,p0,u1,p1,rfl,hpp,hwf,s0,s1⟩:=ho
   have hpe:=hwf
   have hp0:∀b∈p0,b∈p:=fun b hb=>by rw[hpp];exact List.mem_append_left _ hb
   have hp1:∀b∈p1,b∈p:=fun b hb=>by rw[hpp];exact List.mem_append_right _ hb
   have hpd:p0.Nodup/\p1.Nodup/\∀b∈p0,b ∉ p1:=by rw[hpp]at hpn;have h:=List.nodup_append.1 hpn;exact⟨h.1,h.2.1,fun b h1 h2=>h.2.2 b h1 b h2 rfl⟩
   obtain⟨hl0,hl1⟩:=hlN.out.2 x (List.mem_of_getElem? hx)
   replace s0:=kH s0;replace s1:=kH s1;replace hl1:=kH hl1;replace hpp:=kH hpp;replace hp0:=kH hp0;replace hp1:=kH hp1;replace hpd:=kH hpd
   unfold cntNode at hmx
   obtain⟨e0,f0⟩:=M0.cell (off:=j*6) (t:=0) (by omega) rfl
   obtain⟨e1,f1⟩:=M0.cell (off:=j*6+1) (t:=1) (by omega) rfl
   obtain⟨e2,f2⟩:=M0.cell (off:=j*6+2) (t:=2) (by omega) rfl
   obtain⟨e3,f3⟩:=M0.cell (off:=j*6+3) (t:=3) (by omega) rfl
   obtain⟨e4,f4⟩:=M0.cell (off:=j*6+4) (t:=4) (by omega) rfl
   obtain⟨e5,f5⟩:=M0.cell (off:=j*6+5) (t:=5) (by omega) rfl
   clear hown
   replace hrows:=kH hrows;replace hbs:=kH hbs;replace hp:=kH hp;replace hx:=kH hx;replace hks:=kH hks;replace hle:=kH hle;replace M0:=kH M0;replace hr:=kH hr;replace hrl:=kH hrl;replace hwf:=kH hwf;replace hnd2:=kH hnd2;replace hpb:=kH hpb;replace hgp:=kH hgp;replace hgb:=kH hgb;replace hpe:=kH hpe;replace hpn:=kH hpn
   go_wp2_with fail
   refine(markText_z (m+3) _ (by omega) (by omega) _).mono ?_
   rintro e w2 ⟨rfl,hb2⟩
   have M1:=MidO.below (((M0.out.set (off:=j*6) (t:=0) (by omega) (by omega) (.int .i64 (m:Int))).set (off:=j*6+1) (t:=1) (by omega) (by omega) (.int .i64 ((m:Int)+1))).set (off:=j*6+2) (t:=2) (by omega) (by omega) (.int .i64 ((m:Int)+1+1))) hb2
   have K1:=((((Kept.refl (fun b=>b=g) wr).set (p:=⟨g,j*6,none⟩) rfl (.int .i64 (m:Int))).set (p:=⟨g,j*6+1,none⟩) rfl (.int .i64 ((m:Int)+1))).set (p:=⟨g,j*6+2,none⟩) rfl (.int .i64 ((m:Int)+1+1))).trans (by simp[World.setCell]) (Kept.below hb2)
   have B1:=(((hw0.setCell (p:=⟨g,j*6,none⟩) (by dsimp only;omega) (.int .i64 (m:Int))).setCell (p:=⟨g,j*6+1,none⟩) (by dsimp only;omega) (.int .i64 ((m:Int)+1))).setCell (p:=⟨g,j*6+2,none⟩) (by dsimp only;omega) (.int .i64 ((m:Int)+1+1))).trans (hb2.mono (by simp[World.setCell];omega))
   have z1:=B1.size
   have gw1:=M1.lt
   obtain⟨e3',f3'⟩:=M1.cell (off:=j*6+3) (t:=3) (by omega) rfl
   obtain⟨e4',f4'⟩:=M1.cell (off:=j*6+4) (t:=4) (by omega) rfl
   have zz:wr.heap.size<=w2.heap.size:=by have:=hb2.size;simpa [World.setCell] using this
   clear hb2 e0 e1 e2 e3 e4 e5 f0 f1 f2 f3 f4 f5
   have M2:=M1.set (off:=j*6+3) (t:=3) (by omega) (by omega) (.string (markT (m+3)))
   have K2:=K1.set (p:=⟨g,j*6+3,none⟩) rfl (.string (markT (m+3)))
   have B2:=B1.setCell (p:=⟨g,j*6+3,none⟩) (by dsimp only;omega) (.string (markT (m+3)))
   have z2:(w2.setCell ⟨g,j*6+3,none⟩ (.string (markT (m+3)))).heap.size=w2.heap.size:=by simp[World.setCell]
   have z2' : lo<=(w2.setCell ⟨g,j*6+3,none⟩ (.string (markT (m+3)))).heap.size:=by rw[z2];omega
   replace M2:=kH M2;replace K2:=kH K2;replace B2:=kH B2;replace M1:=kH M1;replace K1:=kH K1;replace z2:=kH z2
   go_wp2_with fail
   refine(markIntS_c u0 p0 (m+4) lo _ (by omega) x.kids _ (s0.out.kept (flatO_ok flatInt) K2.out (fun b hb h=>hgp.out (h ▸ hp0.out b hb))) hpd.out.1 (fun b hb=>hlo.out b (hpb.out b (hp0.out b hb))) z2' (by omega) hl0).mono ?_
   rintro e w3 ⟨rfl,t0,hk3,hb3⟩
   have hz3:=hb3.size
   rw[z2.out]at hz3
   have M3:=M2.out.kept hk3 (fun h=>hgp.out (hp0.out _ h))
   have s1':=(s1.out.kept GPat.ok K2.out (fun b hb h=>hgp.out (h ▸ hp1.out b hb))).kept GPat.ok hk3 (fun b hb h=>hpd.out.2.2 b h hb)
   obtain⟨e5',f5'⟩:=M3.cell (off:=j*6+5) (t:=5) (by omega) rfl
   have gw3:=M3.lt
   have K3:=(kept_imp (S':=fun b=>b=g\/b∈p) K2.out fun q h=>.inl h).trans (by rw[z2.out];exact zz) (kept_imp hk3 fun q h=>.inr (hp0.out q h))
   have B3:=B2.out.trans hb3
   obtain⟨m1,hm1⟩ : ∃y,y=m+4+cntL cntInt x.kids:=⟨_,rfl⟩
   rw[<- hm1]
   have hm1' : m1<=4611686018427387904:=by omega
   have hm2' : m1+cntL cntPat x.pats<=4611686018427387904:=by omega
   have z3:lo<=w3.heap.size:=by omega
   replace hm1:=kH hm1;replace M3:=kH M3;replace s1':=kH s1';replace K3:=kH K3;replace B3:=kH B3;replace t0:=kH t0
   clear hb3 hk3 e3' e4' f3' f4'
   go_wp2_with fail
   refine(markPatS_c u1 p1 m1 lo _ rfl x.pats _ s1'.out hpd.out.2.1 (fun b hb=>hlo.out b (hpb.out b (hp1.out b hb))) z3 hm2' hl1.out).mono ?_
   rintro e w4 ⟨rfl,t1,hk4,hb4⟩
   have hz4:=hb4.size
   have MF:=M3.out.kept hk4 (fun h=>hgp.out (hp1.out _ h))
   have t0':=t0.out.kept (flatO_ok flatInt) hk4 (fun b hb h=>hpd.out.2.2 b hb h)
   have KF:=K3.out.trans (show wr.heap.size<=w3.heap.size by omega) (kept_imp hk4 fun q h=>.inr (hp1.out q h))
   have BF:=B3.out.trans hb4
   replace MF:=kH MF;replace KF:=kH KF;replace t0':=kH t0';replace t1:=kH t1
   obtain⟨m2,hm2⟩ : ∃y,y=m1+cntL cntPat x.pats:=⟨_,rfl⟩
   rw[<- hm2]
   replace hm2:=kH hm2
   clear hb4 hk4 e5' f5'
   go_wp2_with fail
   go_roundw
   case rel=>exact⟨m2,j+1,by omega,by show _=_;rw[hks.out,hm2.out,hm1.out,hm.out];unfold cntNode;omega,by go_num,by go_num,.inr ⟨ps,(GrowO.mark GNode.ok (k:=k) rfl hrows.out hx.out hp.out (hbs.out ▸ hnd.out) (r:=[.int .i64 (m:Int),.int .i64 ((m:Int)+1),.int .i64 ((m:Int)+1+1),.string (markT (m+3)),u0,u1]) rfl hn.out MF.out.own (by rw[<- hm.out];exact⟨u0,p0,u1,p1,by simp[mkNode];omega,hpp.out,⟨by unfold mkNode I64;dsimp only;omega,by unfold mkNode I64;dsimp only;omega,by unfold mkNode I64;dsimp only;omega,markT_ok (n:=m+3) (by omega)⟩,t0'.out,by unfold mkNode;dsimp only;rw[<- hm1.out];exact t1.out⟩) KF.out),hbs.out⟩,BF,hK0.out.trans hz0 (kept_imp KF.out fun q h=>by rcases h with h|h;(subst h;exact hgb.out);exact hpb.out q h)⟩
   case measure=>simp[intOf];omega
  ·obtain rfl:j=n:=by omega
   have e1:=hn.out
   have h2:=S.out
   have h3:=hm.out
   rw[List.take_of_length_le (by omega)]at h3
   rw[e1,markN_all,<- e1]at h2
   replace h2:=kH h2;replace h3:=kH h3
   clear e1
   go_wp2
   go_returns
   exact⟨by rw[<- h3.out];rfl,h2.out,hK0.out,hw0⟩
def GCon.O:FootR GCon:=fun bs w r x=>∃u0:Value,r=[.string x.name,.bool x.has,u0]/\x.wf/\SlO 107 3 GTyItem.O bs w u0 x.arg.items
theorem GCon.ok:FootOk GCon.O GCon.R where
 loc:=fun⟨u0,hr,hwf,s0⟩ hs=>⟨u0,hr,hwf,s0.loc GTyItem.ok hs⟩
 lt:=fun⟨u0,hr,hwf,s0⟩=>s0.lt GTyItem.ok
 read:=fun⟨u0,hr,hwf,s0⟩ hlo=>⟨u0,hr,hwf,s0.sl GTyItem.ok hlo⟩
def cntCon (x:GCon):Nat:=2+cntL cntTyItem x.arg.items
def mkCon (k:Nat) (x:GCon):GCon:=⟨markT k,decide ((k+1) % 3=0),⟨markL mkTyItem cntTyItem (k+2) x.arg.items⟩⟩
def LenOkCon (xs:List GCon):Prop:=xs.length<=4611686018427387904/\∀x∈xs,LenOkTyItem x.arg.items
theorem markConS_c (v:Value) (bs:List Nat) (k lo:Nat) (z:Int) (hz:z=(k:Int)) (xs:List GCon) (w:World) (S:SlO 105 3 GCon.O bs w v xs) (hnd:bs.Nodup) (hlo:∀b∈bs,lo<=b) (hlw:lo<=w.heap.size) (hkn:k+cntL cntCon xs<=4611686018427387904) (hlN:LenOkCon xs) :
  Calls Tryz.prog 83 #[v,.int .i64 z] w fun e w'=>e=.returned (.int .i64 ((k+cntL cntCon xs:Nat):Int))/\SlO 105 3 GCon.O bs w' v (markL mkCon cntCon k xs)/\Kept (·∈bs) w w'/\Below lo w w':=by
 subst hz
 obtain⟨a,c,rfl⟩:=S.form
 obtain⟨n,hn⟩ : ∃n,n=xs.length:=⟨_,rfl⟩
 have hln:n<=4611686018427387904:=by rw[hn];unfold LenOkCon at hlN;omega
 rw[<- hn]at S ⊢
 replace hn:=kH hn;replace S:=kH S;replace hnd:=kH hnd;replace hlo:=kH hlo;replace hkn:=kH hkn;replace hlN:=kH hlN
 go_enter Tryz.func83,Tryz.ntmps83
 go_wp2_with fail
 go_loopw [1,5] (fun kk i wr=>∃m j:Nat,j<=n/\Hid (m=k+cntL cntCon (xs.take j))/\kk=.int .i64 m/\i=.int .i64 j/\Hid (SlO 105 3 GCon.O bs wr (.slice a n c) (markN mkCon cntCon k xs j))/\Below lo w wr/\Hid (Kept (·∈bs) w wr)) (fun _ i _=>n-(intOf i).toNat)
 case atStart=>exact⟨k,0,by omega,by show _=_;simp[cntL],rfl,rfl,by show SlO _ _ _ _ _ _ _;rw[markN_zero];exact S.out,Below.refl _ _,Kept.refl _ _⟩
 case round=>
  clear S
  obtain⟨m,j,hj,hm,rfl,rfl,S,hw0,hK0⟩:=hrel
  have hz0:=hw0.size
  by_cases hlt:j<n
  ·obtain⟨x,hx⟩ : ∃x,xs[j]? = some x:=⟨_,List.getElem?_eq_getElem (by have:=hn.out;omega)⟩
   have hks:=cntL_take (cnt:=cntCon) hx
   have hle:=cntL_le cntCon xs (j+1)
   have hmx:m+cntCon x<=4611686018427387904:=by have:=hkn.out;have:=hm.out;omega
   have hS:=S.out
   clear S
   rcases hS with⟨he,_⟩|⟨ps,⟨rows,hown,hrows⟩,hbs⟩
   ·exfalso
    have:=markN_length (mk:=mkCon) (cnt:=cntCon) k xs j
    rw[he]at this
    have:=hn.out
    simp at *
    omega
   rw[markN_length,<- hn.out]at hown
   obtain⟨g,cap,hv,-⟩:=own_cells hown (by omega)
   obtain⟨rfl,rfl⟩ : a=some ⟨g,0,none⟩/\c=cap:=by injection hv with e1 e2 e3;exact⟨e1,e3⟩
   clear hv
   obtain⟨p,r,hp,hr,hrl,ho⟩:=hrows.at (markN_get hx)
   have M0:=MidO.start hown hrows.wide (by rw[hrows.lr,markN_length,<- hn.out]) hr
   have hnd2:=hnd.out
   rw[hbs,fpO_slice,List.nodup_cons]at hnd2
   have hgp:g ∉ p:=fun h=>hnd2.1 (List.mem_flatten.2 ⟨p,List.mem_of_getElem? hp,h⟩)
   have hpn:p.Nodup:=(List.pairwise_flatten.1 hnd2.2).1 p (List.mem_of_getElem? hp)
   have hpb:∀b∈p,b∈bs:=fun b hb=>by rw[hbs,fpO_slice];exact List.mem_cons_of_mem _ (List.mem_flatten.2 ⟨p,List.mem_of_getElem? hp,hb⟩)
   have hgb:g∈bs:=by rw[hbs,fpO_slice];exact List.mem_cons_self
   have hlog:lo<=g:=hlo.out g hgb
   have hgw:=M0.lt
   obtain⟨u0,rfl,hwf,s0⟩:=ho
   have hpe:=hwf
   have hl0:=hlN.out.2 x (List.mem_of_getElem? hx)
   replace s0:=kH s0;replace hl0:=kH hl0
   unfold cntCon at hmx
   obtain⟨e0,f0⟩:=M0.cell (off:=j*3) (t:=0) (by omega) rfl
   obtain⟨e1,f1⟩:=M0.cell (off:=j*3+1) (t:=1) (by omega) rfl
   obtain⟨e2,f2⟩:=M0.cell (off:=j*3+2) (t:=2) (by omega) rfl
   clear hown
   replace hrows:=kH hrows;replace hbs:=kH hbs;replace hp:=kH hp;replace hx:=kH hx;replace hks:=kH hks;replace hle:=kH hle;replace M0:=kH M0;replace hr:=kH hr;replace hrl:=kH hrl;replace hwf:=kH hwf;replace hnd2:=kH hnd2;replace hpb:=kH hpb;replace hgp:=kH hgp;replace hgb:=kH hgb;replace hpe:=kH hpe;replace hpn:=kH hpn
   go_wp2_with fail
   refine(markText_z m _ (by omega) (by omega) _).mono ?_
   rintro e w2 ⟨rfl,hb2⟩
   have M1:=M0.out.below hb2
   have K1:=(Kept.refl (fun b=>b=g) wr).trans (Nat.le_refl _) (Kept.below hb2)
   have B1:=hw0.trans (hb2.mono (by omega))
   have z1:=B1.size
   have gw1:=M1.lt
   obtain⟨e0',f0'⟩:=M1.cell (off:=j*3) (t:=0) (by omega) rfl
   obtain⟨e1',f1'⟩:=M1.cell (off:=j*3+1) (t:=1) (by omega) rfl
   obtain⟨e2',f2'⟩:=M1.cell (off:=j*3+2) (t:=2) (by omega) rfl
   have zz:wr.heap.size<=w2.heap.size:=hb2.size
   have s01:=s0.out.below GTyItem.ok hb2
   have hb3:(((m:Int)+1) % 3 == 0)=decide ((m+1) % 3=0):=by
    rw[Bool.eq_iff_iff,beq_iff_eq,decide_eq_true_iff];omega
   clear hb2 e0 e1 e2 f0 f1 f2
   obtain⟨tb,htb⟩ : ∃q,decide ((m+1) % 3=0)=q:=⟨_,rfl⟩
   rw[htb]at hb3
   have M2:=(M1.set (off:=j*3) (t:=0) (by omega) (by omega) (.string (markT m))).set (off:=j*3+1) (t:=1) (by omega) (by omega) (.bool tb)
   have K2:=(K1.set (p:=⟨g,j*3,none⟩) rfl (.string (markT m))).set (p:=⟨g,j*3+1,none⟩) rfl (.bool tb)
   have B2:=(B1.setCell (p:=⟨g,j*3,none⟩) (by dsimp only;omega) (.string (markT m))).setCell (p:=⟨g,j*3+1,none⟩) (by dsimp only;omega) (.bool tb)
   have z2:((w2.setCell ⟨g,j*3,none⟩ (.string (markT m))).setCell ⟨g,j*3+1,none⟩ (.bool tb)).heap.size=w2.heap.size:=by simp[World.setCell]
   replace M2:=kH M2;replace K2:=kH K2;replace B2:=kH B2;replace M1:=kH M1;replace K1:=kH K1;replace z2:=kH z2;replace htb:=kH htb;replace s01:=kH s01
   go_wp2_with fail
   refine(markTyItemS_c u0 p (m+2) lo _ (by omega) x.arg.items _ (s01.out.kept GTyItem.ok ((Kept.refl (fun b=>b=g) w2).set (p:=⟨g,j*3,none⟩) rfl (.string (markT m)) |>.set (p:=⟨g,j*3+1,none⟩) rfl (.bool tb)) (fun b hb h=>hgp.out (h ▸ hb))) hpn.out (fun b hb=>hlo.out b (hpb.out b hb)) (by rw[z2.out];omega) (by omega) hl0.out).mono ?_
   rintro e w3 ⟨rfl,t0,hk3,hb3'⟩
   have hz3:=hb3'.size
   rw[z2.out]at hz3
   have MF:=M2.out.kept hk3 hgp.out
   have KF:=(kept_imp (S':=fun b=>b=g\/b∈p) K2.out fun q h=>.inl h).trans (by rw[z2.out];exact zz) (kept_imp hk3 fun q h=>.inr h)
   have BF:=B2.out.trans hb3'
   replace MF:=kH MF;replace KF:=kH KF;replace t0:=kH t0
   obtain⟨m1,hm1⟩ : ∃y,y=m+2+cntL cntTyItem x.arg.items:=⟨_,rfl⟩
   rw[<- hm1]
   replace hm1:=kH hm1
   clear hb3' hk3 hb3
   go_wp2_with fail
   go_roundw
   case rel=>exact⟨m1,j+1,by omega,by show _=_;rw[hks.out,hm1.out,hm.out];unfold cntCon;omega,by go_num,by go_num,.inr ⟨ps,(GrowO.mark GCon.ok (k:=k) rfl hrows.out hx.out hp.out (hbs.out ▸ hnd.out) (r:=[.string (markT m),.bool tb,u0]) rfl hn.out MF.out.own (by rw[<- hm.out];exact⟨u0,by simp only[mkCon,htb.out],markT_ok (n:=m) (by omega),t0.out⟩) KF.out),hbs.out⟩,BF,hK0.out.trans hz0 (kept_imp KF.out fun q h=>by rcases h with h|h;(subst h;exact hgb.out);exact hpb.out q h)⟩
   case measure=>simp[intOf];omega
  ·obtain rfl:j=n:=by omega
   have e1:=hn.out
   have h2:=S.out
   have h3:=hm.out
   rw[List.take_of_length_le (by omega)]at h3
   rw[e1,markN_all,<- e1]at h2
   replace h2:=kH h2;replace h3:=kH h3
   clear e1
   go_wp2
   go_returns
   exact⟨by rw[<- h3.out];rfl,h2.out,hK0.out,hw0⟩
def GType.O:FootR GType:=fun bs w r x=>∃u0:Value,r=[.string x.name,.int .i64 x.params,u0]/\x.wf/\SlO 105 3 GCon.O bs w u0 x.cons
theorem GType.ok:FootOk GType.O GType.R where
 loc:=fun⟨u0,hr,hwf,s0⟩ hs=>⟨u0,hr,hwf,s0.loc GCon.ok hs⟩
 lt:=fun⟨u0,hr,hwf,s0⟩=>s0.lt GCon.ok
 read:=fun⟨u0,hr,hwf,s0⟩ hlo=>⟨u0,hr,hwf,s0.sl GCon.ok hlo⟩
def cntType (x:GType):Nat:=2+cntL cntCon x.cons
def mkType (k:Nat) (x:GType):GType:=⟨markT k,((k+1:Nat):Int),markL mkCon cntCon (k+2) x.cons⟩
def LenOkType (xs:List GType):Prop:=xs.length<=4611686018427387904/\∀x∈xs,LenOkCon x.cons
theorem markTypeS_c (v:Value) (bs:List Nat) (k lo:Nat) (z:Int) (hz:z=(k:Int)) (xs:List GType) (w:World) (S:SlO 101 3 GType.O bs w v xs) (hnd:bs.Nodup) (hlo:∀b∈bs,lo<=b) (hlw:lo<=w.heap.size) (hkn:k+cntL cntType xs<=4611686018427387904) (hlN:LenOkType xs) :
  Calls Tryz.prog 37 #[v,.int .i64 z] w fun e w'=>e=.returned (.int .i64 ((k+cntL cntType xs:Nat):Int))/\SlO 101 3 GType.O bs w' v (markL mkType cntType k xs)/\Kept (·∈bs) w w'/\Below lo w w':=by
 subst hz
 obtain⟨a,c,rfl⟩:=S.form
 obtain⟨n,hn⟩ : ∃n,n=xs.length:=⟨_,rfl⟩
 have hln:n<=4611686018427387904:=by rw[hn];unfold LenOkType at hlN;omega
 rw[<- hn]at S ⊢
 replace hn:=kH hn;replace S:=kH S;replace hnd:=kH hnd;replace hlo:=kH hlo;replace hkn:=kH hkn;replace hlN:=kH hlN
 go_enter Tryz.func37,Tryz.ntmps37
 go_wp2_with fail
 go_loopw [1,5] (fun kk i wr=>∃m j:Nat,j<=n/\Hid (m=k+cntL cntType (xs.take j))/\kk=.int .i64 m/\i=.int .i64 j/\Hid (SlO 101 3 GType.O bs wr (.slice a n c) (markN mkType cntType k xs j))/\Below lo w wr/\Hid (Kept (·∈bs) w wr)) (fun _ i _=>n-(intOf i).toNat)
 case atStart=>exact⟨k,0,by omega,by show _=_;simp[cntL],rfl,rfl,by show SlO _ _ _ _ _ _ _;rw[markN_zero];exact S.out,Below.refl _ _,Kept.refl _ _⟩
 case round=>
  clear S
  obtain⟨m,j,hj,hm,rfl,rfl,S,hw0,hK0⟩:=hrel
  have hz0:=hw0.size
  by_cases hlt:j<n
  ·obtain⟨x,hx⟩ : ∃x,xs[j]? = some x:=⟨_,List.getElem?_eq_getElem (by have:=hn.out;omega)⟩
   have hks:=cntL_take (cnt:=cntType) hx
   have hle:=cntL_le cntType xs (j+1)
   have hmx:m+cntType x<=4611686018427387904:=by have:=hkn.out;have:=hm.out;omega
   have hS:=S.out
   clear S
   rcases hS with⟨he,_⟩|⟨ps,⟨rows,hown,hrows⟩,hbs⟩
   ·exfalso
    have:=markN_length (mk:=mkType) (cnt:=cntType) k xs j
    rw[he]at this
    have:=hn.out
    simp at *
    omega
   rw[markN_length,<- hn.out]at hown
   obtain⟨g,cap,hv,-⟩:=own_cells hown (by omega)
   obtain⟨rfl,rfl⟩ : a=some ⟨g,0,none⟩/\c=cap:=by injection hv with e1 e2 e3;exact⟨e1,e3⟩
   clear hv
   obtain⟨p,r,hp,hr,hrl,ho⟩:=hrows.at (markN_get hx)
   have M0:=MidO.start hown hrows.wide (by rw[hrows.lr,markN_length,<- hn.out]) hr
   have hnd2:=hnd.out
   rw[hbs,fpO_slice,List.nodup_cons]at hnd2
   have hgp:g ∉ p:=fun h=>hnd2.1 (List.mem_flatten.2 ⟨p,List.mem_of_getElem? hp,h⟩)
   have hpn:p.Nodup:=(List.pairwise_flatten.1 hnd2.2).1 p (List.mem_of_getElem? hp)
   have hpb:∀b∈p,b∈bs:=fun b hb=>by rw[hbs,fpO_slice];exact List.mem_cons_of_mem _ (List.mem_flatten.2 ⟨p,List.mem_of_getElem? hp,hb⟩)
   have hgb:g∈bs:=by rw[hbs,fpO_slice];exact List.mem_cons_self
   have hlog:lo<=g:=hlo.out g hgb
   have hgw:=M0.lt
   obtain⟨u0,rfl,hwf,s0⟩:=ho
   have hpe:=hwf
   have hl0:=hlN.out.2 x (List.mem_of_getElem? hx)
   replace s0:=kH s0;replace hl0:=kH hl0
   unfold cntType at hmx
   obtain⟨e0,f0⟩:=M0.cell (off:=j*3) (t:=0) (by omega) rfl
   obtain⟨e1,f1⟩:=M0.cell (off:=j*3+1) (t:=1) (by omega) rfl
   obtain⟨e2,f2⟩:=M0.cell (off:=j*3+2) (t:=2) (by omega) rfl
   clear hown
   replace hrows:=kH hrows;replace hbs:=kH hbs;replace hp:=kH hp;replace hx:=kH hx;replace hks:=kH hks;replace hle:=kH hle;replace M0:=kH M0;replace hr:=kH hr;replace hrl:=kH hrl;replace hwf:=kH hwf;replace hnd2:=kH hnd2;replace hpb:=kH hpb;replace hgp:=kH hgp;replace hgb:=kH hgb;replace hpe:=kH hpe;replace hpn:=kH hpn
   go_wp2_with fail
   refine(markText_z m _ (by omega) (by omega) _).mono ?_
   rintro e w2 ⟨rfl,hb2⟩
   have M1:=M0.out.below hb2
   have K1:=(Kept.refl (fun b=>b=g) wr).trans (Nat.le_refl _) (Kept.below hb2)
   have B1:=hw0.trans (hb2.mono (by omega))
   have z1:=B1.size
   have gw1:=M1.lt
   obtain⟨e0',f0'⟩:=M1.cell (off:=j*3) (t:=0) (by omega) rfl
   obtain⟨e1',f1'⟩:=M1.cell (off:=j*3+1) (t:=1) (by omega) rfl
   obtain⟨e2',f2'⟩:=M1.cell (off:=j*3+2) (t:=2) (by omega) rfl
   have zz:wr.heap.size<=w2.heap.size:=hb2.size
   have s01:=s0.out.below GCon.ok hb2
   clear hb2 e0 e1 e2 f0 f1 f2
   have M2:=(M1.set (off:=j*3) (t:=0) (by omega) (by omega) (.string (markT m))).set (off:=j*3+1) (t:=1) (by omega) (by omega) (.int .i64 ((m:Int)+1))
   have K2:=(K1.set (p:=⟨g,j*3,none⟩) rfl (.string (markT m))).set (p:=⟨g,j*3+1,none⟩) rfl (.int .i64 ((m:Int)+1))
   have B2:=(B1.setCell (p:=⟨g,j*3,none⟩) (by dsimp only;omega) (.string (markT m))).setCell (p:=⟨g,j*3+1,none⟩) (by dsimp only;omega) (.int .i64 ((m:Int)+1))
   have z2:((w2.setCell ⟨g,j*3,none⟩ (.string (markT m))).setCell ⟨g,j*3+1,none⟩ (.int .i64 ((m:Int)+1))).heap.size=w2.heap.size:=by simp[World.setCell]
   replace M2:=kH M2;replace K2:=kH K2;replace B2:=kH B2;replace M1:=kH M1;replace K1:=kH K1;replace z2:=kH z2;replace s01:=kH s01
   go_wp2_with fail
   refine(markConS_c u0 p (m+2) lo _ (by omega) x.cons _ (s01.out.kept GCon.ok ((Kept.refl (fun b=>b=g) w2).set (p:=⟨g,j*3,none⟩) rfl (.string (markT m)) |>.set (p:=⟨g,j*3+1,none⟩) rfl (.int .i64 ((m:Int)+1))) (fun b hb h=>hgp.out (h ▸ hb))) hpn.out (fun b hb=>hlo.out b (hpb.out b hb)) (by rw[z2.out];omega) (by omega) hl0.out).mono ?_
   rintro e w3 ⟨rfl,t0,hk3,hb3'⟩
   have hz3:=hb3'.size
   rw[z2.out]at hz3
   have MF:=M2.out.kept hk3 hgp.out
   have KF:=(kept_imp (S':=fun b=>b=g\/b∈p) K2.out fun q h=>.inl h).trans (by rw[z2.out];exact zz) (kept_imp hk3 fun q h=>.inr h)
   have BF:=B2.out.trans hb3'
   replace MF:=kH MF;replace KF:=kH KF;replace t0:=kH t0
   obtain⟨m1,hm1⟩ : ∃y,y=m+2+cntL cntCon x.cons:=⟨_,rfl⟩
   rw[<- hm1]
   replace hm1:=kH hm1
   clear hb3' hk3
   go_wp2_with fail
   go_roundw
   case rel=>exact⟨m1,j+1,by omega,by show _=_;rw[hks.out,hm1.out,hm.out];unfold cntType;omega,by go_num,by go_num,.inr ⟨ps,(GrowO.mark GType.ok (k:=k) rfl hrows.out hx.out hp.out (hbs.out ▸ hnd.out) (r:=[.string (markT m),.int .i64 ((m:Int)+1),u0]) rfl hn.out MF.out.own (by rw[<- hm.out];exact⟨u0,by simp[mkType],⟨markT_ok (n:=m) (by omega),by unfold mkType I64;dsimp only;omega⟩,t0.out⟩) KF.out),hbs.out⟩,BF,hK0.out.trans hz0 (kept_imp KF.out fun q h=>by rcases h with h|h;(subst h;exact hgb.out);exact hpb.out q h)⟩
   case measure=>simp[intOf];omega
  ·obtain rfl:j=n:=by omega
   have e1:=hn.out
   have h2:=S.out
   have h3:=hm.out
   rw[List.take_of_length_le (by omega)]at h3
   rw[e1,markN_all,<- e1]at h2
   replace h2:=kH h2;replace h3:=kH h3
   clear e1
   go_wp2
   go_returns
   exact⟨by rw[<- h3.out];rfl,h2.out,hK0.out,hw0⟩
def GProgram.O:FootR GProgram:=fun bs w r x=>∃ (u0:Value) (p0:List Nat) (u1:Value) (p1:List Nat),r=[u0,u1]/\bs=p0++p1/\x.wf/\SlO 101 3 GType.O p0 w u0 x.types/\SlO 123 6 GNode.O p1 w u1 x.nodes
theorem GProgram.ok:FootOk GProgram.O GProgram.R where
 loc:=fun⟨u0,p0,u1,p1,hr,hb,hwf,s0,s1⟩ hs=>⟨u0,p0,u1,p1,hr,hb,hwf,s0.loc GType.ok fun b h=>hs b (by rw[hb];exact List.mem_append_left _ h),s1.loc GNode.ok fun b h=>hs b (by rw[hb];exact List.mem_append_right _ h)⟩
 lt:=fun⟨u0,p0,u1,p1,hr,hb,hwf,s0,s1⟩ b h=>by
  rw[hb]at h
  rcases List.mem_append.1 h with h|h
  ·exact s0.lt GType.ok b h
  ·exact s1.lt GNode.ok b h
 read:=fun⟨u0,p0,u1,p1,hr,hb,hwf,s0,s1⟩ hlo=>⟨u0,u1,hr,hwf,s0.sl GType.ok fun b h=>hlo b (by rw[hb];exact List.mem_append_left _ h),s1.sl GNode.ok fun b h=>hlo b (by rw[hb];exact List.mem_append_right _ h)⟩
theorem markProgram_c (p:GProgram) (r:List Value) (bs:List Nat) (k lo:Nat) (w:World) (S:GProgram.O bs w r p) (hnd:bs.Nodup) (hlo:∀b∈bs,lo<=b) (hlw:lo<=w.heap.size) (hkn:k+cntL cntType p.types+cntL cntNode p.nodes<=4611686018427387904) (hlT:LenOkType p.types) (hlN:LenOkNode p.nodes) :
  Calls Tryz.prog 13 #[.agg r.toArray,.int .i64 k] w fun e w'=>e=.returned (.int .i64 ((k+cntL cntType p.types+cntL cntNode p.nodes:Nat):Int))/\Kept (·∈bs) w w'/\Below lo w w':=by
 obtain⟨u0,p0,u1,p1,rfl,rfl,-,s0,s1⟩:=S
 obtain⟨n0,n1,nd⟩:=List.nodup_append.1 hnd
 obtain⟨a0,c0,rfl⟩:=s0.form
 obtain⟨a1,c1,rfl⟩:=s1.form
 have ht0:∀b∈p0,b<w.heap.size:=s0.lt GType.ok
 have hl0:∀b∈p0,lo<=b:=fun b h=>hlo b (List.mem_append_left _ h)
 have hl1:∀b∈p1,lo<=b:=fun b h=>hlo b (List.mem_append_right _ h)
 have cT:=fun W (hW:Below w.heap.size w W)=>markTypeS_c _ p0 k lo _ rfl p.types W (s0.below GType.ok hW) n0 hl0 (Nat.le_trans hlw hW.size) (by omega) hlT
 have cM:=fun(m:Nat) (hm:m=k+cntL cntType p.types) W (hS:SlO 123 6 GNode.O p1 W (.slice a1 p.nodes.length c1) p.nodes) (hW:lo<=W.heap.size)=>markNodeS_c _ p1 m lo _ rfl p.nodes W hS n1 hl1 hW (by omega) hlN
 have hs1:=fun W W' (hW:Below w.heap.size w W) (hK:Kept (·∈p0) W W')=>(s1.below GNode.ok hW).kept GNode.ok hK (fun b h h2=>nd b h2 b h rfl)
 generalize p.types.length=tn at *
 generalize p.nodes.length=n at *
 obtain⟨m1,hm1⟩ : ∃y,y=k+cntL cntType p.types:=⟨_,rfl⟩
 rw[<- hm1]at cT ⊢
 replace cM:=cM m1 hm1
 replace cT:=kH cT;replace cM:=kH cM;replace hs1:=kH hs1;replace hm1:=kH hm1
 clear hlT hlN s0 s1
 show Calls Tryz.prog 13 #[.agg #[.slice a0 tn c0,.slice a1 n c1],.int .i64 k] w _
 go_enter Tryz.func13,Tryz.ntmps13
 go_upto_region 1 with fail
 have C:RowAt (w.alloc (.cells #[.slice a0 tn c0,.slice a1 n c1] 39)) (w.heap.size) 0 [.slice a0 tn c0,.slice a1 n c1]:=RowAt.box w #[.slice a0 tn c0,.slice a1 n c1] 39
 have hw:Below w.heap.size w (w.alloc (.cells #[.slice a0 tn c0,.slice a1 n c1] 39)):=by go_grown
 generalize (w.alloc (.cells #[.slice a0 tn c0,.slice a1 n c1] 39))=w0 at *
 obtain⟨c_0,c_1⟩:=C.box2;have hsC:=bLt c_0
 go_wp2_with fail
 refine(cT.out _ hw).mono ?_
 rintro e w1 ⟨rfl,-,hK1,hb1⟩
 have S1:=hs1.out _ _ hw hK1
 have hz0:=hw.size
 have hz1:=hb1.size
 have C1:=C.kept hK1 (fun h=>by have:=ht0 _ h;omega)
 have K1:Kept (·∈p0++p1) w w1:=fun b h1 h2=>by rw[hK1 b (by omega) (fun h=>h2 (List.mem_append_left _ h)),hw.block b h1]
 have B1:Below lo w w1:=(hw.mono hlw).trans hb1
 clear c_0 c_1 hsC C hK1 hb1 hw
 obtain⟨c1_0,c1_1⟩:=C1.box2;have hsC1:=bLt c1_0
 replace K1:=kH K1;replace B1:=kH B1;replace S1:=kH S1
 go_wp2_with fail
 refine(cM.out _ S1.out (by omega)).mono ?_
 rintro e w2 ⟨rfl,-,hK2,hb2⟩
 have KF:Kept (·∈p0++p1) w w2:=K1.out.trans (by omega) (fun b h1 h2=>hK2 b h1 fun h=>h2 (List.mem_append_right _ h))
 have BF:=B1.out.trans hb2
 clear hK2 hb2
 go_wp2_with fail
 go_returns
 exact⟨rfl,KF,BF⟩
end Go.Proofs.YtkikkfjmggobpaaGreat
namespace Go.Proofs.YtkikkfjmggobpaaGreat
open Go.RowKit
set_option linter.unusedVariables false
set_option linter.unusedSimpArgs false
theorem cntL_bulk {α:Type} {cnt:α->Nat} {f:α->Int} (C:Int) (hC:0<=C):∀xs:List α,(∀x∈xs,(cnt x:Int)<=C*(1+f x))->(cntL cnt xs:Int)<=C*bulkS f xs
 |[],_=>by simp[cntL,bulkS]
 |x :: xs,h=>by
  have h1:=cntL_bulk C hC xs fun y hy=>h y (by simp[hy])
  have h2:=h x (by simp)
  have e:bulkS f (x :: xs)=(1+f x)+bulkS f xs:=by
   simp only[bulkS,List.map_cons,List.sum_cons,List.length_cons];omega
  have e2:(cntL cnt (x :: xs):Int)=cnt x+cntL cnt xs:=by simp[cntL]
  rw[e,e2,Int.mul_add]
  omega
theorem cntInt_bulk (l:List Int):(cntL cntInt l:Int)=l.length:=by
 induction l with
 |nil=>rfl
 |cons a l ih=>
  have e:cntL cntInt (a :: l)=1+cntL cntInt l:=by simp[cntL,cntInt]
  rw[e,List.length_cons];omega
theorem cntPNode_bulk (x:GPNode):(cntPNode x:Int)<=4*(1+x.bulk):=by
 have h:=cntInt_bulk x.kids
 unfold cntPNode GPNode.bulk
 have:=size_nonneg x.s
 omega
theorem cntPat_bulk (q:GPat):(cntPat q:Int)<=4*(1+q.bulk):=by
 have h:=cntL_bulk 4 (by omega) q.nodes fun x _=>cntPNode_bulk x
 unfold cntPat GPat.bulk
 omega
theorem cntNode_bulk (x:GNode):(cntNode x:Int)<=4*(1+x.bulk):=by
 have h:=cntInt_bulk x.kids
 have h2:=cntL_bulk 4 (by omega) x.pats fun x _=>cntPat_bulk x
 unfold cntNode GNode.bulk
 have:=size_nonneg x.s
 omega
theorem cntCon_bulk (x:GCon):(cntCon x:Int)<=4*(1+x.bulk):=by
 have h2:=cntL_bulk (cnt:=cntTyItem) (f:=GTyItem.bulk) 4 (by omega) x.arg.items fun x _=>by
  have:=GTyItem.bulk_nonneg x
  unfold cntTyItem;omega
 unfold cntCon GCon.bulk
 have:=size_nonneg x.name
 omega
theorem cntType_bulk (x:GType):(cntType x:Int)<=4*(1+x.bulk):=by
 have h2:=cntL_bulk 4 (by omega) x.cons fun x _=>cntCon_bulk x
 unfold cntType GType.bulk
 have:=size_nonneg x.name
 omega
theorem bulk_mem {α:Type} {f:α->Int} (hf:∀x,0<=f x) {xs:List α} {x:α} (h:x∈xs):f x<=bulkS f xs:=by
 obtain⟨i,hi,rfl⟩:=List.getElem_of_mem h
 have:=le_bulkS (f:=f) hf (List.getElem?_eq_getElem hi)
 omega
theorem progCnt_ok {p:GProgram} (h:p.bulk<=1048576):1+cntL cntType p.types+cntL cntNode p.nodes<=4611686018427387904/\LenOkType p.types/\LenOkNode p.nodes/\ProgSm p:=by
 have hb:bulkS GType.bulk p.types+bulkS GNode.bulk p.nodes<=1048576:=h
 have n1:=bulkS_nonneg GType.bulk_nonneg p.types
 have n2:=bulkS_nonneg GNode.bulk_nonneg p.nodes
 have h1:=cntL_bulk 4 (by omega) p.types fun x _=>cntType_bulk x
 have h2:=cntL_bulk 4 (by omega) p.nodes fun x _=>cntNode_bulk x
 have l1:=length_le_bulkS (f:=GType.bulk) GType.bulk_nonneg p.types
 have l2:=length_le_bulkS (f:=GNode.bulk) GNode.bulk_nonneg p.nodes
 have hty:∀t∈p.types,t.cons.length<=1048576/\∀c∈t.cons,c.arg.items.length<=1048576:=fun t ht=>by
  have b1:=bulk_mem GType.bulk_nonneg ht
  have b2:bulkS GCon.bulk t.cons<=GType.bulk t:=by unfold GType.bulk;have:=size_nonneg t.name;omega
  have b3:=length_le_bulkS (f:=GCon.bulk) GCon.bulk_nonneg t.cons
  refine⟨by omega,fun c hc=>?_⟩
  have b4:=bulk_mem GCon.bulk_nonneg hc
  have b5:bulkS GTyItem.bulk c.arg.items<=GCon.bulk c:=by unfold GCon.bulk;have:=size_nonneg c.name;omega
  have b6:=length_le_bulkS (f:=GTyItem.bulk) GTyItem.bulk_nonneg c.arg.items
  omega
 have hno:∀x∈p.nodes,x.kids.length<=1048576/\x.pats.length<=1048576/\∀q∈x.pats,q.nodes.length<=1048576/\∀y∈q.nodes,y.kids.length<=1048576:=fun x hx=>by
  have b1:=bulk_mem GNode.bulk_nonneg hx
  have b2:(x.kids.length:Int)+bulkS GPat.bulk x.pats<=GNode.bulk x:=by unfold GNode.bulk;have:=size_nonneg x.s;omega
  have b0:=bulkS_nonneg GPat.bulk_nonneg x.pats
  have b3:=length_le_bulkS (f:=GPat.bulk) GPat.bulk_nonneg x.pats
  refine⟨by omega,by omega,fun q hq=>?_⟩
  have b4:=bulk_mem GPat.bulk_nonneg hq
  have b5:bulkS GPNode.bulk q.nodes=GPat.bulk q:=rfl
  have b6:=length_le_bulkS (f:=GPNode.bulk) GPNode.bulk_nonneg q.nodes
  refine⟨by omega,fun y hy=>?_⟩
  have b7:=bulk_mem GPNode.bulk_nonneg hy
  have b8:(y.kids.length:Int)<=GPNode.bulk y:=by unfold GPNode.bulk;have:=size_nonneg y.s;omega
  omega
 refine⟨by omega,⟨by omega,fun t ht=>⟨by have:=(hty t ht).1;omega,fun c hc=>by have:=(hty t ht).2 c hc;unfold LenOkTyItem;omega⟩⟩,⟨by omega,fun x hx=>?_⟩,⟨by omega,by omega,fun t ht=>?_,fun x hx=>?_⟩⟩
 ·obtain⟨k1,k2,k3⟩:=hno x hx
  exact⟨by omega,by omega,fun q hq=>⟨by have:=(k3 q hq).1;omega,fun y hy=>by have:=(k3 q hq).2 y hy;omega⟩⟩
 ·obtain⟨k1,k2⟩:=hty t ht
  unfold typeSm
  exact⟨by omega,fun c hc=>by have:=k2 c hc;omega⟩
 ·obtain⟨k1,k2,k3⟩:=hno x hx
  exact⟨by omega,fun q hq=>by have:=(k3 q hq).1;omega⟩
def GTy.O:FootR GTy:=fun bs w r x=>∃u0:Value,r=[u0]/\x.wf/\SlO 107 3 GTyItem.O bs w u0 x.items
theorem GTy.ok:FootOk GTy.O GTy.R where
 loc:=fun⟨u0,hr,hwf,s0⟩ hs=>⟨u0,hr,hwf,s0.loc GTyItem.ok hs⟩
 lt:=fun⟨u0,hr,hwf,s0⟩=>s0.lt GTyItem.ok
 read:=fun⟨u0,hr,hwf,s0⟩ hlo=>⟨u0,hr,hwf,s0.sl GTyItem.ok hlo⟩
end Go.Proofs.YtkikkfjmggobpaaGreat
namespace Go.Proofs.YtkikkfjmggobpaaGreat
open Go.RowKit
set_option maxRecDepth 100000
set_option maxHeartbeats 16000000
set_option linter.unusedVariables false
set_option linter.unusedSimpArgs false
attribute [local go_sem] Ext.cell
theorem toTyItem_o (x:GTyItem) (r:List Value) (lo:Nat) (hl:x.bulk<=1048576) (w:World) (hx:GTyItem.R lo w r x) :
  Calls Tryz.prog 188 #[.agg r.toArray] w fun e w'=>∃r' bs,e=.returned (.agg r'.toArray)/\GTyItem.O bs w' r' x/\bs.Nodup/\(∀b∈bs,w.heap.size<=b)/\Below w.heap.size w w':=by
 obtain⟨x0,x1,x2⟩:=x
 obtain⟨rfl,⟨wx0,wx1,wx2⟩⟩:=hx
 dsimp only at *
 have z1:=size_nonneg x1
 simp only[GTyItem.bulk]at hl
 go_enter Tryz.func188,Tryz.ntmps188
 go_wp2
 refine bodyPost_ret (v:=.agg #[.int .i64 x0,.string x1,.int .i64 x2]) (by simp[results,Tryz.results188,go_sem, *]) rfl ?_
 refine⟨[.int .i64 x0,.string x1,.int .i64 x2],[],rfl,⟨rfl,rfl,⟨wx0,wx1,wx2⟩⟩,List.nodup_nil,fun b h=>(by cases h),by go_grown⟩
theorem toTyItemS_o (x:List GTyItem) (u:Value) (lo:Nat) (hlen:bulkS GTyItem.bulk x<=1048576) (w:World) (hx:Sl GTyItem.R 3 lo w u x) :
  Calls Tryz.prog 180 #[u] w fun e w'=>∃v bs,e=.returned v/\SlO 107 3 GTyItem.O bs w' v x/\bs.Nodup/\(∀b∈bs,w.heap.size<=b)/\Below w.heap.size w w':=by
 obtain⟨a1,c1,rfl,l1,m1,hh⟩:=hx
 obtain⟨n,hn⟩ : ∃n,n=x.length:=⟨_,rfl⟩
 have hlen1:x.length<=1048576:=by have:=length_le_bulkS (f:=GTyItem.bulk) GTyItem.bulk_nonneg x;omega
 have hle:∀ {k:Nat} {p:GTyItem},x[k]? = some p->GTyItem.bulk p<=1048576:=fun hp=>by have:=le_bulkS (f:=GTyItem.bulk) GTyItem.bulk_nonneg hp;omega
 clear hlen
 rw[<- hn]at l1 hlen1 ⊢
 have X1:=kH hn
 clear hn
 obtain⟨i0,hi,hi0,hi1,hi2⟩:=info_parts info_TyItemS
 have I:=kH hi;have I0:=kH hi0;have I1:=kH hi1;have I2:=kH hi2
 clear hi hi0 hi1 hi2
 go_enter Tryz.func180,Tryz.ntmps180
 go_wp2_with (at_make;refine wpList_make_full _ rfl _ _ _ rfl w.heap.size 107 i0 _ 3 Tryz.underlying31 I.out I0.out I1.out _ _ _ _ n rfl rfl rfl rfl (by rw[I2.out];omega) (by unfold maxLen;omega) (Nat.le_refl _) ?_;intro w1 hO hgw)
 have hb1:Below w.heap.size w w1:=(Below.refl w.heap.size w).grown (row:=none) hgw (Nat.le_refl _) (by simp)
 have hs1:w.heap.size<w1.heap.size:=(own_base hO _ rfl).2
 have O1:FillO 107 3 GTyItem.O w.heap.size w1 w.heap.size n 0 [] x:=FillO.made hO x
 replace O1:=kH O1
 clear hO hgw
 go_loopw [4] (fun i wr=>∃ (k:Nat) (ps:List (List Nat)),k<=n/\i=.int .i64 k/\Below w.heap.size w wr/\w.heap.size+1<=wr.heap.size/\Hid (FillO 107 3 GTyItem.O w.heap.size wr w.heap.size n k ps x)/\Hid (ps.flatten.Nodup)/\Hid (∀b∈ps.flatten,w.heap.size+1<=b/\b<wr.heap.size)) (fun i _=>n-(intOf i).toNat)
 case atStart=>exact⟨0,[],by omega,rfl,hb1,by omega,O1,List.nodup_nil,fun b h=>by cases h⟩
 case round=>
  clear hs1 hb1 O1
  obtain⟨k,ps,hk,rfl,hw,hz,hO,hN,hL⟩:=hrel
  by_cases hlt:k<n
  ·obtain⟨b1,o1,p,s1,_,rfl,P1,q1,r1⟩:=(hh.below GTyItem.good hw).get X1 hlt
   have Q1:=q1
   obtain⟨rfl,_⟩:=q1
   have R1:wr.cell? ⟨b1,o1+k*3,none⟩=some (.int .i64 p.var)/\wr.cell? ⟨b1,o1+k*3+1,none⟩=some (.string p.name)/\wr.cell? ⟨b1,o1+k*3+2,none⟩=some (.int .i64 p.arity):=⟨by simpa using r1 0 _ rfl,by simpa using r1 1 _ rfl,by simpa using r1 2 _ rfl⟩
   clear r1
   go_wp2_with (go_at_call 188;refine(toTyItem_o p _ _ (hle P1.out) _ Q1).mono ?_;rintro e w2 ⟨r2,p2,rfl,q3,hnd2,hfr2,hb2⟩;have Q3:=kH q3;obtain⟨hbs0,hr3,hwf0⟩:=q3;obtain rfl:r2=[.int .i64 p.var,.string p.name,.int .i64 p.arity]:=hr3;have hA2:=((hO.out.below GTyItem.ok hb2).arr (by omega)).2.2;have hO2:=kH (hO.out.below GTyItem.ok hb2);have hw2:=hw.trans (hb2.mono hw.size);have hz2:=hb2.size;have hl2:=GTyItem.ok.lt Q3.out;replace hl2:=kH hl2;replace hfr2:=kH hfr2;replace hnd2:=kH hnd2;clear hb2 hw hO R1;obtain⟨d0,e0,f0⟩:=hA2 (k*3) (by omega);obtain⟨d1,e1,f1⟩:=hA2 (k*3+1) (by omega);obtain⟨d2,e2,f2⟩:=hA2 (k*3+2) (by omega))
   have hl2' : ∀b∈(p2:List Nat),b<w2.heap.size:=hl2.out
   have hf2' : ∀b∈(p2:List Nat),wr.heap.size<=b:=hfr2.out
   go_roundw
   case rel=>exact⟨k+1,ps ++ [p2],by omega,by go_num,hw2.trans (below_storeRow w.heap.size [.int .i64 p.var,.string p.name,.int .i64 p.arity] w2 (k*3)),Nat.le_trans hz (Nat.le_trans hz2 (Nat.le_of_eq (size_storeRow w.heap.size [.int .i64 p.var,.string p.name,.int .i64 p.arity] w2 (k*3)).symm)),
    (hO2.out.step GTyItem.ok hlt (off:=k*3) (r:=[.int .i64 p.var,.string p.name,.int .i64 p.arity]) (by omega) P1.out rfl Q3.out (fun h=>by have:=hL.out _ h;omega) (fun h=>by have:=hf2' _ h;omega)),
    by show(ps ++ [p2]).flatten.Nodup;rw[List.flatten_append,List.flatten_singleton];exact List.nodup_append.2 ⟨hN.out,hnd2.out,fun b h b2 h2 e=>by subst e;have:=hL.out _ h;have:=hf2' _ h2;omega⟩,
    fun b h=>by
     rw[List.flatten_append,List.flatten_singleton]at h
     rcases List.mem_append.1 h with h|h
     ·have:=hL.out _ h;exact⟨this.1,Nat.lt_of_lt_of_le this.2 (Nat.le_trans hz2 (Nat.le_of_eq (size_storeRow w.heap.size [.int .i64 p.var,.string p.name,.int .i64 p.arity] w2 (k*3)).symm))⟩
     ·have h1:=hf2' _ h;have h2:=hl2' _ h;exact⟨by omega,Nat.lt_of_lt_of_le h2 (Nat.le_of_eq (size_storeRow w.heap.size [.int .i64 p.var,.string p.name,.int .i64 p.arity] w2 (k*3)).symm)⟩⟩
   case measure=>simp[intOf];omega
  ·go_wp2
   go_returns
   obtain rfl:k=n:=by omega
   exact⟨_,_,rfl,(hO.out.full X1.out).slO,List.nodup_cons.2 ⟨fun h=>by have:=(hL.out _ h).1;dsimp only at this;omega,hN.out⟩,fun b h=>by
    rcases List.mem_cons.1 h with h|h
    ·dsimp only at h;omega
    ·have:=(hL.out _ h).1;omega,hw⟩
theorem toTy_o (x:GTy) (r:List Value) (lo:Nat) (hl:x.bulk<=1048576) (w:World) (hx:GTy.R lo w r x) :
  Calls Tryz.prog 167 #[.agg r.toArray] w fun e w'=>∃r' bs,e=.returned (.agg r'.toArray)/\GTy.O bs w' r' x/\bs.Nodup/\(∀b∈bs,w.heap.size<=b)/\Below w.heap.size w w':=by
 obtain⟨x0⟩:=x
 obtain⟨u0,rfl,_,a0⟩:=hx
 dsimp only at *
 have z0:=bulkS_nonneg GTyItem.bulk_nonneg x0
 simp only[GTy.bulk]at hl
 go_enter Tryz.func167,Tryz.ntmps167
 go_wp2_with (first|(go_at_call 180;((with_reducible refine(toTyItemS_o x0 u0 lo ?_ _ ?_).mono ?_);omega;exact a0.below GTyItem.good (by go_grown);rintro e w1 ⟨v0,p0,rfl,c0,d0,fr0,hb⟩;have hf0:∀b∈p0,w.heap.size+3<=b:=(fun b h=>Nat.le_trans (by(try simp only[World.size_alloc,World.size_setCell,World.size_drew]);omega) (fr0 b h));obtain⟨av0,cv0,rfl⟩:=c0.form;clear fr0;have hw:Below w.heap.size w w1:=Below.trans (by go_grown) (hb.mono (by go_grown));obtain⟨hc,hf⟩:=bcell hb;have hz:=hw.size;have hz1:=hb.size;have hs0:w.heap.size<w1.heap.size:=(by have h:=hz1;(try simp only[World.size_alloc,World.size_setCell,World.size_drew]at h);omega);have hs1:w.heap.size+1<w1.heap.size:=(by have h:=hz1;(try simp only[World.size_alloc,World.size_setCell,World.size_drew]at h);omega);have hs2:w.heap.size+1+1<w1.heap.size:=(by have h:=hz1;(try simp only[World.size_alloc,World.size_setCell,World.size_drew]at h);omega);clear hb)))
 refine bodyPost_ret (v:=.agg #[.slice av0 x0.length cv0]) (by simp[results,Tryz.results167,go_sem, *]) rfl ?_
 refine⟨[.slice av0 x0.length cv0],p0,rfl,⟨_,rfl,trivial,(c0.kept GTyItem.ok (S:=fun b=>b<w.heap.size+3) (by repeat' (first|with_reducible exact Kept.refl _ _|with_reducible refine Kept.set ?_ ?_ _|(dsimp only;omega))) (fun b h hs=>by have:=hf0 b h;omega))⟩,d0,fun b h=>(by have:=hf0 b h;omega),by go_grown⟩
theorem toCon_o (x:GCon) (r:List Value) (lo:Nat) (hl:x.bulk<=1048576) (w:World) (hx:GCon.R lo w r x) :
  Calls Tryz.prog 139 #[.agg r.toArray] w fun e w'=>∃r' bs,e=.returned (.agg r'.toArray)/\GCon.O bs w' r' x/\bs.Nodup/\(∀b∈bs,w.heap.size<=b)/\Below w.heap.size w w':=by
 obtain⟨x0,x1,⟨x2⟩⟩:=x
 obtain⟨u0,rfl,wx0,a0⟩:=hx
 dsimp only at *
 have z0:=size_nonneg x0
 have z2:=bulkS_nonneg GTyItem.bulk_nonneg x2
 simp only[GCon.bulk]at hl
 try simp only[GTy.bulk]at hl
 go_enter Tryz.func139,Tryz.ntmps139
 go_wp2_with (first|(go_at_call 167;((with_reducible refine(toTy_o ⟨x2⟩ [u0] lo ?_ _ ?_).mono ?_);(simp only[GTy.bulk];omega);exact⟨_,rfl,trivial,a0.below GTyItem.good (by go_grown)⟩;rintro e w1 ⟨r1,p0,rfl,⟨v0,rfl,-,c0⟩,d0,fr0,hb⟩;have hf0:∀b∈p0,w.heap.size+3<=b:=(fun b h=>Nat.le_trans (by(try simp only[World.size_alloc,World.size_setCell,World.size_drew]);omega) (fr0 b h));obtain⟨av0,cv0,rfl⟩:=c0.form;clear fr0;have hw:Below w.heap.size w w1:=Below.trans (by go_grown) (hb.mono (by go_grown));obtain⟨hc,hf⟩:=bcell hb;have hz:=hw.size;have hz1:=hb.size;have hs0:w.heap.size<w1.heap.size:=(by have h:=hz1;(try simp only[World.size_alloc,World.size_setCell,World.size_drew]at h);omega);have hs1:w.heap.size+1<w1.heap.size:=(by have h:=hz1;(try simp only[World.size_alloc,World.size_setCell,World.size_drew]at h);omega);have hs2:w.heap.size+1+1<w1.heap.size:=(by have h:=hz1;(try simp only[World.size_alloc,World.size_setCell,World.size_drew]at h);omega);clear hb)))
 refine bodyPost_ret (v:=.agg #[.string x0,.bool x1,.slice av0 x2.length cv0]) (by simp[results,Tryz.results139,go_sem, *]) rfl ?_
 refine⟨[.string x0,.bool x1,.slice av0 x2.length cv0],p0,rfl,⟨_,rfl,wx0,(c0.kept GTyItem.ok (S:=fun b=>b<w.heap.size+3) (by repeat' (first|with_reducible exact Kept.refl _ _|with_reducible refine Kept.set ?_ ?_ _|(dsimp only;omega))) (fun b h hs=>by have:=hf0 b h;omega))⟩,d0,fun b h=>(by have:=hf0 b h;omega),by go_grown⟩
theorem toConS_o (x:List GCon) (u:Value) (lo:Nat) (hlen:bulkS GCon.bulk x<=1048576) (w:World) (hx:Sl GCon.R 3 lo w u x) :
  Calls Tryz.prog 98 #[u] w fun e w'=>∃v bs,e=.returned v/\SlO 105 3 GCon.O bs w' v x/\bs.Nodup/\(∀b∈bs,w.heap.size<=b)/\Below w.heap.size w w':=by
 obtain⟨a1,c1,rfl,l1,m1,hh⟩:=hx
 obtain⟨n,hn⟩ : ∃n,n=x.length:=⟨_,rfl⟩
 have hlen1:x.length<=1048576:=by have:=length_le_bulkS (f:=GCon.bulk) GCon.bulk_nonneg x;omega
 have hle:∀ {k:Nat} {p:GCon},x[k]? = some p->GCon.bulk p<=1048576:=fun hp=>by have:=le_bulkS (f:=GCon.bulk) GCon.bulk_nonneg hp;omega
 clear hlen
 rw[<- hn]at l1 hlen1 ⊢
 have X1:=kH hn
 clear hn
 obtain⟨i0,hi,hi0,hi1,hi2⟩:=info_parts info_ConS
 have I:=kH hi;have I0:=kH hi0;have I1:=kH hi1;have I2:=kH hi2
 clear hi hi0 hi1 hi2
 go_enter Tryz.func98,Tryz.ntmps98
 go_wp2_with (at_make;refine wpList_make_full _ rfl _ _ _ rfl w.heap.size 105 i0 _ 3 Tryz.underlying99 I.out I0.out I1.out _ _ _ _ n rfl rfl rfl rfl (by rw[I2.out];omega) (by unfold maxLen;omega) (Nat.le_refl _) ?_;intro w1 hO hgw)
 have hb1:Below w.heap.size w w1:=(Below.refl w.heap.size w).grown (row:=none) hgw (Nat.le_refl _) (by simp)
 have hs1:w.heap.size<w1.heap.size:=(own_base hO _ rfl).2
 have O1:FillO 105 3 GCon.O w.heap.size w1 w.heap.size n 0 [] x:=FillO.made hO x
 replace O1:=kH O1
 clear hO hgw
 go_loopw [4] (fun i wr=>∃ (k:Nat) (ps:List (List Nat)),k<=n/\i=.int .i64 k/\Below w.heap.size w wr/\w.heap.size+1<=wr.heap.size/\Hid (FillO 105 3 GCon.O w.heap.size wr w.heap.size n k ps x)/\Hid (ps.flatten.Nodup)/\Hid (∀b∈ps.flatten,w.heap.size+1<=b/\b<wr.heap.size)) (fun i _=>n-(intOf i).toNat)
 case atStart=>exact⟨0,[],by omega,rfl,hb1,by omega,O1,List.nodup_nil,fun b h=>by cases h⟩
 case round=>
  clear hs1 hb1 O1
  obtain⟨k,ps,hk,rfl,hw,hz,hO,hN,hL⟩:=hrel
  by_cases hlt:k<n
  ·obtain⟨b1,o1,p,s1,_,rfl,P1,q1,r1⟩:=(hh.below GCon.good hw).get X1 hlt
   have Q1:=q1
   obtain⟨s0,rfl,_,_⟩:=q1
   have R1:wr.cell? ⟨b1,o1+k*3,none⟩=some (.string p.name)/\wr.cell? ⟨b1,o1+k*3+1,none⟩=some (.bool p.has)/\wr.cell? ⟨b1,o1+k*3+2,none⟩=some (s0):=⟨by simpa using r1 0 _ rfl,by simpa using r1 1 _ rfl,by simpa using r1 2 _ rfl⟩
   clear r1
   go_wp2_with (go_at_call 139;refine(toCon_o p _ _ (hle P1.out) _ Q1).mono ?_;rintro e w2 ⟨r2,p2,rfl,q3,hnd2,hfr2,hb2⟩;have Q3:=kH q3;obtain⟨t0,rfl,hwf0,g0⟩:=q3;obtain⟨at0,ct0,rfl⟩:=g0.form;clear g0;have hA2:=((hO.out.below GCon.ok hb2).arr (by omega)).2.2;have hO2:=kH (hO.out.below GCon.ok hb2);have hw2:=hw.trans (hb2.mono hw.size);have hz2:=hb2.size;have hl2:=GCon.ok.lt Q3.out;replace hl2:=kH hl2;replace hfr2:=kH hfr2;replace hnd2:=kH hnd2;clear hb2 hw hO R1;obtain⟨d0,e0,f0⟩:=hA2 (k*3) (by omega);obtain⟨d1,e1,f1⟩:=hA2 (k*3+1) (by omega);obtain⟨d2,e2,f2⟩:=hA2 (k*3+2) (by omega))
   have hl2' : ∀b∈(p2:List Nat),b<w2.heap.size:=hl2.out
   have hf2' : ∀b∈(p2:List Nat),wr.heap.size<=b:=hfr2.out
   go_roundw
   case rel=>exact⟨k+1,ps ++ [p2],by omega,by go_num,hw2.trans (below_storeRow w.heap.size [.string p.name,.bool p.has,.slice at0 p.arg.items.length ct0] w2 (k*3)),Nat.le_trans hz (Nat.le_trans hz2 (Nat.le_of_eq (size_storeRow w.heap.size [.string p.name,.bool p.has,.slice at0 p.arg.items.length ct0] w2 (k*3)).symm)),
    (hO2.out.step GCon.ok hlt (off:=k*3) (r:=[.string p.name,.bool p.has,.slice at0 p.arg.items.length ct0]) (by omega) P1.out rfl Q3.out (fun h=>by have:=hL.out _ h;omega) (fun h=>by have:=hf2' _ h;omega)),
    by show(ps ++ [p2]).flatten.Nodup;rw[List.flatten_append,List.flatten_singleton];exact List.nodup_append.2 ⟨hN.out,hnd2.out,fun b h b2 h2 e=>by subst e;have:=hL.out _ h;have:=hf2' _ h2;omega⟩,
    fun b h=>by
     rw[List.flatten_append,List.flatten_singleton]at h
     rcases List.mem_append.1 h with h|h
     ·have:=hL.out _ h;exact⟨this.1,Nat.lt_of_lt_of_le this.2 (Nat.le_trans hz2 (Nat.le_of_eq (size_storeRow w.heap.size [.string p.name,.bool p.has,.slice at0 p.arg.items.length ct0] w2 (k*3)).symm))⟩
     ·have h1:=hf2' _ h;have h2:=hl2' _ h;exact⟨by omega,Nat.lt_of_lt_of_le h2 (Nat.le_of_eq (size_storeRow w.heap.size [.string p.name,.bool p.has,.slice at0 p.arg.items.length ct0] w2 (k*3)).symm)⟩⟩
   case measure=>simp[intOf];omega
  ·go_wp2
   go_returns
   obtain rfl:k=n:=by omega
   exact⟨_,_,rfl,(hO.out.full X1.out).slO,List.nodup_cons.2 ⟨fun h=>by have:=(hL.out _ h).1;dsimp only at this;omega,hN.out⟩,fun b h=>by
    rcases List.mem_cons.1 h with h|h
    ·dsimp only at h;omega
    ·have:=(hL.out _ h).1;omega,hw⟩
end Go.Proofs.YtkikkfjmggobpaaGreat
