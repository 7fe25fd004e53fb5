/- Parts of the proof, merged: FoTyItem, FlatN, SubR, ExT, FoPNode, FoPat, FoIns. -/
import Derived.Test.YtkikkfjmggobpaaGreatDt5
namespace Go.Proofs.YtkikkfjmggobpaaGreat
open Go.RowKit
set_option maxRecDepth 100000
set_option maxHeartbeats 16000000
set_option linter.unusedVariables false
set_option linter.unusedSimpArgs false
attribute [local go_sem] Ext.cell
def tyRow (x:GTyItem):List Value:=[.int .i64 x.var,.string x.name,.int .i64 x.arity]
theorem flatTyItem:Flat GTyItem.R 3 tyRow GTyItem.wf:=⟨fun h=>h,fun h _ _=>⟨rfl,h⟩,fun _=>rfl,fun _ u hu=>by simp[tyRow]at hu;rcases hu with rfl|rfl|rfl<;>rfl,by decide⟩
abbrev GTyItem.O:FootR GTyItem:=FlatO tyRow GTyItem.wf
theorem GTyItem.ok:FootOk GTyItem.O GTyItem.R:=flatO_ok flatTyItem
def cntTyItem (x:GTyItem):Nat:=3
def mkTyItem (k:Nat) (x:GTyItem):GTyItem:=⟨(k:Int),markT (k+1),((k+2:Nat):Int)⟩
def LenOkTyItem (xs:List GTyItem):Prop:=xs.length<=4611686018427387904
theorem markTyItemS_c (v:Value) (bs:List Nat) (k lo:Nat) (z:Int) (hz:z=(k:Int)) (xs:List GTyItem) (w:World) (S:SlO 107 3 GTyItem.O bs w v xs) (hnd:bs.Nodup) (hlo:∀b∈bs,lo<=b) (hlw:lo<=w.heap.size) (hkn:k+cntL cntTyItem xs<=4611686018427387904) (hlN:LenOkTyItem xs) :
  Calls Tryz.prog 40 #[v,.int .i64 z] w fun e w'=>e=.returned (.int .i64 ((k+cntL cntTyItem xs:Nat):Int))/\SlO 107 3 GTyItem.O bs w' v (markL mkTyItem cntTyItem k xs)/\Kept (·∈bs) w w'/\Below lo w w':=by
 subst hz
 obtain⟨a,c,rfl⟩:=S.form
 obtain⟨n,hn⟩ : ∃n,n=xs.length:=⟨_,rfl⟩
 have hln:n<=4611686018427387904:=by rw[hn];unfold LenOkTyItem at hlN;omega
 rw[<- hn]at S ⊢
 replace hn:=kH hn;replace S:=kH S;replace hnd:=kH hnd;replace hlo:=kH hlo;replace hkn:=kH hkn;replace hlN:=kH hlN
 go_enter Tryz.func40,Tryz.ntmps40
 go_wp2_with fail
 go_loopw [1,5] (fun kk i wr=>∃m j:Nat,j<=n/\Hid (m=k+cntL cntTyItem (xs.take j))/\kk=.int .i64 m/\i=.int .i64 j/\Hid (SlO 107 3 GTyItem.O bs wr (.slice a n c) (markN mkTyItem cntTyItem k xs j))/\Below lo w wr/\Hid (Kept (·∈bs) w wr)) (fun _ i _=>n-(intOf i).toNat)
 case atStart=>exact⟨k,0,by omega,by show _=_;simp[cntL],rfl,rfl,by show SlO _ _ _ _ _ _ _;rw[markN_zero];exact S.out,Below.refl _ _,Kept.refl _ _⟩
 case round=>
  clear S
  obtain⟨m,j,hj,hm,rfl,rfl,S,hw0,hK0⟩:=hrel
  have hz0:=hw0.size
  by_cases hlt:j<n
  ·obtain⟨x,hx⟩ : ∃x,xs[j]? = some x:=⟨_,List.getElem?_eq_getElem (by have:=hn.out;omega)⟩
   have hks:=cntL_take (cnt:=cntTyItem) hx
   have hle:=cntL_le cntTyItem xs (j+1)
   have hmx:m+cntTyItem x<=4611686018427387904:=by have:=hkn.out;have:=hm.out;omega
   have hS:=S.out
   clear S
   rcases hS with⟨he,_⟩|⟨ps,⟨rows,hown,hrows⟩,hbs⟩
   ·exfalso
    have:=markN_length (mk:=mkTyItem) (cnt:=cntTyItem) k xs j
    rw[he]at this
    have:=hn.out
    simp at *
    omega
   rw[markN_length,<- hn.out]at hown
   obtain⟨g,cap,hv,-⟩:=own_cells hown (by omega)
   obtain⟨rfl,rfl⟩ : a=some ⟨g,0,none⟩/\c=cap:=by injection hv with e1 e2 e3;exact⟨e1,e3⟩
   clear hv
   obtain⟨p,r,hp,hr,hrl,ho⟩:=hrows.at (markN_get hx)
   have M0:=MidO.start hown hrows.wide (by rw[hrows.lr,markN_length,<- hn.out]) hr
   have hnd2:=hnd.out
   rw[hbs,fpO_slice,List.nodup_cons]at hnd2
   have hgp:g ∉ p:=fun h=>hnd2.1 (List.mem_flatten.2 ⟨p,List.mem_of_getElem? hp,h⟩)
   have hpn:p.Nodup:=(List.pairwise_flatten.1 hnd2.2).1 p (List.mem_of_getElem? hp)
   have hpb:∀b∈p,b∈bs:=fun b hb=>by rw[hbs,fpO_slice];exact List.mem_cons_of_mem _ (List.mem_flatten.2 ⟨p,List.mem_of_getElem? hp,hb⟩)
   have hgb:g∈bs:=by rw[hbs,fpO_slice];exact List.mem_cons_self
   have hlog:lo<=g:=hlo.out g hgb
   have hgw:=M0.lt
   obtain⟨hpe,rfl,hwf⟩:=ho
   unfold cntTyItem at hmx
   obtain⟨e0,f0⟩:=M0.cell (off:=j*3) (t:=0) (by omega) rfl
   obtain⟨e1,f1⟩:=M0.cell (off:=j*3+1) (t:=1) (by omega) rfl
   obtain⟨e2,f2⟩:=M0.cell (off:=j*3+2) (t:=2) (by omega) rfl
   clear hown
   replace hrows:=kH hrows;replace hbs:=kH hbs;replace hp:=kH hp;replace hx:=kH hx;replace hks:=kH hks;replace hle:=kH hle;replace M0:=kH M0;replace hr:=kH hr;replace hrl:=kH hrl;replace hwf:=kH hwf;replace hnd2:=kH hnd2;replace hpb:=kH hpb;replace hgp:=kH hgp;replace hgb:=kH hgb;replace hpe:=kH hpe;replace hpn:=kH hpn
   go_wp2_with fail
   refine(markText_z (m+1) _ (by omega) (by omega) _).mono ?_
   rintro e w2 ⟨rfl,hb2⟩
   have M1:=MidO.below (M0.out.set (off:=j*3) (t:=0) (by omega) (by omega) (.int .i64 (m:Int))) hb2
   have K1:=((Kept.refl (fun b=>b=g) wr).set (p:=⟨g,j*3,none⟩) rfl (.int .i64 (m:Int))).trans (by simp[World.setCell]) (Kept.below hb2)
   have B1:=(hw0.setCell (p:=⟨g,j*3,none⟩) (by dsimp only;omega) (.int .i64 (m:Int))).trans (hb2.mono (by simp[World.setCell];omega))
   have z1:=B1.size
   obtain⟨e1',f1'⟩:=M1.cell (off:=j*3+1) (t:=1) (by omega) rfl
   obtain⟨e2',f2'⟩:=M1.cell (off:=j*3+2) (t:=2) (by omega) rfl
   clear hb2 e0 e1 e2 f0 f1 f2
   replace M1:=kH M1;replace K1:=kH K1
   go_wp2_with fail
   have KF:=(K1.out.set (p:=⟨g,j*3+1,none⟩) rfl (.string (markT (m+1)))).set (p:=⟨g,j*3+2,none⟩) rfl (.int .i64 ((m:Int)+1+1))
   have MF:=(M1.out.set (off:=j*3+1) (t:=1) (by omega) (by omega) (.string (markT (m+1)))).set (off:=j*3+2) (t:=2) (by omega) (by omega) (.int .i64 ((m:Int)+1+1))
   have BF:=(B1.setCell (p:=⟨g,j*3+1,none⟩) (by dsimp only;omega) (.string (markT (m+1)))).setCell (p:=⟨g,j*3+2,none⟩) (by dsimp only;omega) (.int .i64 ((m:Int)+1+1))
   go_roundw
   case rel=>exact⟨m+3,j+1,by omega,by show _=_;rw[hks.out,hm.out];rfl,by go_num,by go_num,.inr ⟨ps,(GrowO.mark GTyItem.ok (k:=k) rfl hrows.out hx.out hp.out (hbs.out ▸ hnd.out) (r:=[.int .i64 (m:Int),.string (markT (m+1)),.int .i64 ((m:Int)+1+1)]) rfl hn.out MF.own ⟨hpe.out,by rw[<- hm.out];simp[mkTyItem,tyRow];omega,by rw[<- hm.out];exact⟨by unfold mkTyItem I64;dsimp only;omega,markT_ok (n:=m+1) (by omega),by unfold mkTyItem I64;dsimp only;omega⟩⟩ (kept_imp KF fun q h=>.inl h)),hbs.out⟩,BF,hK0.out.trans hz0 (kept_imp KF fun q h=>by subst h;exact hgb.out)⟩
   case measure=>simp[intOf];omega
  ·obtain rfl:j=n:=by omega
   have e1:=hn.out
   have h2:=S.out
   have h3:=hm.out
   rw[List.take_of_length_le (by omega)]at h3
   rw[e1,markN_all,<- e1]at h2
   replace h2:=kH h2;replace h3:=kH h3
   clear e1
   go_wp2
   go_returns
   exact⟨by rw[<- h3.out];rfl,h2.out,hK0.out,hw0⟩
theorem heldTyItemS_c (v:Value) (k lo:Nat) (z:Int) (hz:z=(k:Int)) (xs:List GTyItem) (w:World) (S:Sl GTyItem.R 3 lo w v (markL mkTyItem cntTyItem k xs)) (hkn:k+cntL cntTyItem xs<=4611686018427387904) (hlN:LenOkTyItem xs) :
  Calls Tryz.prog 41 #[v,.int .i64 z] w fun e w'=>e=.returned (.int .i64 ((k+cntL cntTyItem xs:Nat):Int))/\Below w.heap.size w w':=by
 subst hz
 obtain⟨a,c,rfl,l1,m1,hh⟩:=S
 obtain⟨n,hn⟩ : ∃n,n=xs.length:=⟨_,rfl⟩
 have X1:Hid (n=(markL mkTyItem cntTyItem k xs).length):=by show _=_;rw[markL_length];exact hn
 rw[markL_length,<- hn]at l1 ⊢
 have hln:n<=4611686018427387904:=by rw[hn];unfold LenOkTyItem at hlN;omega
 replace hn:=kH hn;replace hkn:=kH hkn;replace hh:=kH hh;replace hlN:=kH hlN
 go_enter Tryz.func41,Tryz.ntmps41
 go_wp2_with fail
 go_loopw [1,5] (fun kk i wr=>∃m j:Nat,j<=n/\Hid (m=k+cntL cntTyItem (xs.take j))/\kk=.int .i64 m/\i=.int .i64 j/\Below w.heap.size w wr) (fun _ i _=>n-(intOf i).toNat)
 case atStart=>exact⟨k,0,by omega,by show _=_;simp[cntL],rfl,rfl,Below.refl _ _⟩
 case round=>
  obtain⟨m,j,hj,hm,rfl,rfl,hw0⟩:=hrel
  have hz0:=hw0.size
  by_cases hlt:j<n
  ·obtain⟨x,hx⟩ : ∃x,xs[j]? = some x:=⟨_,List.getElem?_eq_getElem (by have:=hn.out;omega)⟩
   have hks:=cntL_take (cnt:=cntTyItem) hx
   have hle:=cntL_le cntTyItem xs (j+1)
   have hmx:m+cntTyItem x<=4611686018427387904:=by have:=hkn.out;have:=hm.out;omega
   obtain⟨b1,o1,y,s1,_,rfl,P1,q1,r1⟩:=(hh.out.below GTyItem.good hw0).get X1 hlt
   obtain rfl:mkTyItem m x=y:=by
    have h:=P1.out
    rw[markL_get hx,<- hm.out]at h
    exact Option.some.inj h
   obtain⟨rfl,-⟩:=q1
   unfold cntTyItem at hmx
   have e0:wr.cell? ⟨b1,o1+j*3,none⟩=some (.int .i64 (m:Int)):=by simpa [mkTyItem] using r1 0 _ rfl
   have e1:∀z:Ext wr,z.val.cell? ⟨b1,o1+j*3+1,none⟩=some (.string (markT (m+1))):=fun z=>cell_below z.property (by simpa [mkTyItem] using r1 1 _ rfl)
   have e2:wr.cell? ⟨b1,o1+j*3+2,none⟩=some (.int .i64 ((m:Int)+1+1)):=(r1 2 _ rfl).trans (by show some (Value.int .i64 _)=some (Value.int .i64 _);congr 2)
   clear r1 P1
   replace hx:=kH hx;replace hks:=kH hks;replace hle:=kH hle
   have ct:=fun W=>markText_z (m+1) ((m:Int)+1) (by omega) (by omega) W
   generalize markT (m+1)=st at *
   replace e2:=kH e2
   go_wp2_with fail
   refine wp_region_ext_lit (by kernel_rfl) (by kernel_rfl) ?_
   repeat (go_big_quiet_step ((go_at_call 82;exact Calls.ext (ct _))))
   refine wpQuiet_nil ?_
   rintro w1 ⟨⟨_,hb⟩,rfl⟩
   have hw1:=hw0.trans (hb.mono hz0)
   have hz1:=hw1.size
   have e4:w1.cell? ⟨b1,o1+j*3+2,none⟩=some (.int .i64 ((m:Int)+1+1)):=cell_below hb e2.out
   clear e0 e1 e2 ct hb hw0
   go_wp2_with fail
   go_roundw
   case rel=>exact⟨m+3,j+1,by omega,by show _=_;rw[hks.out,hm.out];rfl,by go_num,by go_num,hw1⟩
   case measure=>simp[intOf];omega
  ·obtain rfl:j=n:=by omega
   have h3:=hm.out
   rw[List.take_of_length_le (by have:=hn.out;omega)]at h3
   replace h3:=kH h3
   go_wp2
   go_returns
   exact⟨by rw[<- h3.out];rfl,hw0⟩
end Go.Proofs.YtkikkfjmggobpaaGreat
namespace Go.Proofs.YtkikkfjmggobpaaGreat
open Go.RowKit
set_option linter.unusedVariables false
set_option linter.unusedSimpArgs false
section
variable {α:Type} {R:Reading α} {size:Nat} {f:α->List Value} {wf:α->Prop} {P:Program} (w:World)
theorem run_append_ne (F:Flat R size f wf) (t ty:TypeId) (base:Nat) (e:TypeId) (i:TypeInfo) (z:Value) (bytes:Nat) (ht:P.underlying t=some (.slice e)) (hi:P.info? e=some i) (hz:i.zero=some z)
  (hsize:i.size=size) (hby:i.bytes=bytes) (hzs:z.cells.size=size)
  (v:Value) (n:Nat) (xs:List Value) (hown:w.ownsRow base e size v n xs)
  (lo:Nat) (u:Value) (ys:List α) (h0:0<ys.length) (hu:Sl R size lo w u ys)
  (h63:n+ys.length<=maxLen) (hbytes:(n+ys.length)*bytes<=140737488355328) (hbase:base<=w.heap.size) :
  ∃g cap w',(Builtin.append_ #[t,t] ty #[v,u]).run P w=.ok (.slice (some ⟨g,0,none⟩) (n+ys.length) cap) w'/\
   w'.ownsRow base e size (.slice (some ⟨g,0,none⟩) (n+ys.length) cap) (n+ys.length) (xs++rowsOf f ys)/\w.grownBy w' v.ownBlock/\(v.ownBlock=some g\/g=w.heap.size):=by
 obtain⟨a,c,rfl,l1,m1,hh⟩:=hu
 obtain⟨b,off,_,hbs,rfl,hrow⟩:=F.cells hh h0
 obtain⟨g,cap,w',h1,h2,h3,h4,h5⟩:=run_append_lies (P:=P) w t ty base e i z size bytes ht hi hz hsize hby hzs F.pos v n xs hown ⟨b,off,none⟩ ys.length c (rowsOf f ys) (F.length ys) (fun j u hj=>by
   have hadd:(⟨b,off,none⟩ : Addr).add j=⟨b,off+j,none⟩:=by unfold Addr.add;split<;>simp_all
   rw[hadd];exact hrow j u hj) (F.ones ys) h0 h63 hbytes hbase _ rfl
 exact⟨g,cap,w',h1,h2,h3,h4⟩
theorem wp_append_ne (F:Flat R size f wf) {o:Oper} {a:Act} {K:Act->World->Prop} {Q:Exit->Act->World->Prop} (s x:Operand) (t:TypeId)
  (ho:o.op=.call { callee:=.builtin .append,args:=#[s,x],argTypes:=#[t,t] })
  (base:Nat) (e:TypeId) (i:TypeInfo) (z:Value) (bytes:Nat) (ht:P.underlying t=some (.slice e)) (hi:P.info? e=some i) (hz:i.zero=some z)
  (hsize:i.size=size) (hby:i.bytes=bytes) (hzs:z.cells.size=size)
  (v:Value) (n:Nat) (xs:List Value) (hs:a.eval s=v) (hown:w.ownsRow base e size v n xs)
  (lo:Nat) (u:Value) (ys:List α) (hx:a.eval x=u) (h0:0<ys.length) (hu:Sl R size lo w u ys)
  (h63:n+ys.length<=maxLen) (hbytes:(n+ys.length)*bytes<=140737488355328) (hbase:base<=w.heap.size) (H:Nat) (hH:w.heap.size=H)
  (h:∀g cap w',w'.ownsRow base e size (.slice (some ⟨g,0,none⟩) (n+ys.length) cap) (n+ys.length) (xs++rowsOf f ys)->w.grownBy w' v.ownBlock->(v.ownBlock=some g\/g=H)->K (a.put o.dst (.slice (some ⟨g,0,none⟩) (n+ys.length) cap)) w'):o.wp P a w K Q:=by
 obtain⟨g,cap,w',hr,h2,h3,h4⟩:=run_append_ne (P:=P) w F t o.type base e i z bytes ht hi hz hsize hby hzs v n xs hown lo u ys h0 hu h63 hbytes hbase
 unfold Oper.wp execOp
 simp only[ho,resolve,invoke,builtin,Sem.run_bind,Sem.run_pure,Result.andThen_ok,List.map_toArray,List.map_cons,List.map_nil,hs,hx,hr]
 subst hH
 exact h g cap w' h2 h3 h4
theorem wpList_append_ne (F:Flat R size f wf) {ops:Array Oper} {rest:List Oper} {o:Oper} {a:Act} {Q:Exit->Act->World->Prop} (hgd:o.guard=none) (s x:Operand) (t:TypeId)
  (ho:o.op=.call { callee:=.builtin .append,args:=#[s,x],argTypes:=#[t,t] })
  (base:Nat) (e:TypeId) (i:TypeInfo) (z:Value) (bytes:Nat) (ht:P.underlying t=some (.slice e)) (hi:P.info? e=some i) (hz:i.zero=some z)
  (hsize:i.size=size) (hby:i.bytes=bytes) (hzs:z.cells.size=size)
  (v:Value) (n:Nat) (xs:List Value) (hs:a.eval s=v) (hown:w.ownsRow base e size v n xs)
  (lo:Nat) (u:Value) (ys:List α) (hx:a.eval x=u) (h0:0<ys.length) (hu:Sl R size lo w u ys)
  (h63:n+ys.length<=maxLen) (hbytes:(n+ys.length)*bytes<=140737488355328) (hbase:base<=w.heap.size) (H:Nat) (hH:w.heap.size=H)
  (h:∀g cap w',w'.ownsRow base e size (.slice (some ⟨g,0,none⟩) (n+ys.length) cap) (n+ys.length) (xs++rowsOf f ys)->w.grownBy w' v.ownBlock->(v.ownBlock=some g\/g=H)->wpList P ops Q rest (a.put o.dst (.slice (some ⟨g,0,none⟩) (n+ys.length) cap)) w'):wpList P ops Q (o :: rest) a w:=
 wpList_plain hgd fun _ hK=>wp_append_ne w F s x t ho base e i z bytes ht hi hz hsize hby hzs v n xs hs hown lo u ys hx h0 hu h63 hbytes hbase H hH fun g cap w' h2 h3 h4=>hK _ _ (h g cap w' h2 h3 h4)
theorem step_append_ne (F:Flat R size f wf) {ops:Array Oper} {o:Oper} {a:Act} {K:Act->World->Prop} {Q:Exit->Act->World->Prop} {E:Prop} (hgd:o.guard=none) (s x:Operand) (t:TypeId)
  (ho:o.op=.call { callee:=.builtin .append,args:=#[s,x],argTypes:=#[t,t] })
  (base:Nat) (e:TypeId) (i:TypeInfo) (z:Value) (bytes:Nat) (ht:P.underlying t=some (.slice e)) (hi:P.info? e=some i) (hz:i.zero=some z)
  (hsize:i.size=size) (hby:i.bytes=bytes) (hzs:z.cells.size=size)
  (v:Value) (n:Nat) (xs:List Value) (hs:a.eval s=v) (hown:w.ownsRow base e size v n xs)
  (lo:Nat) (u:Value) (ys:List α) (hx:a.eval x=u) (h0:0<ys.length) (hu:Sl R size lo w u ys)
  (h63:n+ys.length<=maxLen) (hbytes:(n+ys.length)*bytes<=140737488355328) (hbase:base<=w.heap.size) (H:Nat) (hH:w.heap.size=H)
  (h:∀g cap w',w'.ownsRow base e size (.slice (some ⟨g,0,none⟩) (n+ys.length) cap) (n+ys.length) (xs++rowsOf f ys)->w.grownBy w' v.ownBlock->(v.ownBlock=some g\/g=H)->K (a.put o.dst (.slice (some ⟨g,0,none⟩) (n+ys.length) cap)) w') :
  if Region.wanted o (yielded ops a.tmps)=true then Oper.wp P o a w K Q else E:=by
 have hw:Region.wanted o (yielded ops a.tmps)=true:=by simp[Region.wanted,hgd]
 rw[if_pos hw]
 exact wp_append_ne w F s x t ho base e i z bytes ht hi hz hsize hby hzs v n xs hs hown lo u ys hx h0 hu h63 hbytes hbase H hH h
end
def SubR:Reading (Int × TyT):=fun lo w r p=>∃u,r=[.int .i64 p.1,u]/\I64 p.1/\Sl GTyItem.R 3 lo w u (flatY p.2)
theorem SubR.good:Reading.Good SubR:=⟨fun⟨u,h1,h2,h3⟩ hb=>⟨u,h1,h2,h3.agree GTyItem.good hb⟩,fun⟨u,h1,h2,h3⟩ hl=>⟨u,h1,h2,h3.mono GTyItem.good hl⟩⟩
def foundS (σ:Sbs) (x:GTyItem):Option TyT:=if x.name.toList.isEmpty=true then getS σ x.var else none
def flO:Option TyT->List GTyItem
 |some t=>flatY t
 |none=>[]
theorem putX_found (σ:Sbs) (x:GTyItem):putX σ x=(match foundS σ x with
 |some t=>flatY t
 |none=>[x]):=by
 unfold putX foundS
 split<;>rfl
theorem getS_snoc:∀ (l:Sbs) (p:Int × TyT) (n:Int),getS (l ++ [p]) n=(match getS l n with
 |some t=>some t
 |none=>if p.1=n then some p.2 else none)
 |[],p,n=>by simp[getS]
 |(k,t) :: l,p,n=>by
  rw[List.cons_append]
  unfold getS
  split
  ·rfl
  ·exact getS_snoc l p n
def KeysD (σ:Sbs):Prop:=σ.Pairwise fun p q=>p.1≠q.1
theorem GoodS.keys {N:Int} {σ:Sbs} (h:GoodS N σ):KeysD σ:=h.srt.imp fun h=>by omega
theorem found_snoc_hit {σ:Sbs} {j:Nat} {p:Int × TyT} {x:GTyItem} (hk:KeysD σ) (hp:σ[j]? = some p) (hx:x.name.toList.isEmpty=true) (he:p.1=x.var):foundS (σ.take j) x=none/\foundS (σ.take (j+1)) x=some p.2:=by
 have h1:getS (σ.take j) x.var=none:=getS_none.2 fun q hq=>by
  obtain⟨i,hi,rfl⟩:=List.getElem_of_mem hq
  rw[List.length_take]at hi
  obtain⟨hj,rfl⟩:=List.getElem?_eq_some_iff.1 hp
  rw[List.getElem_take]
  have:=List.pairwise_iff_getElem.1 hk i j (by omega) hj (by omega)
  rw[<- he];exact this
 refine⟨by unfold foundS;rw[if_pos hx,h1],?_⟩
 unfold foundS
 rw[if_pos hx,List.take_add_one,hp,Option.toList_some,getS_snoc,h1,if_pos he]
theorem found_snoc_miss {σ:Sbs} {j:Nat} {p:Int × TyT} {x:GTyItem} (hp:σ[j]? = some p) (h : ¬ (x.name.toList.isEmpty=true/\p.1=x.var)):foundS (σ.take (j+1)) x=foundS (σ.take j) x:=by
 unfold foundS
 split
 ·rename_i hx
  rw[List.take_add_one,hp,Option.toList_some,getS_snoc]
  cases getS (σ.take j) x.var with
  |some t=>rfl
  |none=>dsimp only;rw[if_neg (fun e=>h ⟨hx,e⟩)]
 ·rfl
theorem getS_pre:∀ {l1:Sbs} {l2:Sbs} {n:Int} {t:TyT},getS l1 n=some t->getS (l1++l2) n=some t
 |[],_,_,_,h=>by cases h
 |(k,u) :: l1,l2,n,t,h=>by
  rw[List.cons_append]
  unfold getS at h ⊢
  split
  ·rename_i e;rw[if_pos e]at h;exact h
  ·rename_i e;rw[if_neg e]at h;exact getS_pre h
theorem found_pre {σ:Sbs} {j:Nat} {x:GTyItem} {t:TyT} (h:foundS (σ.take j) x=some t):foundS σ x=some t:=by
 unfold foundS at h ⊢
 split at h
 ·rename_i hx
  rw[if_pos hx]
  have:=getS_pre (l2:=σ.drop j) h
  rwa [List.take_append_drop]at this
 ·cases h
theorem putL_take {σ:Sbs} {l:List GTyItem} {i:Nat} {x:GTyItem} (hx:l[i]? = some x):putL σ (l.take (i+1))=putL σ (l.take i)++putX σ x:=by
 rw[take_snoc' hx,putL_append]
 congr 1
 show putX σ x ++ []=_
 rw[List.append_nil]
theorem putL_le {σ:Sbs} {l:List GTyItem} (i:Nat):(putL σ (l.take i)).length<=(putL σ l).length:=by
 have h:putL σ l=putL σ (l.take i)++putL σ (l.drop i):=by rw[<- putL_append,List.take_append_drop]
 rw[h,List.length_append];omega
abbrev OwnT (lo:Nat) (w:World) (v:Value) (l:List GTyItem):Prop:=OwnF 107 3 tyRow GTyItem.wf lo w v l
inductive ExT where
 |mk (kind at_ n:Int) (s:ByteArray) (kids:List ExT) (pats:List GPat)
def ExT.kind:ExT->Int|.mk k _ _ _ _ _=>k
def ExT.at_:ExT->Int|.mk _ a _ _ _ _=>a
def ExT.n:ExT->Int|.mk _ _ n _ _ _=>n
def ExT.s:ExT->ByteArray|.mk _ _ _ s _ _=>s
def ExT.kids:ExT->List ExT|.mk _ _ _ _ k _=>k
def ExT.pats:ExT->List GPat|.mk _ _ _ _ _ p=>p
def ExT.wf (t:ExT):Prop:=I64 t.kind/\I64 t.at_/\I64 t.n/\StrOk t.s
end Go.Proofs.YtkikkfjmggobpaaGreat
namespace Go.Proofs.YtkikkfjmggobpaaGreat
open Go.RowKit
set_option maxRecDepth 100000
set_option maxHeartbeats 16000000
set_option linter.unusedVariables false
set_option linter.unusedSimpArgs false
attribute [local go_sem] Ext.cell
def GPNode.O:FootR GPNode:=fun bs w r x=>∃u0:Value,r=[.int .i64 x.kind,.int .i64 x.n,.string x.s,u0]/\x.wf/\SlO 3 1 (FlatO intRow I64) bs w u0 x.kids
theorem GPNode.ok:FootOk GPNode.O GPNode.R where
 loc:=fun⟨u0,hr,hwf,s0⟩ hs=>⟨u0,hr,hwf,s0.loc (flatO_ok flatInt) hs⟩
 lt:=fun⟨u0,hr,hwf,s0⟩=>s0.lt (flatO_ok flatInt)
 read:=fun⟨u0,hr,hwf,s0⟩ hlo=>⟨u0,hr,hwf,s0.sl (flatO_ok flatInt) hlo⟩
def cntPNode (x:GPNode):Nat:=3+cntL cntInt x.kids
def mkPNode (k:Nat) (x:GPNode):GPNode:=⟨(k:Int),((k+1:Nat):Int),markT (k+2),markL mkInt cntInt (k+3) x.kids⟩
def LenOkPNode (xs:List GPNode):Prop:=xs.length<=4611686018427387904/\∀x∈xs,x.kids.length<=4611686018427387904
theorem markPNodeS_c (v:Value) (bs:List Nat) (k lo:Nat) (z:Int) (hz:z=(k:Int)) (xs:List GPNode) (w:World) (S:SlO 220 4 GPNode.O bs w v xs) (hnd:bs.Nodup) (hlo:∀b∈bs,lo<=b) (hlw:lo<=w.heap.size) (hkn:k+cntL cntPNode xs<=4611686018427387904) (hlN:LenOkPNode xs) :
  Calls Tryz.prog 126 #[v,.int .i64 z] w fun e w'=>e=.returned (.int .i64 ((k+cntL cntPNode xs:Nat):Int))/\SlO 220 4 GPNode.O bs w' v (markL mkPNode cntPNode k xs)/\Kept (·∈bs) w w'/\Below lo w w':=by
 subst hz
 obtain⟨a,c,rfl⟩:=S.form
 obtain⟨n,hn⟩ : ∃n,n=xs.length:=⟨_,rfl⟩
 have hln:n<=4611686018427387904:=by rw[hn];unfold LenOkPNode at hlN;omega
 rw[<- hn]at S ⊢
 replace hn:=kH hn;replace S:=kH S;replace hnd:=kH hnd;replace hlo:=kH hlo;replace hkn:=kH hkn;replace hlN:=kH hlN
 go_enter Tryz.func126,Tryz.ntmps126
 go_wp2_with fail
 go_loopw [1,5] (fun kk i wr=>∃m j:Nat,j<=n/\Hid (m=k+cntL cntPNode (xs.take j))/\kk=.int .i64 m/\i=.int .i64 j/\Hid (SlO 220 4 GPNode.O bs wr (.slice a n c) (markN mkPNode cntPNode k xs j))/\Below lo w wr/\Hid (Kept (·∈bs) w wr)) (fun _ i _=>n-(intOf i).toNat)
 case atStart=>exact⟨k,0,by omega,by show _=_;simp[cntL],rfl,rfl,by show SlO _ _ _ _ _ _ _;rw[markN_zero];exact S.out,Below.refl _ _,Kept.refl _ _⟩
 case round=>
  clear S
  obtain⟨m,j,hj,hm,rfl,rfl,S,hw0,hK0⟩:=hrel
  have hz0:=hw0.size
  by_cases hlt:j<n
  ·obtain⟨x,hx⟩ : ∃x,xs[j]? = some x:=⟨_,List.getElem?_eq_getElem (by have:=hn.out;omega)⟩
   have hks:=cntL_take (cnt:=cntPNode) hx
   have hle:=cntL_le cntPNode xs (j+1)
   have hmx:m+cntPNode x<=4611686018427387904:=by have:=hkn.out;have:=hm.out;omega
   have hS:=S.out
   clear S
   rcases hS with⟨he,_⟩|⟨ps,⟨rows,hown,hrows⟩,hbs⟩
   ·exfalso
    have:=markN_length (mk:=mkPNode) (cnt:=cntPNode) k xs j
    rw[he]at this
    have:=hn.out
    simp at *
    omega
   rw[markN_length,<- hn.out]at hown
   obtain⟨g,cap,hv,-⟩:=own_cells hown (by omega)
   obtain⟨rfl,rfl⟩ : a=some ⟨g,0,none⟩/\c=cap:=by injection hv with e1 e2 e3;exact⟨e1,e3⟩
   clear hv
   obtain⟨p,r,hp,hr,hrl,ho⟩:=hrows.at (markN_get hx)
   have M0:=MidO.start hown hrows.wide (by rw[hrows.lr,markN_length,<- hn.out]) hr
   have hnd2:=hnd.out
   rw[hbs,fpO_slice,List.nodup_cons]at hnd2
   have hgp:g ∉ p:=fun h=>hnd2.1 (List.mem_flatten.2 ⟨p,List.mem_of_getElem? hp,h⟩)
   have hpn:p.Nodup:=(List.pairwise_flatten.1 hnd2.2).1 p (List.mem_of_getElem? hp)
   have hpb:∀b∈p,b∈bs:=fun b hb=>by rw[hbs,fpO_slice];exact List.mem_cons_of_mem _ (List.mem_flatten.2 ⟨p,List.mem_of_getElem? hp,hb⟩)
   have hgb:g∈bs:=by rw[hbs,fpO_slice];exact List.mem_cons_self
   have hlog:lo<=g:=hlo.out g hgb
   have hgw:=M0.lt
   obtain⟨u0,rfl,hwf,s0⟩:=ho
   have hpe:=hwf
   have hl0:=hlN.out.2 x (List.mem_of_getElem? hx)
   replace s0:=kH s0
   unfold cntPNode at hmx
   obtain⟨e0,f0⟩:=M0.cell (off:=j*4) (t:=0) (by omega) rfl
   obtain⟨e1,f1⟩:=M0.cell (off:=j*4+1) (t:=1) (by omega) rfl
   obtain⟨e2,f2⟩:=M0.cell (off:=j*4+2) (t:=2) (by omega) rfl
   obtain⟨e3,f3⟩:=M0.cell (off:=j*4+3) (t:=3) (by omega) rfl
   clear hown
   replace hrows:=kH hrows;replace hbs:=kH hbs;replace hp:=kH hp;replace hx:=kH hx;replace hks:=kH hks;replace hle:=kH hle;replace M0:=kH M0;replace hr:=kH hr;replace hrl:=kH hrl;replace hwf:=kH hwf;replace hnd2:=kH hnd2;replace hpb:=kH hpb;replace hgp:=kH hgp;replace hgb:=kH hgb;replace hpe:=kH hpe;replace hpn:=kH hpn
   go_wp2_with fail
   refine(markText_z (m+2) _ (by omega) (by omega) _).mono ?_
   rintro e w2 ⟨rfl,hb2⟩
   have M1:=MidO.below ((M0.out.set (off:=j*4) (t:=0) (by omega) (by omega) (.int .i64 (m:Int))).set (off:=j*4+1) (t:=1) (by omega) (by omega) (.int .i64 ((m:Int)+1))) hb2
   have K1:=(((Kept.refl (fun b=>b=g) wr).set (p:=⟨g,j*4,none⟩) rfl (.int .i64 (m:Int))).set (p:=⟨g,j*4+1,none⟩) rfl (.int .i64 ((m:Int)+1))).trans (by simp[World.setCell]) (Kept.below hb2)
   have B1:=((hw0.setCell (p:=⟨g,j*4,none⟩) (by dsimp only;omega) (.int .i64 (m:Int))).setCell (p:=⟨g,j*4+1,none⟩) (by dsimp only;omega) (.int .i64 ((m:Int)+1))).trans (hb2.mono (by simp[World.setCell];omega))
   have z1:=B1.size
   have gw1:=M1.lt
   obtain⟨e2',f2'⟩:=M1.cell (off:=j*4+2) (t:=2) (by omega) rfl
   obtain⟨e3',f3'⟩:=M1.cell (off:=j*4+3) (t:=3) (by omega) rfl
   have zz:wr.heap.size<=w2.heap.size:=by have:=hb2.size;simpa [World.setCell] using this
   clear hb2 e0 e1 e2 e3 f0 f1 f2 f3
   have M2:=M1.set (off:=j*4+2) (t:=2) (by omega) (by omega) (.string (markT (m+2)))
   have K2:=K1.set (p:=⟨g,j*4+2,none⟩) rfl (.string (markT (m+2)))
   have B2:=B1.setCell (p:=⟨g,j*4+2,none⟩) (by dsimp only;omega) (.string (markT (m+2)))
   have z2:(w2.setCell ⟨g,j*4+2,none⟩ (.string (markT (m+2)))).heap.size=w2.heap.size:=by simp[World.setCell]
   replace M2:=kH M2;replace K2:=kH K2;replace B2:=kH B2;replace M1:=kH M1;replace K1:=kH K1
   go_wp2_with fail
   refine(markIntS_c u0 p (m+3) lo _ (by omega) x.kids _ (s0.out.kept (flatO_ok flatInt) K2.out (fun b hb h=>hgp.out (h ▸ hb))) hpn.out (fun b hb=>hlo.out b (hpb.out b hb)) (by rw[z2];omega) (by omega) hl0).mono ?_
   rintro e w3 ⟨rfl,t0,hk3,hb3⟩
   have hz3:=hb3.size
   rw[z2]at hz3
   have MF:=M2.out.kept hk3 hgp.out
   have KF:=(kept_imp (S':=fun b=>b=g\/b∈p) K2.out fun q h=>.inl h).trans (by rw[z2];exact zz) (kept_imp hk3 fun q h=>.inr h)
   have BF:=B2.out.trans hb3
   replace MF:=kH MF;replace KF:=kH KF;replace t0:=kH t0
   obtain⟨m1,hm1⟩ : ∃y,y=m+3+cntL cntInt x.kids:=⟨_,rfl⟩
   rw[<- hm1]
   replace hm1:=kH hm1
   clear hb3 hk3
   go_wp2_with fail
   go_roundw
   case rel=>exact⟨m1,j+1,by omega,by show _=_;rw[hks.out,hm1.out,hm.out];unfold cntPNode;omega,by go_num,by go_num,.inr ⟨ps,(GrowO.mark GPNode.ok (k:=k) rfl hrows.out hx.out hp.out (hbs.out ▸ hnd.out) (r:=[.int .i64 (m:Int),.int .i64 ((m:Int)+1),.string (markT (m+2)),u0]) rfl hn.out MF.out.own (by rw[<- hm.out];exact⟨u0,by simp[mkPNode],⟨by unfold mkPNode I64;dsimp only;omega,by unfold mkPNode I64;dsimp only;omega,markT_ok (n:=m+2) (by omega)⟩,t0.out⟩) KF.out),hbs.out⟩,BF,hK0.out.trans hz0 (kept_imp KF.out fun q h=>by rcases h with h|h;(subst h;exact hgb.out);exact hpb.out q h)⟩
   case measure=>simp[intOf];omega
  ·obtain rfl:j=n:=by omega
   have e1:=hn.out
   have h2:=S.out
   have h3:=hm.out
   rw[List.take_of_length_le (by omega)]at h3
   rw[e1,markN_all,<- e1]at h2
   replace h2:=kH h2;replace h3:=kH h3
   clear e1
   go_wp2
   go_returns
   exact⟨by rw[<- h3.out];rfl,h2.out,hK0.out,hw0⟩
def GPat.O:FootR GPat:=fun bs w r x=>∃u0:Value,r=[u0]/\x.wf/\SlO 220 4 GPNode.O bs w u0 x.nodes
theorem GPat.ok:FootOk GPat.O GPat.R where
 loc:=fun⟨u0,hr,hwf,s0⟩ hs=>⟨u0,hr,hwf,s0.loc GPNode.ok hs⟩
 lt:=fun⟨u0,hr,hwf,s0⟩=>s0.lt GPNode.ok
 read:=fun⟨u0,hr,hwf,s0⟩ hlo=>⟨u0,hr,hwf,s0.sl GPNode.ok hlo⟩
def cntPat (x:GPat):Nat:=cntL cntPNode x.nodes
def mkPat (k:Nat) (x:GPat):GPat:=⟨markL mkPNode cntPNode k x.nodes⟩
def LenOkPat (xs:List GPat):Prop:=xs.length<=4611686018427387904/\∀x∈xs,LenOkPNode x.nodes
theorem markPatS_c (v:Value) (bs:List Nat) (k lo:Nat) (z:Int) (hz:z=(k:Int)) (xs:List GPat) (w:World) (S:SlO 177 1 GPat.O bs w v xs) (hnd:bs.Nodup) (hlo:∀b∈bs,lo<=b) (hlw:lo<=w.heap.size) (hkn:k+cntL cntPat xs<=4611686018427387904) (hlN:LenOkPat xs) :
  Calls Tryz.prog 85 #[v,.int .i64 z] w fun e w'=>e=.returned (.int .i64 ((k+cntL cntPat xs:Nat):Int))/\SlO 177 1 GPat.O bs w' v (markL mkPat cntPat k xs)/\Kept (·∈bs) w w'/\Below lo w w':=by
 subst hz
 obtain⟨a,c,rfl⟩:=S.form
 obtain⟨n,hn⟩ : ∃n,n=xs.length:=⟨_,rfl⟩
 have hln:n<=4611686018427387904:=by rw[hn];unfold LenOkPat at hlN;omega
 rw[<- hn]at S ⊢
 replace hn:=kH hn;replace S:=kH S;replace hnd:=kH hnd;replace hlo:=kH hlo;replace hkn:=kH hkn;replace hlN:=kH hlN
 go_enter Tryz.func85,Tryz.ntmps85
 go_wp2_with fail
 go_loopw [1,5] (fun kk i wr=>∃m j:Nat,j<=n/\Hid (m=k+cntL cntPat (xs.take j))/\kk=.int .i64 m/\i=.int .i64 j/\Hid (SlO 177 1 GPat.O bs wr (.slice a n c) (markN mkPat cntPat k xs j))/\Below lo w wr/\Hid (Kept (·∈bs) w wr)) (fun _ i _=>n-(intOf i).toNat)
 case atStart=>exact⟨k,0,by omega,by show _=_;simp[cntL],rfl,rfl,by show SlO _ _ _ _ _ _ _;rw[markN_zero];exact S.out,Below.refl _ _,Kept.refl _ _⟩
 case round=>
  clear S
  obtain⟨m,j,hj,hm,rfl,rfl,S,hw0,hK0⟩:=hrel
  have hz0:=hw0.size
  by_cases hlt:j<n
  ·obtain⟨x,hx⟩ : ∃x,xs[j]? = some x:=⟨_,List.getElem?_eq_getElem (by have:=hn.out;omega)⟩
   have hks:=cntL_take (cnt:=cntPat) hx
   have hle:=cntL_le cntPat xs (j+1)
   have hmx:m+cntPat x<=4611686018427387904:=by have:=hkn.out;have:=hm.out;omega
   have hS:=S.out
   clear S
   rcases hS with⟨he,_⟩|⟨ps,⟨rows,hown,hrows⟩,hbs⟩
   ·exfalso
    have:=markN_length (mk:=mkPat) (cnt:=cntPat) k xs j
    rw[he]at this
    have:=hn.out
    simp at *
    omega
   rw[markN_length,<- hn.out]at hown
   obtain⟨g,cap,hv,-⟩:=own_cells hown (by omega)
   obtain⟨rfl,rfl⟩ : a=some ⟨g,0,none⟩/\c=cap:=by injection hv with e1 e2 e3;exact⟨e1,e3⟩
   clear hv
   obtain⟨p,r,hp,hr,hrl,ho⟩:=hrows.at (markN_get hx)
   have M0:=MidO.start hown hrows.wide (by rw[hrows.lr,markN_length,<- hn.out]) hr
   have hnd2:=hnd.out
   rw[hbs,fpO_slice,List.nodup_cons]at hnd2
   have hgp:g ∉ p:=fun h=>hnd2.1 (List.mem_flatten.2 ⟨p,List.mem_of_getElem? hp,h⟩)
   have hpn:p.Nodup:=(List.pairwise_flatten.1 hnd2.2).1 p (List.mem_of_getElem? hp)
   have hpb:∀b∈p,b∈bs:=fun b hb=>by rw[hbs,fpO_slice];exact List.mem_cons_of_mem _ (List.mem_flatten.2 ⟨p,List.mem_of_getElem? hp,hb⟩)
   have hgb:g∈bs:=by rw[hbs,fpO_slice];exact List.mem_cons_self
   have hlog:lo<=g:=hlo.out g hgb
   have hgw:=M0.lt
   obtain⟨u0,rfl,hwf,s0⟩:=ho
   have hpe:=hwf
   have hl0:=hlN.out.2 x (List.mem_of_getElem? hx)
   replace s0:=kH s0;replace hl0:=kH hl0
   unfold cntPat at hmx
   obtain⟨e0,f0⟩:=M0.cell (off:=j) (t:=0) (by omega) rfl
   clear hown
   replace hrows:=kH hrows;replace hbs:=kH hbs;replace hp:=kH hp;replace hx:=kH hx;replace hks:=kH hks;replace hle:=kH hle;replace M0:=kH M0;replace hr:=kH hr;replace hrl:=kH hrl;replace hwf:=kH hwf;replace hnd2:=kH hnd2;replace hpb:=kH hpb;replace hgp:=kH hgp;replace hgb:=kH hgb;replace hpe:=kH hpe;replace hpn:=kH hpn
   go_wp2_with fail
   refine(markPNodeS_c u0 p m lo _ rfl x.nodes _ s0.out hpn.out (fun b hb=>hlo.out b (hpb.out b hb)) (by omega) (by omega) hl0.out).mono ?_
   rintro e w3 ⟨rfl,t0,hk3,hb3⟩
   have hz3:=hb3.size
   have MF:=M0.out.kept hk3 hgp.out
   have KF:=kept_imp (S':=fun b=>b=g\/b∈p) hk3 fun q h=>.inr h
   have BF:=hw0.trans hb3
   replace MF:=kH MF;replace KF:=kH KF;replace t0:=kH t0
   obtain⟨m1,hm1⟩ : ∃y,y=m+cntL cntPNode x.nodes:=⟨_,rfl⟩
   rw[<- hm1]
   replace hm1:=kH hm1
   clear hb3 hk3 e0 f0
   go_wp2_with fail
   go_roundw
   case rel=>exact⟨m1,j+1,by omega,by show _=_;rw[hks.out,hm1.out,hm.out];unfold cntPat;omega,by go_num,by go_num,.inr ⟨ps,(GrowO.mark GPat.ok (k:=k) rfl hrows.out hx.out hp.out (hbs.out ▸ hnd.out) (r:=[u0]) rfl hn.out MF.out.own (by rw[<- hm.out];exact⟨u0,rfl,trivial,t0.out⟩) KF.out),hbs.out⟩,BF,hK0.out.trans hz0 (kept_imp KF.out fun q h=>by rcases h with h|h;(subst h;exact hgb.out);exact hpb.out q h)⟩
   case measure=>simp[intOf];omega
  ·obtain rfl:j=n:=by omega
   have e1:=hn.out
   have h2:=S.out
   have h3:=hm.out
   rw[List.take_of_length_le (by omega)]at h3
   rw[e1,markN_all,<- e1]at h2
   replace h2:=kH h2;replace h3:=kH h3
   clear e1
   go_wp2
   go_returns
   exact⟨by rw[<- h3.out];rfl,h2.out,hK0.out,hw0⟩
def insRow (x:GIns):List Value:=[.int .i64 x.op,.int .i64 x.a,.int .i64 x.b,.string x.s]
theorem flatIns:Flat GIns.R 4 insRow GIns.wf:=⟨fun h=>h,fun h _ _=>⟨rfl,h⟩,fun _=>rfl,fun _ u hu=>by simp[insRow]at hu;rcases hu with rfl|rfl|rfl|rfl<;>rfl,by decide⟩
abbrev GIns.O:FootR GIns:=FlatO insRow GIns.wf
theorem GIns.ok:FootOk GIns.O GIns.R:=flatO_ok flatIns
end Go.Proofs.YtkikkfjmggobpaaGreat
