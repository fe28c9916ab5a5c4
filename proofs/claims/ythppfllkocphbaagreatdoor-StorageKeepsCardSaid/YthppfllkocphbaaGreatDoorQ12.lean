/-
  Part 13 of the proof: lemmas about what the program computes.
-/
import Derived.Sort.KeysCollected
import Derived.Test.YthppfllkocphbaaGreatDoorQ11
namespace Go.Proofs.YthppfllkocphbaaGreatDoor
set_option linter.unusedVariables false
set_option linter.unusedSimpArgs false
set_option maxHeartbeats 25600000
set_option maxRecDepth 100000
open Tryz
section
variable{a:Nat}{l:List Nat}{s:ByteArray}{v:Bs}
theorem Z9k(h:DOp.wr a s∈Q6 l v):a∈l:=by
 induction l generalizing v with
 |nil=>cases h
 |cons b r ih=>
  rw[Q6] at h
  rcases ZjV.1 h with h|h
  ·injection h with h1 h2;rw[h1];simp
  ·exact ZjS _ (ih h)
theorem ZcN(v:Bs):(XG v).size=64:=by
 unfold XG
 rw[Z5,ZjI,List.length_replicate]
 have:(v.take 64).length<=64:=by rw[ZjO];omega
 omega
theorem Zix{n:Nat}(h:∀a∈l,a<n):∀o∈Q6 l v,o.In n:=by
 induction l generalizing v with
 |nil=>intro o ho;cases ho
 |cons b r ih=>
  intro o ho
  rw[Q6] at ho
  rcases ZjV.1 ho with rfl|ho
  ·exact⟨h b (by simp),ZcN v⟩
  ·exact ih (fun a ha=>h a (by simp[ha])) o ho
theorem Ziy:∀{v:Bs} {R:Nat->ByteArray} {i b:Nat},l.Nodup->l[i]? =some b->Zm (Q6 l v) R b=XG (v.drop (64*i)):=by
 induction l with
 |nil=>intro v R i b _ h;simp at h
 |cons a r ih=>
  intro v R i b hn h
  rw[List.nodup_cons] at hn
  rw[Q6]
  show Zm (Q6 r (v.drop 64)) (DOp.rd R (.wr a (XG v))) b=_
  match i,h with
  |0,h=>
   simp only[List.getElem?_cons_zero,ZjJ] at h
   subst h
   rw[JH (fun c s hm e=>hn.1 (by rw[<-e];exact Z9k hm))]
   simp[DOp.rd]
  |i+1,h=>
   simp only[List.getElem?_cons_succ] at h
   rw[ih hn.2 h,List.drop_drop,show 64+64*i=64*(i+1) from by omega]
theorem Ze0{R:Nat->ByteArray}:∀{v:Bs},(∀i b,l[i]? =some b->R b=XG (v.drop (64*i)))->l.length=ZH v.length->(l.flatMap fun a=>(R a).data.toList).take v.length=v:=by
 induction l with
 |nil=>
  intro v _ hl
  have:v.length=0:=by unfold ZH at hl;simp at hl;omega
  rw[List.length_eq_zero_iff.1 this];rfl
 |cons a r ih=>
  intro v h hl
  rw[ZjX]
  have h0:=h 0 a rfl
  simp only[Nat.mul_zero,List.drop_zero] at h0
  rw[h0]
  have hd:(XG v).data.toList=v.take 64++List.replicate (64- (v.take 64).length) 0:=rfl
  rw[hd]
  by_cases ae:64<=v.length
  ·have e1:(v.take 64).length=64:=by rw[ZjO];omega
   rw[e1,Nat.sub_self,List.replicate_zero,Zk7,List.take_append,e1,List.take_take,Nat.min_eq_right ae]
   have af:r.length=ZH (v.drop 64).length:=by
    rw[List.length_drop];unfold ZH at hl⊢;rw[ZjM] at hl;omega
   have:=ih (v:=v.drop 64) (fun i b hi=>by
    have:=h (i+1) b (by simpa using hi)
    rw[this,List.drop_drop,show 64+64*i=64*(i+1) from by omega]) af
   rw[List.length_drop] at this
   rw[this];exact Zk4 64 v
  ·have e1:v.take 64=v:=ZjT (by omega)
   rw[e1,ZjL,List.take_append,Nat.sub_self,List.take_zero,Zk7,Zk5]
theorem ZgR(d:Dir)(acts:List Ac):Ya d acts []=[]:=rfl
def Z7t(d:Dir)(acts:List Ac)(x:Bs×Nat):List DOp:=match d.get x.1 with
 |some e=>Q6 e.secs (acV acts x.2)
 |none=>[]
theorem Z1d(d:Dir)(acts:List Ac)(x:Bs×Nat)(f:Z1):Ya d acts (x::f)=Z7t d acts x++Ya d acts f:=by
 unfold Ya
 rw[ZjX];rfl
theorem Z69{d:Dir}{acts:List Ac}{f:Z1}(h:DOp.wr a s∈Ya d acts f):∃x∈f,∃e,d.get x.1=some e/\a∈e.secs:=by
 induction f with
 |nil=>cases h
 |cons x r ih=>
  rw[Z1d] at h
  rcases ZjU.1 h with h|h
  ·unfold Z7t at h
   split at h
   ·rename_i e he;exact⟨x,by simp,e,he,Z9k h⟩
   ·cases h
  ·obtain⟨y,hy,r⟩:=ih h;exact⟨y,by simp[hy],r⟩
theorem Ziz{n:Nat}{d:Dir}{acts:List Ac}{f:Z1}(h:∀x∈f,∀e,d.get x.1=some e->∀a∈e.secs,a<n):∀o∈Ya d acts f,o.In n:=by
 induction f with
 |nil=>intro o ho;cases ho
 |cons x r ih=>
  intro o ho
  rw[Z1d] at ho
  rcases ZjU.1 ho with ho|ho
  ·unfold Z7t at ho
   split at ho
   ·rename_i e he;exact Zix (fun a ha=>h x (by simp) e he a ha) o ho
   ·cases ho
  ·exact ih (fun y hy=>h y (by simp[hy])) o ho
theorem ZiA{d:Dir}{acts:List Ac}{f:Z1}(hs:d.Sorted)(ha:d.secs.Nodup)(hn:(f.map (·.1)).Nodup){x:Bs×Nat}(hx:x∈f){e:Ent}(he:d.get x.1=some e){i b:Nat}(hi:e.secs[i]? =some b)(R:Nat->ByteArray):
  Zm (Ya d acts f) R b=XG ((acV acts x.2).drop (64*i)):=by
 have af:b∈e.secs:=List.mem_of_getElem? hi
 induction f generalizing R with
 |nil=>cases hx
 |cons y r ih=>
  rw[ZjY,List.nodup_cons] at hn
  rw[Z1d,Q3]
  rcases ZjV.1 hx with rfl|hx
  ·rw[JH,Z7t,he]
   ·exact Ziy (Z7D ha (Dir.get_some_mem he)) hi
   ·intro a s hm e1
    obtain⟨z,hz,e2,ag,ae⟩:=Z69 hm
    subst e1
    refine Z6M ha hs (Dir.get_some_mem ag) (Dir.get_some_mem he) ?_ ae af
    rintro h1
    exact hn.1 (by rw[<-h1];exact List.mem_map_of_mem hz)
  ·exact ih hn.2 hx _
theorem Z3Z(J:Jn)(l:Bs)(hl:l.length%64=0)(h0:l≠[]):(l.take 64).length=64:=by
 have:0<l.length:=List.length_pos_iff.2 h0
 rw[ZjO];omega
theorem Z5W(J:Jn)(s:Bool)(k:Nat):∀o∈J.clean s k,o.In (2*J.half):=by
 intro o ho
 unfold Jn.clean at ho
 split at ho
 ·cases ho
 ·rw[ZjD] at ho
  subst ho
  exact⟨by unfold Jn.at_;split<;>omega,Z2y⟩
theorem Z8I(J:Jn)(s:Bool)(k:Nat):J.at_ s k<=J.half+k:=by unfold Jn.at_;split<;>omega
theorem Zei(J:Jn)(s:Bool)(k:Nat)(l:Bs)(hl:l.length%64=0)(h0:l≠[])(hk:k+l.length / 64<=J.half):∀o∈J.lay s k l,o.In (2*J.half):=by
 have h1:=Z8I J s k
 have hp:0<l.length:=List.length_pos_iff.2 h0
 intro o ho
 unfold Jn.lay at ho
 simp only[ZjU,ZjD] at ho
 rcases ho with (((ho|ho)|rfl)|ho)|rfl
 ·exact Z53 (by rw[Qh l h0];exact hl) (by rw[Qh l h0];omega) o ho
 ·exact Z5W J s _ o ho
 ·trivial
 ·exact Z53 (by rw[Z3Z J l hl h0]) (by rw[Z3Z J l hl h0];omega) o ho
 ·trivial
theorem Zdy(J:Jn)(r:Bs)(hr:Z8 r.length / 64<=J.half-J.next):∀o∈J.appendOps r,o.In (2*J.half):=by
 obtain⟨m1,m2⟩:=Jg J.epoch (J.many+1) r
 have:=WZ r.length
 exact Zei J _ _ _ m2 (WN _ _ _) (by rw[m1];omega)
theorem Zgs(J:Jn)(r:Bs)(hr:1+Z8 r.length / 64<=J.half):∀o∈J.resetOps r,o.In (2*J.half):=by
 obtain⟨m1,m2⟩:=Jg (J.epoch+1) 1 r
 have h1:=Z8I J (!J.second) 1
 have h2:=Z8I J (!J.second) 0
 have hh:=Qx (J.epoch+1)
 have ae:Zb (J.epoch+1) 0 ZI≠[]:=WN _ _ _
 intro o ho
 unfold Jn.resetOps at ho
 simp only[ZjU,ZjD] at ho
 rcases ho with ((((ho|ho)|ho)|rfl)|ho)|rfl
 ·exact Z53 m2 (by rw[m1];omega) o ho
 ·exact Z5W J _ _ o ho
 ·exact Z53 (by rw[Qh _ ae,hh]) (by rw[Qh _ ae,hh];omega) o ho
 ·trivial
 ·exact Z53 (by rw[hh]) (by rw[hh];omega) o ho
 ·trivial
theorem Z7J(half:Nat)(hh:2<=half):∀o∈Jn.format half,o.In (2*half):=by
 have h1:=Qx 1
 intro o ho
 unfold Jn.format at ho
 simp only[ZjU] at ho
 rcases ho with ho|ho
 ·exact Z5W ⟨half,false,1,0,1,false⟩ _ _ o ho
 ·exact Zei ⟨half,false,1,0,1,false⟩ false 0 (Zb 1 0 ZI) (by rw[h1]) (WN _ _ _) (by rw[h1];simp;omega) o ho
theorem Zj5{l:List DOp}{m:Nat}(h:∀o∈l,o.In m)(R:Nat->ByteArray){b:Nat}(hb:m<=b):Zm l R b=R b:=
 JH fun a s hm e=>by have:=(h _ hm).1;omega
def Rec.Ok(n half:Nat):Rec->Prop
 |.all d=>d.Ok n half/\d≠[]
 |.some l=>l≠[]/\(l.map (·.1)).Pairwise (·<·)/\∀x∈l,1<=x.1.length/\x.1.length<=220/\∀e:Ent,x.2=Option.some e->Ent.Ok n half e
structure YL(n half:Nat)(R:Nat->ByteArray)(S:Sto)(recs:List Rec):Prop where
 nn:S.n=n
 hh:S.half=half
 jhalf:S.j.half=half
 open_:S.j.closed=false
 img:Yk R S.j (recs.map Rec.enc)
 dir:recs.foldl Rec.app []=S.dir
 pre:∀k,k<=recs.length->Dir.Ok n half ((recs.take k).foldl Rec.app [])
 used:S.used=ZV n half S.dir
 small:∀r∈recs,r.enc.length<=60000
 few:∀k,k<=recs.length->((recs.take k).foldl Rec.app []).length<=10000
 recs:∀r∈recs,r.Ok n half
theorem YL.ok{n half:Nat}{R:Nat->ByteArray}{S:Sto}{recs:List Rec}(h:YL n half R S recs):S.dir.Ok n half:=by
 have:=h.pre recs.length Zk8
 rw[Zk5,h.dir] at this
 exact this
structure Z47(S:Sto)(d:Dir)(f:Z1):Prop where
 some_:(Ja (QF S.dir d f)).length<=60000
 whole:(Y5 d).length<=60000
 fits:1+Z8 (Y5 d).length / 64<=S.j.half
 ne1:QF S.dir d f≠[]
 ne2:d≠[]
 many:d.length<=10000
def Sto.recs'(S:Sto)(recs:List Rec)(d:Dir)(f:Z1):List Rec:=
 if Z8 (Ja (QF S.dir d f)).length / 64<=S.j.half-S.j.next then recs++[.some (QF S.dir d f)] else[.all d]
theorem Zhm{n half:Nat}{was now:Dir}{f:Z1}(hw:was.Ok n half)(hk:now.Ok n half)(af:QF was now f≠[]):Rec.Ok n half (.some (QF was now f)):=by
 refine⟨af,?_,?_⟩
 ·have h1:((QF was now f).map (·.1)).Sublist (was.both now).names:=Z2b _ _ fun n x h=>(Z0F h).1
  have h2:((was.both now).names).Pairwise (·<·):=by
   have:=Dir.both_sorted hw.sorted now
   unfold Dir.names
   rw[List.pairwise_map];exact this
  exact h2.sublist h1
 ·intro x hx
  unfold QF at hx
  obtain⟨m,hm,ag⟩:=List.mem_filterMap.1 hx
  obtain⟨e1,e2⟩:=Z0F ag
  subst e1
  have hb:=QC.1 hm
  rw[Dir.both_get _ hk.sorted] at hb
  refine⟨?_,?_,fun e he=>hk.get (by rw[<-e2];exact he)⟩
  all_goals
   cases hn:now.get x.1 with
   |some e=>have:=hk.name _ (Dir.get_some_mem hn);exact(by first|exact this.1|exact this.2)
   |none=>
    rw[hn] at hb
    simp only at hb
    cases ae:was.get x.1 with
    |some e=>have:=hw.name _ (Dir.get_some_mem ae);exact(by first|exact this.1|exact this.2)
    |none=>exact absurd ae hb
theorem Z7d{S:Sto}{d:Dir}{f:Z1}(hr:Z47 S d f):∀o∈S.jOps d f,o.In (2*S.j.half):=by
 unfold Sto.jOps
 split
 ·rename_i h;exact Zdy S.j _ h
 ·exact Zgs S.j _ hr.fits
section
variable{n half:Nat}{R:Nat->ByteArray}{S:Sto}{recs:List Rec}{acts:List Ac}{d:Dir}{f:Z1}
theorem Zbq(hp:Z05 n half R S.dir acts d f):∀o∈Q5 d acts f,o.In n:=by
 intro o ho
 unfold Q5 at ho
 split at ho
 ·cases ho
 ·rcases ZjU.1 ho with ho|ho
  ·refine Ziz (fun x hx e he a ha=> ?_) o ho
   obtain⟨e',ae,_,_,h2,_⟩:=hp.fresh x hx
   rw[he] at ae
   cases ae
   exact(h2 a ha).2.1
  ·rw[ZjD] at ho;subst ho;trivial
theorem Zbz{b:Nat}(hb:∀x∈f,∀e,d.get x.1=some e->b∉e.secs)(R:Nat->ByteArray):Zm (Q5 d acts f) R b=R b:=by
 refine JH fun a s hm e=> ?_
 unfold Q5 at hm
 split at hm
 ·cases hm
 ·rcases ZjU.1 hm with hm|hm
  ·obtain⟨x,hx,e2,ae,ha⟩:=Z69 hm
   subst e
   exact hb x hx e2 ae ha
  ·rw[ZjD] at hm;cases hm
theorem Z4G(R:Nat->ByteArray):Zm (Q5 d acts f) R=Zm (Ya d acts f) R:=by
 unfold Q5
 split
 ·rename_i h
  rw[List.isEmpty_iff.1 h]
 ·rw[Q3];rfl
theorem Z05.apart(hp:Z05 n half R S.dir acts d f){b:Nat}(hb:b<2*half∨b∈S.dir.secs):∀x∈f,∀e,d.get x.1=some e->b∉e.secs:=by
 intro x hx e he hm
 obtain⟨e',ae,_,_,h2,_⟩:=hp.fresh x hx
 rw[he] at ae
 cases ae
 have:=h2 b hm
 rcases hb with hb|hb
 ·omega
 ·exact this.2.2 hb
theorem YL.commit(h:YL n half R S recs)(h1:1<=half)(h2:2*half<=n)(hn:n<=8192)(hp:Z05 n half R S.dir acts d f)(hr:Z47 S d f):YL n half (Zm (S.ops acts d f) R) (S.done d f) (S.recs' recs d f):=by
 have af:Yk (Zm (Q5 d acts f) R) S.j (recs.map Rec.enc):=h.img.congr (fun b hb=>Zbz (hp.apart (Or.inl (by rw[<-h.jhalf];exact hb))) R) (by rw[h.jhalf];exact h1)
 have e0:Zm (S.ops acts d f) R=Zm (S.jOps d f) (Zm (Q5 d acts f) R):=by unfold Sto.ops;rw[Q3]
 rw[e0]
 unfold Sto.recs' Sto.done
 have ah:(S.jNew d f).half=S.j.half:=by unfold Sto.jNew;split<;>rfl
 have ag:(S.jNew d f).closed=S.j.closed:=by unfold Sto.jNew;split<;>rfl
 refine⟨h.nn,h.hh,by simp only;rw[ah];exact h.jhalf,by simp only;rw[ag];exact h.open_,?_,?_,?_,by simp only;rw[h.nn,h.hh],?_,?_,?_⟩
 ·simp only
  unfold Sto.jOps Sto.jNew
  split
  ·rename_i hf
   rw[ZjZ]
   exact af.append _ hf
  ·exact af.reset _ hr.fits
 ·simp only
  split
  ·rw[List.foldl_append,h.dir]
   exact Z5Q hn h.ok hp.ok
  ·exact Z72 (was:=[]) hp.ok.sorted
 ·split
  ·intro k hk
   rw[ZjI,List.length_singleton] at hk
   by_cases ae:k<=recs.length
   ·rw[List.take_append_of_le_length ae];exact h.pre k ae
   ·rw[ZjT (by simp;omega),List.foldl_append,h.dir]
    show Dir.Ok n half (Rec.app S.dir (.some (QF S.dir d f)))
    rw[Z5Q hn h.ok hp.ok];exact hp.ok
  ·intro k hk
   match k,hk with
   |0,_=>exact⟨List.Pairwise.nil,by simp,by simp,List.nodup_nil⟩
   |1,_=>
    show Dir.Ok n half (Rec.app [] (.all d))
    rw[Z72 hp.ok.sorted];exact hp.ok
   |k+2,hk=>simp at hk
 ·split
  ·intro r hm
   rcases ZjU.1 hm with hm|hm
   ·exact h.small r hm
   ·rw[ZjD] at hm;subst hm;exact hr.some_
  ·intro r hm
   rw[ZjD] at hm;subst hm;exact hr.whole
 ·split
  ·intro k hk
   rw[ZjI,List.length_singleton] at hk
   by_cases ae:k<=recs.length
   ·rw[List.take_append_of_le_length ae];exact h.few k ae
   ·rw[ZjT (by simp;omega),List.foldl_append,h.dir]
    show(Rec.app S.dir (.some (QF S.dir d f))).length<=10000
    rw[Z5Q hn h.ok hp.ok];exact hr.many
  ·intro k hk
   match k,hk with
   |0,_=>exact Nat.zero_le _
   |1,_=>
    show(Rec.app [] (.all d)).length<=10000
    rw[Z72 (was:=[]) hp.ok.sorted];exact hr.many
   |k+2,hk=>simp at hk
 ·split
  ·intro r hm
   rcases ZjU.1 hm with hm|hm
   ·exact h.recs r hm
   ·rw[ZjD] at hm;subst hm;exact Zhm h.ok hp.ok hr.ne1
  ·intro r hm
   rw[ZjD] at hm;subst hm;exact⟨hp.ok,hr.ne2⟩
theorem Z6O(h:YL n half R S recs)(hp:Z05 n half R S.dir acts d f)(hr:Z47 S d f):stR (Zm (S.ops acts d f) R) d=acts.foldl Ac.on (stR R S.dir):=by
 funext m
 rw[<-hp.tab m]
 have al:∀o∈S.jOps d f,o.In (2*half):=by rw[<-h.jhalf];exact Z7d hr
 have ag:∀b,2*half<=b->Zm (S.ops acts d f) R b=Zm (Q5 d acts f) R b:=fun b hb=>by
  unfold Sto.ops
  rw[Q3,Zj5 al _ hb]
 unfold stR
 cases hm:d.get m with
 |none=>
  have:f.by m=none:=by
   cases hb:f.by m with
   |none=>rfl
   |some k=>
    obtain⟨e,he,_⟩:=hp.fresh _ (Z1.mem_by hb)
    rw[hm] at he;cases he
  rw[this]
  rfl
 |some e=>
  have ah:∀b∈e.secs,2*half<=b:=fun b hb=>(Z5j hp.ok (List.mem_flatMap.2 ⟨(m,e),Dir.get_some_mem hm,hb⟩)).1
  have ae:Z0A (Zm (S.ops acts d f) R) e=Z0A (Zm (Q5 d acts f) R) e:=Z3J fun b hb=>ag b (ah b hb)
  cases hb:f.by m with
  |none=>
   simp only[Option.map_some]
   have:Z0A (Zm (Q5 d acts f) R) e=Z0A R e:=Z3J fun b ak=>Zbz (hp.apart (Or.inr (hp.old m e hm hb b ak))) R
   unfold Z4g
   rw[ae,this]
  |some k=>
   obtain⟨e',af,ai,aj,_,_⟩:=hp.fresh _ (Z1.mem_by hb)
   simp only at af ai aj
   rw[hm] at af
   cases af
   have hv:Z0A (Zm (Q5 d acts f) R) e=acV acts k:=by
    unfold Z0A
    rw[ai,Z4G]
    refine Ze0 (fun i b hi=> ?_) (by rw[<-ai];exact(hp.ok.get hm).secs)
    exact ZiA hp.ok.sorted hp.ok.apart hp.fr (Z1.mem_by hb) hm hi R
   simp only[Option.map_some]
   unfold Z4g
   rw[ae,hv,aj,if_pos rfl]
end
end
section
open Go.RowKit Go.Maps
variable{L:List Nat}{a:Option Addr}{b len n:Nat}{d:Dir}{rs:List (Nat×Nat)}{w w':World}
def Qt(l:List (Nat×Nat)):List Value:=l.flatMap fun r=>[.int .i64 (r.1:Int),.int .i64 (r.2:Int)]
theorem YE(l:List (Nat×Nat)):(Qt l).length=2*l.length:=by
 induction l with
 |nil=>rfl
 |cons x l ih=>simp only[Qt,ZjX,ZjI,ZjM,List.length_nil] at ih⊢;omega
theorem ZaX(x:Nat×Nat)(l:List (Nat×Nat)):Qt (x::l)=.int .i64 (x.1:Int):: .int .i64 (x.2:Int)::Qt l:=rfl
theorem JQ(a b:List (Nat×Nat)):Qt (a++b)=Qt a++Qt b:=by simp[Qt]
theorem Z0s(l:List (Nat×Nat))(i:Nat)(h:i<l.length):(Qt l)[2*i]? =some (.int .i64 ((l.getD i (0,0)).1:Int))/\(Qt l)[2*i+1]? =some (.int .i64 ((l.getD i (0,0)).2:Int)):=by
 induction l generalizing i with
 |nil=>simp at h
 |cons x l ih=>
  match i,h with
  |0,_=>exact⟨rfl,rfl⟩
  |i+1,h=>
   have:=ih i (by simpa using h)
   rw[ZaX]
   exact⟨by rw[show 2*(i+1)=2*i+1+1 from by omega];simpa using this.1,by rw[show 2*(i+1)+1=2*i+1+1+1 from by omega];simpa using this.2⟩
def Z48(w:World)(a:Option Addr)(len:Nat)(rs:List (Nat×Nat)):Prop:=len=rs.length/\(rs=[]∨∃g sp,a=some ⟨g,0,none⟩/\Row w g 197 (Qt rs++sp))
def Z8x(w:World)(a:Option Addr)(len cap:Nat)(rs:List (Nat×Nat)):Prop:=Z48 w a len rs/\(rs=[]->a=none/\cap=0)
def WF(w:World)(v:Value)(e:Ent):Prop:=∃a len cap,v=.agg #[.int .i64 (e.size:Int),.int .u32 (e.sum:Int),.slice a len cap]/\Z8x w a len cap e.runs
structure Zy(w:World)(b n:Nat)(d:Dir):Prop where
 map:∃fv,Zz w b n fv/\(∀k,d.get k=none->fv k=none)/\∀k e,d.get k=some e->∃v,fv k=some v/\WF w v e
theorem Z48.fr(h:Z48 w a len rs)(hf:Fr L w w')(hL:∀k,k∈L->∀l,¬Row w k 197 l):Z48 w' a len rs:=by
 obtain⟨h1,h2⟩:=h
 refine⟨h1,h2.imp id ?_⟩
 rintro⟨g,sp,ha,hr⟩
 exact⟨g,sp,ha,hr.fr hf (fun hm=>hL g hm _ hr)⟩
theorem Z8x.fr{cap:Nat}(h:Z8x w a len cap rs)(hf:Fr L w w')(hL:∀k,k∈L->∀l,¬Row w k 197 l):Z8x w' a len cap rs:=⟨h.1.fr hf hL,h.2⟩
theorem WF.fr{v:Value}{e:Ent}(h:WF w v e)(hf:Fr L w w')(hL:∀k,k∈L->∀l,¬Row w k 197 l):WF w' v e:=by
 obtain⟨a,len,cap,hv,hr⟩:=h;exact⟨a,len,cap,hv,hr.fr hf hL⟩
theorem Zy.fr(h:Zy w b n d)(hf:Fr L w w')(hb:b∉L)(hL:∀k,k∈L->∀l,¬Row w k 197 l):Zy w' b n d:=by
 obtain⟨fv,h1,h2,h3⟩:=h
 refine⟨fv,h1.fr hf hb,h2,fun k e hk=> ?_⟩
 obtain⟨v,hv,he⟩:=h3 k e hk
 exact⟨v,hv,he.fr hf hL⟩
theorem Zy.after(h:Zy w b n d)(hb:Below w.heap.size w w'):Zy w' b n d:=h.fr (Fr.of_below (L:=[]) hb) (by simp) (by simp)
def X4(n lim:Nat)(vis:List Nat):List Value:=(List.range n).map fun i=>.bool (decide (i<lim)||vis.contains i)
theorem Y1(n lim:Nat)(ae:List Nat):(X4 n lim ae).length=n:=by simp[X4]
theorem Jf(n lim:Nat)(ae:List Nat)(i:Nat)(h:i<n):(X4 n lim ae)[i]? =some (.bool (decide (i<lim)||ae.contains i)):=by simp[X4,h]
theorem Zen(n k:Nat)(ae:List Nat)(h:k<n):(X4 n k ae).set k (.bool true)=X4 n (k+1) ae:=by
 apply List.ext_getElem?
 intro i
 rw[List.getElem?_set]
 by_cases hi:i<n
 ·rw[Jf n (k+1) ae i hi]
  by_cases e:k=i
  ·subst e;rw[if_pos rfl,if_pos (by rw[Y1];exact h)];simp
  ·rw[if_neg e,Jf n k ae i hi]
   have:decide (i<k)=decide (i<k+1):=by by_cases h1:i<k<;>simp[h1]<;>omega
   rw[this]
 ·have h1:(X4 n (k+1) ae)[i]? =none:=List.getElem?_eq_none (by rw[Y1];omega)
  have h2:(X4 n k ae)[i]? =none:=List.getElem?_eq_none (by rw[Y1];omega)
  rw[h1,h2]
  split
  ·rw[if_neg (by rw[Y1];omega)]
  ·rfl
theorem Zem(n lim:Nat)(ae:List Nat)(k:Nat)(h:k<n):(X4 n lim ae).set k (.bool true)=X4 n lim (ae++[k]):=by
 apply List.ext_getElem?
 intro i
 rw[List.getElem?_set]
 by_cases hi:i<n
 ·rw[Jf n lim (ae++[k]) i hi]
  by_cases e:k=i
  ·subst e;rw[if_pos rfl,if_pos (by rw[Y1];exact h)];simp
  ·rw[if_neg e,Jf n lim ae i hi]
   have:ae.contains i=(ae++[k]).contains i:=by
    rw[Bool.eq_iff_iff];simp;intro e';exact absurd e'.symm e
   rw[this]
 ·have h1:(X4 n lim (ae++[k]))[i]? =none:=List.getElem?_eq_none (by rw[Y1];omega)
  have h2:(X4 n lim ae)[i]? =none:=List.getElem?_eq_none (by rw[Y1];omega)
  rw[h1,h2]
  split
  ·rw[if_neg (by rw[Y1];omega)]
  ·rfl
theorem ZcF(n half:Nat)(d:Dir)(ae:List Nat)(h:∀i,i∈ae↔i∈d.secs):X4 n (2*half) ae=(ZV n half d).map .bool:=by
 unfold X4 ZV
 rw[List.map_map]
 refine List.map_congr_left fun i _=> ?_
 have:ae.contains i=d.secs.contains i:=by
  rw[Bool.eq_iff_iff];simp[h i]
 simp only[Function.comp,this]
def JA(w:World)(v:Value)(used:List Bool):Prop:=∃g,v=.slice (some ⟨g,0,none⟩) used.length used.length/\Row w g 4 (used.map .bool)
theorem Z7x:(prog.info? 4).map (fun i=>(i.zero,i.size,i.bytes))=some (some (.bool false),1,1):=by kernel_rfl
theorem Z7l(i0:TypeInfo)(hi:prog.info? 4=some i0)(hz:i0.zero=some (.bool false))(hs:i0.size=1)(hb:i0.bytes=1)(n:Nat)(hn:n<=140737488355328)(W:World):
  (Instr.makeSlice 37 (.int .i64 (n:Int)) (.int .i64 (n:Int))).run prog W=.ok (.slice (some ⟨W.heap.size,0,none⟩) n n) (W.alloc (.cells (List.replicate n (Value.bool false)).toArray 4)):=by
 have h:=run_make (P:=prog) W 37 4 i0 (.bool false) underlying37 hi hz .i64 .i64 (n:Int) (n:Int) (by omega) (by omega) (by rw[hb];omega) (by omega)
 have e:madeCells (Value.bool false).cells (((n:Nat):Int).toNat*i0.size)=(List.replicate n (Value.bool false)).toArray:=by
  rw[hs,Int.toNat_natCast,Nat.mul_one]
  apply Array.ext
  ·simp[madeCells]
  ·intro i h1 h2
   simp[madeCells,Value.cells,Nat.mod_one]
 rw[e] at h
 simpa using h
theorem ZcG(n:Nat):List.replicate n (Value.bool false)=X4 n 0 []:=by
 apply List.ext_getElem?
 intro i
 by_cases hi:i<n
 ·rw[Jf n 0 [] i hi];simp[hi]
 ·rw[List.getElem?_eq_none (by simp;omega),List.getElem?_eq_none (by rw[Y1];omega)]
theorem Z3B(c a:Int)(hc:c≠0)(w:World):
  Calls prog 83 #[.int .i64 c,.int .i64 a] w fun e w'=>∃b,e=.returned (.iface 139 (.pointer (some ⟨b,0,none⟩)))/\Zu w' w.heap.size c (.iface 139 (.pointer (some ⟨b,0,none⟩)))/\Below w.heap.size w w':=by
 go_enter func83,ntmps83
 go_wp2
 go_ret
 exact⟨w.heap.size,rfl,Z8W hc Zk8 (Row.new w _ [.int .i64 c,.int .i64 a,.nilIface]),Zk9.alloc Zk8 _⟩
theorem Z3A(n:Nat)(hn:n<=1000000000)(w:World):
  Calls prog 90 #[.int .i64 n] w fun e w'=>e=.returned (.int .i64 (ZH n:Nat))/\w=w':=by
 go_enter func90,ntmps90
 go_wp2
 go_ret
 exact⟨YP (by unfold ZH;omega),rfl⟩
theorem Za1(n:Nat)(hn:n<=4294967295)(w:World):
  Calls prog 189 #[.int .i64 n] w fun e w'=>e=.returned (.string (s32 n))/\Below w.heap.size w w':=by
 go_enter func189,ntmps189
 go_wp2_with (go_at_call 125;refine(Z9t n hn _).mono ?_;rintro e w' ⟨rfl,hb⟩)
 go_ret
 exact⟨rfl,hb⟩
end
section
open Go.RowKit Go.Maps
variable{b cnt g half n nm r:Nat}{d:Dir}{e:TypeId}{fv:Bs->Option Value}{l:List Value}{todo:Bs->Bool}{vis:List Nat}{w wr:World}
theorem Yf{e':TypeId}{l':List Value}(h:Row w g e l)(h':Row w g e' l'):e=e':=by
 obtain⟨f,hg,_⟩:=h
 obtain⟨f',ae,_⟩:=h'
 rw[hg] at ae
 simp only[ZjJ,Obj.cells.injEq] at ae
 exact ae.2.1
theorem Y9(h:Row w g e l){es:Array MapEntry}{cl:Nat}(h':w.heap[g]? =some (.map es cl)):False:=by
 obtain⟨f,hg,_⟩:=h;rw[h'] at hg;cases hg
theorem Z5E(h:Row w g e l){a b c d}(h':w.heap[g]? =some (.mapIter a b c d)):False:=by
 obtain⟨f,hg,_⟩:=h;rw[h'] at hg;cases hg
structure TkS(w:World)(b r nm n half:Nat)(fv:Bs->Option Value)(d:Dir)(g:Nat)(todo:Bs->Bool)(vis:List Nat)(cnt:Nat)(wr:World):Prop where
 rg:YJ wr b r nm fv todo cnt
 used:Row wr g 4 (X4 n (2*half) vis)
 bel:Below w.heap.size w wr
 gge:w.heap.size<=g
 rge:w.heap.size<=r
theorem TkS.fr{w':World}(h:TkS w b r nm n half fv d g todo vis cnt wr)(hb:Below wr.heap.size wr w'):TkS w b r nm n half fv d g todo vis cnt w':=by
 exact⟨h.rg.after hb,h.used.after hb,h.bel.trans (hb.mono h.bel.size),h.gge,h.rge⟩
theorem TkS.mark(h:TkS w b r nm n half fv d g todo vis cnt wr)(k:Nat)(hk:k<n):TkS w b r nm n half fv d g todo (vis++[k]) cnt (wr.setCell ⟨g,k,none⟩ (.bool true)):=by
 have hc:=h.rg
 have hf:Fr [g] wr (wr.setCell ⟨g,k,none⟩ (.bool true)):=(Fr.refl _ _).setCell (Or.inl (by simp)) _
 obtain⟨es,cl,hm⟩:=hc.owns.block
 obtain⟨x1,x2,x3,x4,hi⟩:=hc.iter
 have hb:b∉[g]:=by rw[ZjD];rintro rfl;exact Y9 h.used hm
 have hr:r∉[g]:=by rw[ZjD];rintro rfl;exact Z5E h.used hi
 refine⟨hc.fr hf hb hr,?_,h.bel.setCell h.gge _,h.gge,h.rge⟩
 rw[<-Zem n _ vis k hk];exact h.used.set k _
theorem Z2M(rs:List (Nat×Nat))(h:∀r∈rs,1<=r.2):rs.length<=(rs.flatMap fun r=>List.range' r.1 r.2).length:=by
 induction rs with
 |nil=>simp
 |cons x l ih=>
  have h1:=h x (by simp)
  have h2:=ih (fun r hr=>h r (by simp[hr]))
  rw[ZjX,ZjI,List.length_range',ZjM];omega
theorem JK(rs:List (Nat×Nat))(q:Nat)(h:q<rs.length):Z9 (rs.take (q+1))=Z9 (rs.take q)++List.range' (rs.getD q (0,0)).1 (rs.getD q (0,0)).2:=by
 unfold Z9
 rw[ZjK h,ZjE,ZjF h,List.flatMap_append]
 congr 1
 simp only[ZjX,List.flatMap_nil,Zk7,Option.getD_some]
theorem Z0l(rs:List (Nat×Nat))(q:Nat):∃z,Z9 rs=Z9 (rs.take q)++z:=by
 refine⟨Z9 (rs.drop q),?_⟩
 unfold Z9
 rw[<-List.flatMap_append,Zk4]
theorem Zi8{rs:List (Nat×Nat)}(h:(Z9 rs).Nodup)(q t:Nat)(hq:q<rs.length)(ht:t<(rs.getD q (0,0)).2):(rs.getD q (0,0)).1+t∉Z9 (rs.take q)++List.range' (rs.getD q (0,0)).1 t/\(rs.getD q (0,0)).1+t∈Z9 rs:=by
 obtain⟨z,hz⟩:=Z0l rs (q+1)
 rw[JK rs q hq] at hz
 obtain⟨f,hf⟩:∃f,(rs.getD q (0,0)).1=f:=⟨_,rfl⟩
 obtain⟨m,hm⟩:∃m,(rs.getD q (0,0)).2=m:=⟨_,rfl⟩
 rw[hf,hm] at hz
 rw[hm] at ht
 rw[hf]
 rw[hz,List.nodup_append,List.nodup_append] at h
 obtain⟨⟨h1,h2,h3⟩,_,_⟩:=h
 have ae:f+t∈List.range' f m:=by rw[List.mem_range'_1];omega
 refine⟨?_,by rw[hz];simp[ZjU,ae]⟩
 rw[ZjU,not_or]
 refine⟨fun af=>h3 _ af _ ae rfl,fun ag=> ?_⟩
 rw[List.mem_range'_1] at ag;omega
theorem Z1b(B p d n:Nat)(P:Pw)(D:Dk)(L:List Nat)(s half b nm:Nat)(dir:Dir)(w:World)(h:PD B w p d n P D L)(hs0:w.cell? ⟨s,0,none⟩=some (.pointer (some ⟨d,0,none⟩)))(fm:w.cell? ⟨s,2,none⟩=some (.int .i64 half))
  (dm:Zy w b nm dir) (ew:Dir.Ok n half dir) (h2:2*half<=n):
  Calls prog 94 #[.pointer (some ⟨s,0,none⟩),.map (some b)] w fun e w'=>∃uv,e=.returned (.tuple #[uv,.bool true])/\JA w' uv (ZV n half dir)/\Below w.heap.size w w':=by
 obtain⟨i0,hi,ez,fa,fc⟩:=info_parts Z7x
 have hn:=h.ok.n2
 have cy:=fun W=>Z7l i0 hi ez fa fc n (by omega) W
 have fo:s<w.heap.size:=ZjG w _ fm
 obtain⟨fv,hm,bf,bh⟩:=dm
 obtain⟨gh,v,_,hd⟩:=h.dk
 have HK:=Zka h.ok.len
 have HD:=Zka hd
 have HM:=Zka (Zkb hm (Zkb bf bh))
 have HO:=Zka ew
 clear h hd hm bf bh ew hi ez fa fc
 go_enter func94,ntmps94
 go_wp2_with (go_at_call 138;refine(Yt p d gh v D n _ HD.out HK.out hn).mono ?_;rintro e w' ⟨rfl,rfl⟩)
 go_loopw [7,24] (fun _ kk wr=>∃k:Nat,k<=2*half/\kk=.int .i64 k/\Row wr w.heap.size 4 (X4 n k [])/\Below w.heap.size w wr) (fun _ kk _=>2*half- (intOf kk).toNat)
 case atStart=>exact⟨0,by omega,rfl,by rw[<-ZcG];exact Row.new w _ _,Zk9.alloc Zk8 _⟩
 case round=>
  obtain⟨k,hk,rfl,af,hb⟩:=hrel
  by_cases ax:k<2*half
  ·have cw:=af.free (j:=k) (by rw[Y1];omega)
   have az:=af.cell (Jf n k [] k (by omega))
   have k1:(k:Int)<(n:Int):=by omega
   have k2:k<n:=by omega
   have HR:=Zka (Zkb af hb)
   clear af hb cy
   go_wp2
   go_roundw
   case rel=>exact⟨k+1,by omega,by go_num,by rw[<-Zen n k [] (by omega)];exact HR.out.1.set k _,HR.out.2.setCell Zk8 _⟩
   case measure=>simp[intOf];omega
  ·obtain rfl:k=2*half:=by omega
   rw[show((2*half:Nat):Int)=2*(half:Int) from by omega]
   have HR:=Zka (Zkb af hb)
   have hz:=hb.size
   have ek:Zz wr b nm fv:=HM.out.1.fr (Fr.of_below (L:=[]) hb) (by simp)
   clear af hb cy
   go_wp2_with (at_range;refine Z1y _ rfl _ 155 rfl 164 underlying155 b nm fv rfl ek ?_;intro w1 cnt cz dh dt)
   have T0:TkS w b wr.heap.size nm n half fv dir w.heap.size (fun k=>(fv k).isSome) [] cnt w1:=
    ⟨cz,HR.out.1.after dh,HR.out.2.trans (dh.mono hz),Zk8,hz⟩
   have de:∀k,(fv k).isSome=true->dir.get k≠none:=fun k hk he=>by rw[HM.out.2.1 k he] at hk;cases hk
   have bj:∀i,i∈([]:List Nat)↔∃x∈dir,(fv x.1).isSome=false/\i∈x.2.secs:=fun i=>by
    constructor
    ·intro h;cases h
    ·rintro⟨x,hx,hf,_⟩
     obtain⟨u,hu,_⟩:=HM.out.2.2 x.1 x.2 (Dir.mem_get HO.out.sorted hx)
     rw[hu] at hf;cases hf
   have cn:=Zka (Zkb T0 (Zkb de bj))
   obtain⟨r,hr⟩:∃r,wr.heap.size=r:=⟨_,rfl⟩
   rw[hr] at cn⊢
   obtain⟨g,hg⟩:∃g,w.heap.size=g:=⟨_,rfl⟩
   have HG:=Zka hg
   rw[hg] at cn
   clear T0 de bj cz dh dt hr ek hz
   rw[hg]
   clear hg
   go_frame
   go_loopw [9] (fun _ wq=>∃ (todo:Bs->Bool) (vis:List Nat) (aq:Nat),TkS w b r nm n half fv dir g todo vis aq wq/\(∀k,todo k=true->dir.get k≠none)/\∀i,i∈vis↔∃x∈dir,todo x.1=false/\i∈x.2.secs) (fun _ wq=>wq.rangeLeft b r)
   case atStart=>exact⟨_,_,_,cn.out.1,cn.out.2.1,cn.out.2.2⟩
   case round=>
    obtain⟨todo,vis,aq,hS,ey,df⟩:=hrel
    have ah:=hS.rg
    have HS:=Zka (Zkb hS (Zkb ey df))
    have ae:World.rangeLeft _ b r=aq:=ah.left_eq
    have ff:=Zka ae
    clear hS ey df ae
    go_wp2_with (at_next;refine Z1x _ rfl _ rfl b r nm fv todo aq rfl ah ?_ ?_)
    ·intro b9
     have cu:JA _ (.slice (some ⟨g,0,none⟩) n n) (ZV n half dir):=⟨g,by simp[ZV],by
      rw[<-ZcF n half dir vis (fun i=>by
       rw[HS.out.2.2 i]
       unfold Dir.secs
       rw[List.mem_flatMap]
       exact⟨fun⟨x,hx,_,hi⟩=>⟨x,hx,hi⟩,fun⟨x,hx,hi⟩=>⟨x,hx,b9 _,hi⟩⟩)]
      exact HS.out.1.used⟩
     have HF:=Zka (Zkb cu HS.out.1.bel)
     clear b9 cu ah
     go_wp2
     go_ret2
     exact⟨_,rfl,HF.out.1,HF.out.2⟩
    ·intro k v w2 au fi du eh cz ax dq fy fw
     obtain⟨e,he⟩:∃e,dir.get k=some e:=by
      cases fh:dir.get k with
      |none=>exact absurd fh (HS.out.2.1 k du)
      |some e=>exact⟨e,rfl⟩
     obtain⟨v',dw,fg⟩:=HM.out.2.2 k e he
     rw[eh] at dw
     obtain rfl:=Option.some.inj dw
     obtain⟨a,len,cap,rfl,⟨hlen,bg⟩, -⟩:=fg
     have aj:=Dir.get_some_mem he
     have dc:r≠g:=by
      rintro rfl
      obtain⟨x1,x2,x3,x4,hi⟩:=ah.iter
      exact Z5E HS.out.1.used hi
     have dj:Below w.heap.size w w2:=HS.out.1.bel.trans (dq.below HS.out.1.bel.size (by simp;exact HS.out.1.rge))
     have T1:TkS w b r nm n half fv dir g (fun m=>todo m&& !decide (m=k)) vis au w2:=⟨cz,HS.out.1.used.fr dq (by simp;exact fun e=>dc e.symm),dj,HS.out.1.gge,HS.out.1.rge⟩
     have ct:∀q,q<e.runs.length->∃gr,a=some ⟨gr,0,none⟩/\∀W,Below w.heap.size w W->W.cell? ⟨gr,q*2,none⟩=some (.int .i64 ((e.runs.getD q (0,0)).1:Int))/\W.cell? ⟨gr,q*2+1,none⟩=some (.int .i64 ((e.runs.getD q (0,0)).2:Int)):=by
      intro q hq
      rcases bg with h0|⟨gr,sp,ha,af⟩
      ·rw[h0] at hq;cases hq
      ·refine⟨gr,ha,fun W hW=> ?_⟩
       have h1:=af.after hW
       obtain⟨g1,g2⟩:=Z0s e.runs q hq
       have hl:=YE e.runs
       exact⟨h1.cell (by rw[ZjH (by omega),Nat.mul_comm];exact g1),h1.cell (by rw[ZjH (by omega),Nat.mul_comm];exact g2)⟩
     have aw:Ent.Ok n half e:=HO.out.ent _ aj
     have ai:=aw.many
     have er:(Z9 e.runs).Nodup:=Z7D HO.out.apart aj
     have ee:∀i,i∈Z9 e.runs->i∉vis:=fun i hi hv=>by
      obtain⟨x,hx,hf,fu⟩:=(HS.out.2.2 i).1 hv
      refine Z6M HO.out.apart HO.out.sorted hx aj ?_ fu hi
      rintro e1
      simp only at e1
      rw[e1,du] at hf;cases hf
     have fx:e.runs.length<=100000:=by
      have:=aw.secs
      have h3:=aw.size
      have h4:e.runs.length<=e.secs.length:=Z2M e.runs (fun r hr=>(ai r hr).1)
      unfold ZH at this;omega
     have HT:=Zka (Zkb T1 (Zkb ax aj))
     have HE:=Zka (Zkb ct (Zkb ai (Zkb er ee)))
     have fp:=dj.size
     clear T1 ct ai er ee aw bg eh he dw cz dq ah du fi ax aj dj
     subst hlen
     go_wp2
     have T3:=HT.out.1.fr ((Below.refl w2.heap.size w2).alloc Zk8 (Obj.cells #[Value.int IntKind.i64 ↑e.size,Value.int IntKind.u32 ↑e.sum,Value.slice a e.runs.length cap] 164))
     have dx:=Zka T3
     clear T3
     obtain⟨ag,bu⟩:∃ag,(fun m=>todo m&& !decide (m=k))=ag:=⟨_,rfl⟩
     have dz:=Zka bu
     rw[bu] at dx HT
     clear bu
     go_loopw [40] (fun kk wi=>∃q:Nat,q<=e.runs.length/\kk=.int .i64 q/\TkS w b r nm n half fv dir g ag (vis++Z9 (e.runs.take q)) au wi) (fun kk _=>e.runs.length- (intOf kk).toNat)
     case atStart=>exact⟨0,by omega,rfl,by simpa[Z9] using dx.out⟩
     case round=>
      obtain⟨q,hq,rfl,cr⟩:=hrel
      obtain⟨wi,ft⟩:∃wi:World,wi=wr:=⟨_,rfl⟩
      subst ft
      have HQ:=Zka cr
      by_cases ax:q<e.runs.length
      ·obtain⟨gr,rfl,ct⟩:=HE.out.1 q ax
       obtain⟨c1,c2⟩:=ct _ cr.bel
       obtain⟨f,hf⟩:∃f,(e.runs.getD q (0,0)).1=f:=⟨_,rfl⟩
       obtain⟨m,hm⟩:∃m,(e.runs.getD q (0,0)).2=m:=⟨_,rfl⟩
       have eo:=HE.out.2.1 (e.runs.getD q (0,0)) (by rw[ZjE,ZjF ax];exact ZjW ax)
       have bq:=fun t ht=>Zi8 HE.out.2.2.1 q t ax ht
       have dp:=JK e.runs q ax
       rw[hf,hm] at eo bq dp
       rw[hf] at c1
       rw[hm] at c2
       have gj:=cr.bel.size
       have HN:=Zka (Zkb bq dp)
       clear bq dp ct hf hm
       obtain⟨m1,m2,m3⟩:=eo
       go_wp2
       obtain⟨x,hx⟩:∃x,wi.heap.size=x:=⟨_,rfl⟩
       have T4:=HQ.out.fr ((Below.refl wi.heap.size wi).alloc Zk8 (Obj.cells #[Value.int IntKind.i64 ↑f,Value.int IntKind.i64 ↑m] 197))
       have ak:=Row.new wi 197 [.int .i64 (f:Int),.int .i64 (m:Int)]
       rw[hx] at ak
       have dy:=Zka (Zkb T4 ak)
       have HX:=Zka hx
       rw[hx]
       clear T4 ak hx c1 c2
       go_loopw [12] (fun kk wj=>∃t:Nat,t<=m/\kk=.int .i64 ((f+t:Nat):Int)/\TkS w b r nm n half fv dir g ag (vis++(Z9 (e.runs.take q)++List.range' f t)) au wj/\Row wj x 197 [.int .i64 (f:Int),.int .i64 (m:Int)]) (fun kk _=>f+m- (intOf kk).toNat)
       case atStart=>exact⟨0,by omega,by simp,by simpa using dy.out.1,dy.out.2⟩
       case round=>
        obtain⟨t,ht,rfl,bm,cj⟩:=hrel
        have x0:=cj.cell (j:=0) rfl
        have x1:=cj.cell (j:=1) rfl
        by_cases fq:t<m
        ·obtain⟨kk,dr⟩:∃kk,f+t=kk:=⟨_,rfl⟩
         obtain⟨ay,bz⟩:=HN.out.1 t fq
         rw[dr] at ay bz⊢
         have eu:=HE.out.2.2.2 kk bz
         have cy:(decide (kk<2*half)||(vis++(Z9 (e.runs.take q)++List.range' f t)).contains kk)=false:=by
          have h1:¬kk<2*half:=by omega
          simp only[h1,decide_false,Bool.false_or]
          rw[List.contains_eq_mem]
          simp only[decide_eq_false_iff_not,ZjU,not_or] at ay⊢
          exact⟨eu,ay⟩
         have az:=bm.used.cell (Jf n (2*half) (vis++(Z9 (e.runs.take q)++List.range' f t)) kk (by omega))
         rw[cy] at az
         have cw:=bm.used.free (j:=kk) (by rw[Y1];omega)
         have k1:(kk:Int)<(n:Int):=by omega
         have k2:kk<n:=by omega
         have k3:(kk:Int)<(f:Int)+(m:Int):=by omega
         have fj:x≠g:=fun e1=>by
          have:=Yf cj (by rw[e1];exact bm.used)
          revert this;decide
         have al:=Zka (Zkb bm (Zkb cj (Zkb dr fj)))
         clear bm cj dr cy eu ay bz
         go_wp2
         go_roundw
         case rel=>
          refine⟨t+1,by omega,?_,?_,?_⟩
          ·rw[<-al.out.2.2.1];go_num
          ·have:=al.out.1.mark kk k2
           rw[ZjL,ZjL,<-al.out.2.2.1,<-List.range'_1_concat,al.out.2.2.1] at this
           exact this
          ·exact al.out.2.1.other al.out.2.2.2 _
         case measure=>have:=al.out.2.2.1;simp[intOf];omega
        ·obtain rfl:t=m:=by omega
         have k3:¬ ((f+t:Nat):Int)<(f:Int)+(t:Int):=by omega
         have al:=Zka bm
         clear bm cj
         go_wp2
         go_roundw
         case rel=>exact⟨q+1,by omega,by go_num,by rw[HN.out.2];exact al.out⟩
         case measure=>simp[intOf];omega
      ·obtain rfl:q=e.runs.length:=by omega
       have ae:=cr.rg.left_eq
       have fe:=Zka ae
       clear cr ae
       go_wp2
       go_roundw
       case rel=>
        have h5:=HQ.out
        rw[Zk5] at h5
        refine⟨ag,vis++Z9 e.runs,au,h5,?_,?_⟩
        ·intro m hm
         rw[<-dz.out] at hm
         simp only[Bool.and_eq_true] at hm
         exact HS.out.2.1 m hm.1
        ·intro i
         rw[ZjU,HS.out.2.2 i,<-dz.out]
         constructor
         ·rintro(⟨x,hx,hf,hi⟩|hi)
          ·exact⟨x,hx,by simp[hf],hi⟩
          ·exact⟨(k,e),HT.out.2.2,by simp,hi⟩
         ·rintro⟨x,hx,hf,hi⟩
          by_cases hk:x.1=k
          ·right
           have h1:=Dir.mem_get HO.out.sorted hx
           have h2:dir.get k=some e:=Dir.mem_get HO.out.sorted HT.out.2.2
           rw[hk,h2] at h1
           rw[Option.some.inj h1];exact hi
          ·left
           have ef:(todo x.1&& !decide (x.1=k))=false:=hf
           rw[decide_eq_false hk,Bool.not_false,Bool.and_true] at ef
           exact⟨x,hx,ef,hi⟩
       case measure=>rw[fe.out,ff.out];exact HT.out.2.1
end
section
open Go.RowKit Go.Maps Go.WideMaps
variable{b n:Nat}{w:World}
theorem Zz.tight{f:Bs->Option Value}(h:Zz w b n f)(l:List Bs)(hl:∀k,(f k).isSome=true->k∈l):Zz w b l.length f:=by
 obtain⟨D,⟨es,cl,hb,F,hs,rfl⟩,ht⟩:=h
 refine⟨_,⟨es,cl,hb,F,?_,rfl⟩,ht⟩
 have ae:∀p∈es.toList.map (WideElems.rg prog 9 Xm),∃k:Bs,p.1=.string k/\k∈l:=by
  intro p hp
  obtain⟨x,hx,rfl⟩:=List.mem_map.1 hp
  obtain⟨y,hy⟩:=F.reads x hx
  have hk:=WideElems.rd_key hy
  rw[WideElems.rg_of hy]
  obtain⟨s,e1,e2,e3⟩:=string_of_keyOf underlying9 hk
  refine⟨s.data.toList,e2,hl _ ?_⟩
  rw[<-(ht _).1,has_eq,List.any_eq_true]
  exact⟨y,mem_sorted.2 (List.mem_map.2 ⟨x,hx,WideElems.rg_of hy⟩),by rw[e2,Zh3];simp⟩
 have ag:=F.apart (string_law underlying9)
 obtain⟨g,hg⟩:∃g:Lit×DataW Value->Bs,g=fun p=>match p.1 with|.string k=>k|_=>[]:=⟨_,rfl⟩
 have af:∀p k,p.1=.string k->g p=k:=fun p k e=>by rw[hg];simp only[e]
 have h1:((es.toList.map (WideElems.rg prog 9 Xm)).map g).Nodup:=by
  unfold List.Nodup
  rw[List.pairwise_map]
  refine List.Pairwise.imp_of_mem (fun{p q} hp hq ah=> ?_) ag
  obtain⟨k1,e1,_⟩:=ae p hp
  obtain⟨k2,e2,_⟩:=ae q hq
  rw[af p k1 e1,af q k2 e2]
  rintro rfl
  exact ah (e1.trans e2.symm)
 have h2:∀k,k∈(es.toList.map (WideElems.rg prog 9 Xm)).map g->k∈l:=by
  intro k hk
  obtain⟨p,hp,rfl⟩:=List.mem_map.1 hk
  obtain⟨k1,e1,e2⟩:=ae p hp
  rw[af p k1 e1];exact e2
 have:=h1.length_le_of_subset h2
 simpa using this
theorem Zy.tight{d:Dir}(h:Zy w b n d):Zy w b d.length d:=by
 obtain⟨fv,h1,h2,h3⟩:=h
 refine⟨fv,?_,h2,h3⟩
 have:=h1.tight d.names (fun k hk=>QC.2 (fun e=>by rw[h2 k e] at hk;cases hk))
 rwa[show d.names.length=d.length from ZjN ..] at this
def AcV(a:Ac):Value:=.agg #[.int .i64 (a.kind:Int),.string (str a.name),.string (str a.to),.string (str a.value)]
theorem Z13(s:ByteArray)(hs:s.size<=1000000)(h1:1<=s.size)(h2:s.size<=220)(w:World):
  Calls prog 128 #[.string s] w fun e w'=>e=.returned (.bool true)/\w=w':=by
 have d1:decide ((s.size:Int)≥1)=true:=by simp;omega
 have d2:decide ((s.size:Int)<=220)=true:=by simp;omega
 go_enter func128,ntmps128
 go_wp2
 go_ret
 exact⟨rfl,rfl⟩
theorem Zie(N V:ByteArray)(h1:1<=N.size)(h2:N.size<=220)(hV:V.size<=12000)(w:World):
  Calls prog 84 #[.agg #[.int .i64 1,.string N,.string ⟨#[]⟩,.string V]] w fun e w'=>e=.returned (.bool false)/\Below w.heap.size w w':=by
 go_enter func84,ntmps84
 go_wp2_with (go_at_call 128;refine(Z13 N (by omega) h1 h2 _).mono ?_;rintro e w' ⟨rfl,rfl⟩)
 go_ret
 refine⟨?_,Zk9.alloc Zk8 _⟩
 rw[decide_eq_false (by omega)];rfl
theorem Zif(N:ByteArray)(h1:1<=N.size)(h2:N.size<=220)(w:World):
  Calls prog 84 #[.agg #[.int .i64 2,.string N,.string ⟨#[]⟩,.string ⟨#[]⟩]] w fun e w'=>e=.returned (.bool false)/\Below w.heap.size w w':=by
 go_enter func84,ntmps84
 go_wp2_with (go_at_call 128;refine(Z13 N (by omega) h1 h2 _).mono ?_;rintro e w' ⟨rfl,rfl⟩)
 go_ret
 exact⟨rfl,Zk9.alloc Zk8 _⟩
theorem Zig(N T:ByteArray)(h1:1<=N.size)(h2:N.size<=220)(t1:1<=T.size)(t2:T.size<=220)(w:World):
  Calls prog 84 #[.agg #[.int .i64 3,.string N,.string T,.string ⟨#[]⟩]] w fun e w'=>e=.returned (.bool false)/\Below w.heap.size w w':=by
 have HT:=Zka True.intro
 go_enter func84,ntmps84
 go_wp2_with (first
  |(go_at_call 128;clear HT;refine(Z13 T (by omega) t1 t2 _).mono ?_;rintro e w' ⟨rfl,rfl⟩)
  |(go_at_call 128;refine(Z13 N (by omega) h1 h2 _).mono ?_;rintro e w' ⟨rfl,rfl⟩))
 go_ret
 exact⟨rfl,Zk9.alloc Zk8 _⟩
theorem Zde(a:Ac)(h:a.wrong=false)(w:World):
  Calls prog 84 #[AcV a] w fun e w'=>e=.returned (.bool false)/\Below w.heap.size w w':=by
 obtain⟨kind,name,tt,value⟩:=a
 unfold Ac.wrong at h
 simp only at h
 split at h
 ·rename_i e
  subst e
  simp at h
  obtain⟨⟨⟨h1,h2⟩,rfl⟩,h3,h4⟩:=h
  exact Zig (str name) (str tt) (by rw[Z5];omega) (by rw[Z5];omega) (by rw[Z5];omega) (by rw[Z5];omega) w
 ·split at h
  ·rename_i _ e
   subst e
   simp at h
   obtain⟨⟨rfl,h1,h2⟩,rfl⟩:=h
   exact Zif (str name) (by rw[Z5];omega) (by rw[Z5];omega) w
  ·split at h
   ·rename_i _ _ e
    subst e
    simp at h
    obtain⟨⟨⟨h1,h2⟩,rfl⟩,h3⟩:=h
    exact Zie (str name) (str value) (by rw[Z5];omega) (by rw[Z5];omega) (by rw[Z5];omega) w
   ·cases h
def Z2c(used:List Bool)(k:Nat):Nat:=((List.range k).filter fun i=> !used.getD i true).length
theorem Zcr(used:List Bool)(k:Nat):Z2c used (k+1)=Z2c used k+if used.getD k true=false then 1 else 0:=by
 unfold Z2c
 rw[List.range_succ,List.filter_append,ZjI]
 congr 1
 cases h:used.getD k true
 ·rw[List.filter_cons,h];rfl
 ·rw[List.filter_cons,h];rfl
theorem Zfw(used:List Bool)(k:Nat):Z2c used k<=k:=by
 unfold Z2c;exact Zk1 (List.length_filter_le _ _) (by simp)
theorem ZeH(s:Nat)(uv:Value)(used:List Bool)(w:World)(h4:w.cell? ⟨s,4,none⟩=some uv)(h5:w.cell? ⟨s,5,none⟩=some (.bool false))(hu:JA w uv used)(hn:used.length<=100000):
  Calls prog 88 #[.pointer (some ⟨s,0,none⟩)] w fun e w'=>e=.returned (.int .i64 ((Wr used).length:Nat))/\w=w':=by
 obtain⟨g,rfl,ae⟩:=hu
 have af:∀k,k<used.length->w.cell? ⟨g,k,none⟩=some (.bool (used.getD k true)):=fun k hk=>ae.cell (by
  rw[List.getElem?_map,ZjF hk,ZjE,ZjF hk];rfl)
 have HC:=Zka af
 clear af ae
 go_enter func88,ntmps88
 go_wp2
 go_loop [3,11] (fun z i=>∃k:Nat,k<=used.length/\i=.int .i64 k/\z=.int .i64 (Z2c used k:Nat)) (fun _ i=>used.length- (intOf i).toNat)
 case atStart=>exact⟨0,by omega,rfl,rfl⟩
 case round=>
  obtain⟨k,hk,rfl,rfl⟩:=hrel
  by_cases ag:k<used.length
  ·have hc:=HC.out k ag
   have hf:=Zfw used k
   have hs:=Zcr used k
   obtain⟨z,hz⟩:∃z,Z2c used k=z:=⟨_,rfl⟩
   rw[hz] at hs hf⊢
   cases hb:used.getD k true
   ·rw[hb] at hc
    rw[hb,if_pos rfl] at hs
    have HS:=Zka hs;clear hs hb hz
    go_wp2
    go_round
    case measure=>simp[intOf];omega
    case rel=>exact⟨k+1,by omega,by go_num,by rw[HS.out];go_num⟩
   ·rw[hb] at hc
    rw[hb,if_neg (by simp),Nat.add_zero] at hs
    have HS:=Zka hs;clear hs hb hz
    go_wp2
    go_round
    case measure=>simp[intOf];omega
    case rel=>exact⟨k+1,by omega,by go_num,by rw[HS.out];rfl⟩
  ·obtain rfl:k=used.length:=by omega
   go_wp2
   go_ret
   exact⟨rfl,rfl⟩
end
section
open Go.RowKit Go.Maps Go.WideMaps Go.Sort
variable{base cap g n:Nat}{l:List Bs}{v:Value}{w w':World}
def Strs(w:World)(base:Nat)(v:Value)(l:List Bs):Prop:=w.ownsRow base 9 1 v l.length (Z6 (l.map str))
theorem Strs.nil(w:World)(base:Nat):Strs w base (.slice none 0 0) []:=World.ownsRow_nil _ _ _ _
theorem Strs.fr{L:List Nat}(h:Strs w base v l)(hf:Fr L w w')(hL:∀g,v.ownBlock=some g->g∉L):Strs w' base v l:=ZZ h hf hL
theorem Strs.after(h:Strs w base v l)(hb:Below w.heap.size w w'):Strs w' base v l:=h.fr (Fr.of_below (L:=[]) hb) (by simp)
theorem Strs.ge(h:Strs w base v l):∀k,k∈ZE v->base<=k:=fun k hk=>Xa h (ZG.1 hk)
theorem Strs.cells(h:Strs w base v l){g:Nat}(hg:v.ownBlock=some g):∃cur fr,w.heap[g]? =some (.cells cur 9 fr):=by
 rcases h.2 with ⟨hv,_⟩|⟨g',cap,cur,hv,_,hh,_⟩
 ·rw[hv] at hg;cases hg
 ·rw[hv] at hg
  simp only[Value.ownBlock,ZjJ] at hg
  subst hg
  exact⟨cur,_,hh⟩
theorem YJ.own_fr{b r:Nat}{f:Bs->Option Value}{todo:Bs->Bool}{ae:Nat}(h:YJ w b r n f todo ae)(hs:Strs w base v l)(hf:Fr (ZE v) w w'):YJ w' b r n f todo ae:=by
 refine h.fr hf (fun hm=> ?_) (fun hm=> ?_)
 ·obtain⟨cur,fr,hc⟩:=hs.cells (ZG.1 hm)
  obtain⟨es,cl,hb⟩:=h.owns.block
  rw[hc] at hb;cases hb
 ·obtain⟨cur,fr,hc⟩:=hs.cells (ZG.1 hm)
  obtain⟨x1,x2,x3,x4,hi⟩:=h.iter
  rw[hc] at hi;cases hi
theorem Z6X{ops:Array Oper}{rest:List Oper}{o:Oper}{a:Act}{Q:Exit->Act->World->Prop}(w:World)(hg:o.guard=none)(s x:Operand)(ho:o.op=.call {callee:=.builtin .append,args:= #[s,x],argTypes:= #[96,96]})
  (base:Nat) (v:Value) (l:List Bs) (hs:a.eval s=v) (ae:Strs w base v l) (p:Nat) (t:Bs) (hx:a.eval x=.slice (some ⟨p,0,none⟩) 1 1) (hc:w.heap[p]? =some (.cells #[.string (str t)] 9 (0,0)))
  (hb:base<=w.heap.size) (hl:l.length<=1000000)
  (hK:∀v' w',Strs w' base v' (l++[t])->Fr (ZE v) w w'->wpList prog ops Q rest (a.put o.dst v') w'):wpList prog ops Q (o::rest) a w:=by
 obtain⟨j0,af,ag,ah,ai⟩:=info_parts XK
 refine wpList_append_own w hg s x 96 ho base 9 j0 _ 1 16 underlying96 af ag ah ai rfl (by omega) v l.length _ hs ae ⟨p,0,none⟩ 1 1 [.string (str t)] hx rfl (World.news_of_block hc) (by simp[Value.oneCell']) (by unfold maxLen;omega) (by omega) hb ?_
 intro v' w' h1 h2 _
 refine hK v' w' ?_ ((Fr.refl (ZE v) w).grown h2 (fun k hk=>Or.inl (ZG.2 hk)))
 unfold Strs
 rw[ZjI,ZjZ]
 show w'.ownsRow base 9 1 v' (l.length+1) (Z6 (l.map str++[str t]))
 have e:Z6 (l.map str++[str t])=Z6 (l.map str)++[.string (str t)]:=by simp[Z6]
 rw[e];exact h1
theorem Strs.sorted{q:Nat}{l':List Bs}{os:Array Obj}(h:Strs w base (.slice (some ⟨g,0,none⟩) n cap) l)(hl:l'.length=l.length):
  Strs (grow (putRow encStr (Sort.ahead w q) g 0 l'.toArray) os) base (.slice (some ⟨g,0,none⟩) n cap) l'/\Fr [g] w (grow (putRow encStr (Sort.ahead w q) g 0 l'.toArray) os):=by
 rcases h.2 with ⟨hv,_⟩|⟨g',af,cur,hv,ag,hh,h1,h2,h3,h4⟩
 ·cases hv
 ·simp only[Value.slice.injEq,ZjJ,Addr.mk.injEq,and_true] at hv
  obtain⟨rfl,rfl,rfl⟩:=hv
  have ah:g<w.heap.size:=(ZjQ.1 hh).1
  have ae:(grow (putRow encStr (Sort.ahead w q) g 0 l'.toArray) os).heap[g]? =some (.cells (putCells encStr 0 l'.toArray cur) 9 (0,0)):=by
   rw[heap_grow_old _ _ (by simp[putRow,mapBlock,Sort.ahead,ah])]
   show(w.heap.modify g (onCells (putCells encStr 0 l'.toArray)))[g]? =_
   rw[Array.getElem?_modify,if_pos rfl,hh];rfl
  refine⟨⟨by simp[Z6],Or.inr ⟨g,cap,_,?_,ag,ae,by omega,h2,?_,?_⟩⟩,?_⟩
  ·rw[hl]
  ·rw[<-h3];simp[putCells]
  ·apply List.ext_getElem?
   intro i
   rw[List.getElem?_take]
   by_cases hi:i<l'.length*1
   ·rw[if_pos hi]
    have hc:i<cur.size:=by omega
    simp only[putCells,Array.getElem?_toList,Array.getElem?_mapIdx,Array.getElem?_eq_getElem hc,Option.map_some,Z6,List.getElem?_map]
    rw[if_pos ⟨by omega,by simp;omega⟩]
    have:l'[i]? =some (l'[i]'(by omega)):=ZjF (by omega)
    rw[this]
    simp only[Option.map_some,Nat.sub_zero]
    congr 2
    simp[str,List.getElem!_toArray,show i<l'.length by omega]
   ·rw[if_neg hi,List.getElem?_eq_none (by simp[Z6];omega)]
  ·refine⟨rfl,rfl,rfl,?_,fun k hk ai=> ?_⟩
   ·simp[grow,putRow,mapBlock,Sort.ahead]
   ·rw[heap_grow_old _ _ (by simp[putRow,mapBlock,Sort.ahead,hk])]
    show(w.heap.modify g (onCells (putCells encStr 0 l'.toArray)))[k]? =_
    rw[Array.getElem?_modify,if_neg (fun e=>ai (by simp[e]))]
theorem Strs.holds(h:Strs w base (.slice (some ⟨g,0,none⟩) n cap) l):Holds encStr w g 0 l.toArray/\g<w.heap.size/\n=l.length/\l.length<=cap:=by
 rcases h.2 with ⟨hv,_⟩|⟨g',af,cur,hv,ag,hh,h1,h2,h3,h4⟩
 ·cases hv
 ·simp only[Value.slice.injEq,ZjJ,Addr.mk.injEq,and_true] at hv
  obtain⟨rfl,rfl,rfl⟩:=hv
  refine⟨fun j hj=> ?_,(ZjQ.1 hh).1,rfl,h1⟩
  have ae:j<l.length:=by simpa using hj
  have e:cur[j]? =some (encStr (l.toArray[j]!)):=by
   have:=congrArg (fun x=>x[j]?) h4
   simp only[List.getElem?_take,if_pos (show j<l.length*1 by omega),Z6,List.getElem?_map,ZjF ae,Option.map_some,Array.getElem?_toList] at this
   rw[this]
   simp[str,ae]
  rw[Nat.zero_add]
  exact⟨by simp[World.cell?,hh,e],by simp[World.frozen?,hh]⟩
theorem Z9r{d:Dir}(hs:d.Sorted){l:List Bs}(hn:l.Nodup)(hl:∀k,k∈l↔d.get k≠none):(l.mergeSort fun x y=>decide (x<=y))=d.names:=by
 have hp:l.Perm d.names:=(List.perm_ext_iff_of_nodup hn (Dir.names_nodup hs)).2 (fun k=>by rw[hl,QC])
 rw[mergeSort_of_perm hp]
 refine List.mergeSort_of_pairwise ?_
 unfold Dir.names
 rw[List.pairwise_map]
 refine hs.imp fun{a b} h=> ?_
 exact decide_eq_true (List.le_of_lt h)
end
section
open Go.RowKit Go.Maps Go.WideMaps
variable{b cnt n r:Nat}{f:Bs->Option Value}{l:List Bs}{todo:Bs->Bool}{v:Value}{w w2 wr:World}
structure Met(w:World)(b r n:Nat)(f:Bs->Option Value)(todo:Bs->Bool)(cnt:Nat)(v:Value)(l:List Bs)(wr:World):Prop where
 rg:YJ wr b r n f todo cnt
 own:Strs wr w.heap.size v l
 below:Below w.heap.size w wr
 rge:w.heap.size<=r
 nodup:l.Nodup
 mem:∀k,k∈l↔(f k).isSome=true/\todo k=false
theorem Met.own2{ag:World}(h:Met w b r n f todo cnt v l wr)(ae:Fr [r] wr w2)(ah:Below w2.heap.size w2 ag):
  Strs ag w.heap.size v l/\Below w.heap.size w ag:=by
 have af:∀g,v.ownBlock=some g->g∉[r]:=fun g hg hm=>by
  rw[ZjD] at hm
  subst hm
  obtain⟨cur,fr,hc⟩:=h.own.cells hg
  obtain⟨x1,x2,x3,x4,hi⟩:=h.rg.iter
  rw[hc] at hi;cases hi
 exact⟨(h.own.fr ae af).after ah,(h.below.trans (ae.below h.below.size (by simp;exact h.rge))).trans (ah.mono (Zk1 h.below.size ae.size))⟩
theorem Met.next{af:Nat}{v':Value}{w3:World}{k:Bs}{x:Value}(h:Met w b r n f todo cnt v l wr)(aq:todo k=true)(aj:f k=some x)
  (al:YJ w2 b r n f (fun m=>todo m&& !decide (m=k)) af) (ak:Fr [r] wr w2) {ai:World} (ag:Below w2.heap.size w2 ai) (hs:Strs w3 w.heap.size v' (l++[k])) (ah:Fr (ZE v) ai w3):Met w b r n f (fun m=>todo m&& !decide (m=k)) af v' (l++[k]) w3:=by
 obtain⟨own2,ae⟩:=h.own2 ak ag
 refine⟨(al.after ag).own_fr own2 ah,hs,ae.trans (ah.below ae.size (fun i hi=>own2.ge i hi)),h.rge,?_,fun m=> ?_⟩
 ·refine List.nodup_append.2 ⟨h.nodup,by simp,fun a ha c hc e=> ?_⟩
  rw[ZjD] at hc
  subst hc;subst e
  have:=((h.mem a).1 ha).2
  rw[aq] at this;cases this
 ·rw[ZjU,ZjD,h.mem m]
  by_cases e:m=k
  ·subst e;simp[aj]
  ·simp[e]
theorem Met.few(h:Met w b r n f todo cnt v l wr)(l2:List Bs)(hl:∀k,(f k).isSome=true->k∈l2):l.length<=l2.length:=
 h.nodup.length_le_of_subset (fun k hk=>hl k ((h.mem k).1 hk).1)
theorem Z3D(b nm:Nat)(dir:Dir)(w:World)(h:Zy w b nm dir)(hs:dir.Sorted)(ct:dir.length<=100000):
  Calls prog 132 #[.map (some b)] w fun e w'=>∃v,e=.returned v/\Strs w' w.heap.size v dir.names/\Below w.heap.size w w':=by
 obtain⟨fv,hm,ah,ai⟩:=h
 have aj:∀k,(fv k).isSome=true->k∈dir.names:=fun k hk=>QC.2 (fun e=>by rw[ah k e] at hk;cases hk)
 have ak:∀k,(fv k).isSome=true↔dir.get k≠none:=fun k=>⟨fun hk=>QC.1 (aj k hk),fun hk=>by
  cases hg:dir.get k with
  |none=>exact absurd hg hk
  |some e=>obtain⟨v,hv,_⟩:=ai k e hg;rw[hv];rfl⟩
 have bj:dir.names.length=dir.length:=ZjN ..
 have HM:=Zka (Zkb ak (Zkb aj (Zkb hs bj)))
 clear ah ai hs aj ak bj
 go_enter func132,ntmps132
 go_wp2_with (at_range;refine Z1y _ rfl _ 155 rfl 164 underlying155 b nm fv rfl hm ?_;intro w1 cnt aq b9 ax)
 have M0:Met w b w.heap.size nm fv (fun k=>(fv k).isSome) cnt (.slice none 0 0) [] w1:=⟨aq,Strs.nil _ _,b9,Zk8,by simp,fun k=>by cases fv k<;>simp⟩
 have az:=Zka M0
 obtain⟨r,hr⟩:∃r,w.heap.size=r:=⟨_,rfl⟩
 clear M0 aq b9 ax hm
 rw[show Met w b w.heap.size nm fv (fun k=>(fv k).isSome) cnt (.slice none 0 0) [] w1=Met w b r nm fv (fun k=>(fv k).isSome) cnt (.slice none 0 0) [] w1 from by rw[hr]] at az
 rw[show(Value.pointer (some ⟨w.heap.size,0,none⟩))=Value.pointer (some ⟨r,0,none⟩) from by rw[hr]]
 clear hr
 go_frame
 go_loopw [3] (fun v wq=>∃ (todo:Bs->Bool) (l:List Bs) (ae:Nat),Met w b r nm fv todo ae v l wq) (fun _ wq=>wq.rangeLeft b r)
 case atStart=>exact⟨_,_,_,az.out⟩
 case round=>
  obtain⟨todo,l,ae,hS⟩:=hrel
  have af:=hS.rg
  have hlen:l.length<=100000:=Zk1 (hS.few dir.names HM.out.2.1) (by rw[HM.out.2.2.2];exact ct)
  have HS:=Zka hS
  have bu:Hid (World.rangeLeft _ b r=ae):=Zka af.left_eq
  clear hS
  go_wp2_with (at_next;refine Z1x _ rfl _ rfl b r nm fv todo ae rfl af ?_ ?_)
  ·intro ag
   have al:(l.mergeSort fun x y=>decide (x<=y))=dir.names:=Z9r HM.out.2.2.1 HS.out.nodup (fun k=>by rw[HS.out.mem k,ag k,<-HM.out.1 k];simp)
   have HF:=Zka al
   clear ag af al
   rcases HS.out.own.2 with ⟨hv,h0⟩|⟨g,cap,cur,hv,_⟩
   ·rw[hv]
    have cn:l=[]:=List.length_eq_zero_iff.1 h0
    go_wp2_with (go_at_call 98;refine(Tryz.slices_Sort_string_none none 0 _).mono ?_;rintro e w' ⟨rfl,rfl⟩)
    go_ret
    refine⟨_,rfl,?_,HS.out.below⟩
    have:=HF.out
    rw[cn] at this
    rw[<-this]
    simpa using Strs.nil _ _
   ·have ho:=HS.out.own
    rw[hv] at ho⊢
    obtain⟨hH,au,_,_⟩:=ho.holds
    have HO:=Zka ho
    clear ho
    go_wp2_with (go_at_call 98;refine(Tryz.slices_Sort_string g 0 cap l _ hH au (by omega)).mono ?_;rw[HF.out];rintro e w' ⟨rfl,q,os,rfl⟩)
    have cr:dir.names.length=l.length:=by rw[<-HF.out];exact(List.mergeSort_perm l _).length_eq
    obtain⟨s1,s2⟩:=HO.out.sorted (q:=q) (os:=os) cr
    go_ret
    refine⟨_,rfl,s1,HS.out.below.trans (s2.below HS.out.below.size (fun i hi=> ?_))⟩
    rw[ZjD] at hi
    subst hi
    exact Xa HO.out rfl
  ·intro k x w2 bz cj bq bh aq au aw cu cw
   have bf:∀o,Below w2.heap.size w2 (w2.alloc o):=fun o=>(Below.refl _ w2).alloc Zk8 o
   have HN:=Zka (Zkb bq (Zkb bh (Zkb aq (Zkb aw au))))
   have cy:w.heap.size<=w2.heap.size:=Zk1 HS.out.below.size aw.size
   clear af bq bh aq aw au cj cu
   go_wp2_with (at_builtin;refine Z6X _ rfl (.tmp 11) (.tmp 13) rfl w.heap.size _ l rfl (HS.out.own2 HN.out.2.2.2.1 (bf _)).1 w2.heap.size k rfl (heap_alloc_new w2 _) (by simp;omega) (by omega) ?_;intro v' w3 bm bg;have M3:=HS.out.next HN.out.1 HN.out.2.1 HN.out.2.2.1 HN.out.2.2.2.1 (bf _) bm bg;have ay:=Zka M3;clear M3 bm bg)
   go_roundw
   case rel=>exact⟨_,_,_,ay.out⟩
   case measure=>rw[ay.out.rg.left_eq,bu.out];exact HN.out.2.2.2.2
end
section
open Go.RowKit Go.Maps Go.WideMaps
variable{B b eb:Nat}{l:Bs}{rv:Value}{sm sz:Int}{w w' wr:World}
theorem Z5h(n:Nat):s32 n=str (Z4 n):=rfl
structure TlS(w:World)(B b eb:Nat)(l:Bs)(sz sm:Int)(rv:Value)(wr:World):Prop where
 bld:Bld wr B b l
 e0:wr.cell? ⟨eb,0,none⟩=some (.int .i64 sz)
 e1:wr.cell? ⟨eb,1,none⟩=some (.int .u32 sm)
 e2:wr.cell? ⟨eb,2,none⟩=some rv
 ebl:eb<wr.heap.size
 below:Below w.heap.size w wr
 lo:w.heap.size<=B
 lo2:B<=wr.heap.size
 ebB:eb<B
theorem TlS.after(h:TlS w B b eb l sz sm rv wr)(hb:Below wr.heap.size wr w'):TlS w B b eb l sz sm rv w':=
 ⟨h.bld.after hb,(hb.cell (p:=⟨eb,0,none⟩) h.ebl).trans h.e0,(hb.cell (p:=⟨eb,1,none⟩) h.ebl).trans h.e1,(hb.cell (p:=⟨eb,2,none⟩) h.ebl).trans h.e2,Zk0 h.ebl hb.size,h.below.trans (hb.mono h.below.size),h.lo,Zk1 h.lo2 hb.size,h.ebB⟩
theorem TlS.wrote{l':Bs}(h:TlS w B b eb l sz sm rv wr)(h1:Bld w' B b l')(h2:Below B wr w'):TlS w B b eb l' sz sm rv w':=
 ⟨h1,(h2.cell (p:=⟨eb,0,none⟩) h.ebB).trans h.e0,(h2.cell (p:=⟨eb,1,none⟩) h.ebB).trans h.e1,(h2.cell (p:=⟨eb,2,none⟩) h.ebB).trans h.e2,Zk0 h.ebl h2.size,h.below.trans (h2.mono h.lo),h.lo,Zk1 h.lo2 h2.size,h.ebB⟩
theorem Zd1(rs:List (Nat×Nat))(k:Nat)(h:k<rs.length):Qi (rs.take (k+1))=Qi (rs.take k)++(Z4 (rs.getD k (0,0)).1++Z4 (rs.getD k (0,0)).2):=by
 unfold Qi
 rw[ZjK h,List.flatMap_append,ZjE,ZjF h]
 simp
theorem Z0w(rs:List (Nat×Nat)):(Qi rs).length=8*rs.length:=by
 unfold Qi
 induction rs with
 |nil=>rfl
 |cons x l ih=>rw[ZjX,ZjI,ih,ZjI,Zq,Zq,ZjM];omega
theorem Z3G(v:Value)(e:Ent)(w:World)(h:WF w v e)(h1:e.size<=4294967295)(h2:e.sum<=4294967295)(h3:∀r∈e.runs,r.1<=4294967295/\r.2<=4294967295)(h4:e.runs.length<=100000):
  Calls prog 133 #[v] w fun r w'=>r=.returned (.string (str e.tail))/\Below w.heap.size w w':=by
 obtain⟨a,len,cap,rfl,⟨hlen,af⟩, -⟩:=h
 subst hlen
 have HR:=Zka (Zkb af h3)
 clear af h3
 go_enter func133,ntmps133
 go_wp2_with fail
 obtain⟨w1,aq⟩:∃w1,w1=w.alloc (.cells #[.int .i64 e.size,.int .u32 e.sum,.slice a e.runs.length cap] 164):=⟨_,rfl⟩
 have cj:w1.heap.size=w.heap.size+1:=by rw[aq];simp
 have T0:TlS w (w.heap.size+1) (w.heap.size+1) w.heap.size [] e.size e.sum (.slice a e.runs.length cap) (w1.alloc (.cells #[.pointer none,.slice none 0 0] 258)):=by
  have hr:=Row.new w 164 [.int .i64 e.size,.int .u32 e.sum,.slice a e.runs.length cap]
  have ax:=hr.after ((Below.refl _ (w.alloc _)).alloc Zk8 (.cells #[.pointer none,.slice none 0 0] 258))
  subst aq
  exact⟨by rw[<-cj];exact Bld.new _,ax.cell (j:=0) rfl,ax.cell (j:=1) rfl,ax.cell (j:=2) rfl,by simp;omega,((Below.refl _ w).alloc Zk8 _).alloc (by simp) _,by omega,by simp,by omega⟩
 rw[<-aq]
 clear aq
 generalize w1.alloc (.cells #[.pointer none,.slice none 0 0] 258)=w2 at*
 have c0:=T0.e0
 have c1:=T0.e1
 have cat:∀W,(Op.stringOp .add (s32 e.size) (s32 e.sum)).run prog W=.ok (.string (s32 e.size++s32 e.sum)) W:=fun W=>run_string_add_sum W _ _ (by rw[Qa,Qa];omega)
 have ae:s32 e.size++s32 e.sum=str (Z4 e.size++Z4 e.sum):=by rw[Z5h,Z5h,Z7o];rfl
 have ak:(str (Z4 e.size++Z4 e.sum)).size<=100:=by rw[Z5];simp[Zq]
 rw[ae] at cat
 have bg:=Zka ak
 clear ae ak
 clear c0 c1
 have T1:=T0.after ((Below.refl _ w2).drew)
 have c0:=T1.e0
 have c1:=T1.e1
 clear T0
 have cn:IntKind.i64.wrap (e.sum:Int)=(e.sum:Int):=Zk2 _ (by omega)
 go_cut [] from 6 to 14 (fun wx=>TlS w (w.heap.size+1) (w.heap.size+1) w.heap.size (Z4 e.size++Z4 e.sum) e.size e.sum (.slice a e.runs.length cap) wx)
 case first=>
  go_region_with (first
  |(go_at_call 189;refine(Za1 _ (by assumption) _).mono ?_;rintro e w3 ⟨rfl,ag⟩;have T3:=TlS.after (w:=w) (by assumption) ag;have c3:=T3.e0;have c4:=T3.e1;clear ag)
  |(go_at_call 164;refine(Z0i (w.heap.size+1) (w.heap.size+1) [] _ _ (TlS.bld (w:=w) (by assumption)) (by have:=bg.out;simp;omega) (TlS.lo2 (w:=w) (by assumption))).mono ?_;rintro e w4 ⟨rfl,au,aw⟩))
  all_goals have T4:=TlS.wrote (w:=w) (by assumption) au aw
  all_goals go_wp2_with fail
  all_goals go_meet
  all_goals (rw[List.nil_append,Ze] at T4;exact T4)
 case rest=>
  have T2:=hcut
  have c2:=T2.e2
  have b9:=Zka T2
  clear hcut T2 cat cn T1 c0 c1
  go_wp2_with fail
  obtain⟨T,hT⟩:∃T,Z4 e.size++Z4 e.sum=T:=⟨_,rfl⟩
  have bj:=Zka hT
  have bz:T.length=8:=by rw[<-hT];rfl
  rw[hT] at b9
  clear hT
  go_loopw [18] (fun kk wr=>∃k:Nat,k<=e.runs.length/\kk=.int .i64 k/\TlS w (w.heap.size+1) (w.heap.size+1) w.heap.size (T++Qi (e.runs.take k)) e.size e.sum (.slice a e.runs.length cap) wr) (fun kk _=>e.runs.length- (intOf kk).toNat)
  case atStart=>exact⟨0,by omega,rfl,by simpa[Qi] using b9.out⟩
  case round=>
   obtain⟨k,hk,rfl,hS⟩:=hrel
   have HS:=Zka hS
   by_cases ah:k<e.runs.length
   ·obtain⟨g,sp,rfl,ai⟩:∃g sp,a=some ⟨g,0,none⟩/\Row w g 197 (Qt e.runs++sp):=by
     rcases HR.out.1 with h0|h0
     ·rw[h0] at ah;cases ah
     ·exact h0
    have ay:=ai.after hS.below
    obtain⟨g1,g2⟩:=Z0s e.runs k ah
    have hl:=YE e.runs
    have d1:=ay.cell (j:=k*2) (by rw[ZjH (by omega),Nat.mul_comm];exact g1)
    have d2:=ay.cell (j:=k*2+1) (by rw[ZjH (by omega),Nat.mul_comm];exact g2)
    obtain⟨m1,m2⟩:=HR.out.2 (e.runs.getD k (0,0)) (by rw[ZjE,ZjF ah];exact ZjW ah)
    have al:=Zd1 e.runs k ah
    obtain⟨f,hf⟩:∃f,(e.runs.getD k (0,0)).1=f:=⟨_,rfl⟩
    obtain⟨m,hm⟩:∃m,(e.runs.getD k (0,0)).2=m:=⟨_,rfl⟩
    rw[hf] at m1 d1 al
    rw[hm] at m2 d2 al
    have bu:(T++Qi (e.runs.take k)).length<=1000000:=by rw[ZjI,Z0w,bz,ZjO];omega
    obtain⟨q,hq⟩:∃q,T++Qi (e.runs.take k)=q:=⟨_,rfl⟩
    rw[hq] at hS HS bu
    have HK:=Zka (Zkb al hq)
    clear hS ai ay g1 g2 hl hf hm al hq
    go_wp2_with fail
    obtain⟨x,hx⟩:∃x,wr.heap.size=x:=⟨_,rfl⟩
    have az:=Row.new wr 197 [.int .i64 (f:Int),.int .i64 (m:Int)]
    have T5:=HS.out.after ((Below.refl wr.heap.size wr).alloc Zk8 (.cells #[.int .i64 (f:Int),.int .i64 (m:Int)] 197))
    rw[hx] at az⊢
    generalize wr.alloc (.cells #[.int .i64 (f:Int),.int .i64 (m:Int)] 197)=w6 at*
    have T6:=T5.after ((Below.refl _ w6).drew)
    have aj:=az.after ((Below.refl _ w6).drew)
    have c0:=aj.cell (j:=0) rfl
    have c1:=aj.cell (j:=1) rfl
    have cat:∀W,(Op.stringOp .add (s32 f) (s32 m)).run prog W=.ok (.string (s32 f++s32 m)) W:=fun W=>run_string_add_sum W _ _ (by rw[Qa,Qa];omega)
    have ae:s32 f++s32 m=str (Z4 f++Z4 m):=by rw[Z5h,Z5h,Z7o];rfl
    have ak:(str (Z4 f++Z4 m)).size<=100:=by rw[Z5];simp[Zq]
    rw[ae] at cat
    have bh:=Zka ak
    clear ae ak T5 az d1 d2 hx
    go_region_with (first
     |(go_at_call 189;refine(Za1 _ (by assumption) _).mono ?_;rintro e w3 ⟨rfl,ag⟩;have T3:=TlS.after (w:=w) (by assumption) ag;have bf:=Row.after (g:=x) (by assumption) ag;have c3:=bf.cell (j:=0) rfl;have c4:=bf.cell (j:=1) rfl;clear ag)
     |(go_at_call 164;refine(Z0i (w.heap.size+1) (w.heap.size+1) q _ _ (TlS.bld (w:=w) (by assumption)) (by have:=bh.out;omega) (TlS.lo2 (w:=w) (by assumption))).mono ?_;rintro e w4 ⟨rfl,au,aw⟩))
    all_goals have T4:=TlS.wrote (w:=w) (by assumption) au aw
    all_goals go_wp2_with fail
    all_goals rw[Ze] at T4
    all_goals go_roundw
    all_goals first
     |exact⟨k+1,by omega,by go_num,by rw[HK.out.1,<-ZjL,HK.out.2];exact T4⟩
     |(simp[intOf];omega)
   ·obtain rfl:k=e.runs.length:=by omega
    have hb:=hS.bld
    have bq:=hS.lo2
    rw[Zk5] at hb
    clear hS
    go_wp2_with (go_at_call 165;refine(Z2p (w.heap.size+1) (w.heap.size+1) _ _ hb bq).mono ?_;rintro e w7 ⟨rfl,bm⟩)
    go_ret
    refine⟨?_,HS.out.below.trans (bm.mono HS.out.lo)⟩
    unfold Ent.tail
    rw[bj.out];rfl
end
end Go.Proofs.YthppfllkocphbaaGreatDoor
