/-
  Bunch: No condition.
-/
import Derived.Test.YtbnkjgcpjeedfaaGreatMem
import Derived.OrdersHeld
namespace Go.Proofs.YtbnkjgcpjeedfaaGreat
set_option linter.unusedSimpArgs false
open Go.RowKit
set_option linter.unusedVariables false
section
variable {P : Program} {ops : Array Oper} {Q : Exit → Act → World → Prop} {md : Region.Mode}
def Qdu (md:Region.Mode) (ops:Array Oper) (i:Nat):List Nat:=
 match ops[i]? with
 | some o=>(o.after.toList.filter (Region.binds md)).map (·.on)
 | none=>[]
def Qa7 (vals:Nat->Value):List (Nat × Option Tmp)->Act->Act
 | [],a=>a
 | (i,d) :: T,a=>Qa7 vals T (a.put d (vals i))
def Qho (vals:Nat->Value) (listed:Array Bool):List (Nat × Option Tmp)->Act->Act
 | [],a=>a
 | (i,d) :: T,a=>Qho vals listed T (if listed.getD i false then a.put d (vals i) else a)
def Qlo:List (Nat × Option Tmp)->Array Bool->Array Bool
 | [],l=>l
 | (i,_) :: T,l=>Qlo T (l.setIfInBounds i true)
def Apart (x y:Nat × Option Tmp):Prop:=x.1≠y.1/\∀ d,x.2=some d->y.2≠some d
theorem Qnv(vals:Nat->Value)(listed:Array Bool)(d:Option Tmp)(v:Value):∀(T:List (Nat × Option Tmp)) (a:Act),(∀ x∈T,∀ e,d=some e->x.2≠some e)->Qho vals listed T (a.put d v)=(Qho vals listed T a).put d v
 | [],a,h=>rfl
 | (i,e) :: T,a,h=>by
   have h1:=h (i,e) (by simp)
   have h2:∀ x∈T,∀ e,d=some e->x.2≠some e:=fun x hx=>h x (by simp[hx])
   simp only[Qho]
   split
   · rw[Act.put_comm a v (vals i) h1];exact Qnv vals listed d v T _ h2
   · exact Qnv vals listed d v T a h2
theorem Qnw(vals vals':Nat->Value)(listed listed':Array Bool):∀(T:List (Nat × Option Tmp)) (a:Act),(∀ x∈T,vals' x.1=vals x.1/\listed'.getD x.1 false=listed.getD x.1 false)->Qho vals' listed' T a=Qho vals listed T a
 | [],a,h=>rfl
 | (i,e) :: T,a,h=>by
   obtain⟨h1,h2⟩:=h (i,e) (by simp)
   simp only[Qho]
   simp only[] at h1 h2
   rw[h1,h2]
   exact Qnw vals vals' listed listed' T _ (fun x hx=>h x (by simp[hx]))
def setV (vals:Nat->Value) (i:Nat) (v:Value):Nat->Value:=fun j=>if j=i then v else vals j
theorem getD_new{listed:Array Bool}{i:Nat}(h:listed.getD i true=false):(listed.setIfInBounds i true).getD i false=true:=by
 rcases Nat.lt_or_ge i listed.size with h'|h'
 · simp[h']
 · simp[Array.getElem?_eq_none h'] at h
theorem Qnr{listed:Array Bool}{i:Nat}(h:listed.getD i true=false):listed.getD i false=false:=by
 rcases Nat.lt_or_ge i listed.size with h'|h'
 · simpa [h'] using h
 · simp[Array.getElem?_eq_none h'] at h
theorem Qnu(vals:Nat->Value)(listed:Array Bool)(i:Nat)(d:Option Tmp)(v:Value)(hu:listed.getD i true=false):∀(T:List (Nat × Option Tmp)) (a:Act),(i,d)∈T->T.Pairwise Apart->Qho (setV vals i v) (listed.setIfInBounds i true) T a=(Qho vals listed T a).put d v
 | [],a,h,_=>by simp at h
 | (k,e) :: T,a,h,hp=>by
   obtain⟨h1,h2⟩:=List.pairwise_cons.1 hp
   by_cases hk:k=i
   · subst hk
     have hnot:∀ x∈T,x.1≠k:=fun x hx e=>(h1 x hx).1 e.symm
     have hde:d=e:=by
      rcases List.mem_cons.1 h with h3|h3
      · exact(Prod.mk.inj h3).2
      · exact absurd rfl (hnot _ h3)
     subst hde
     simp only[Qho]
     rw[getD_new hu,Qnr hu]
     simp only[if_true,Bool.false_eq_true,if_false]
     rw[show setV vals k v k=v by simp[setV],Qnw vals (setV vals k v) listed (listed.setIfInBounds k true) T (a.put d v) (fun x hx=>⟨by simp[setV,hnot x hx],getD_set_ne false (Ne.symm (hnot x hx))⟩)]
     exact Qnv vals listed d v T a (fun x hx e he=>(h1 x hx).2 e he)
   · have h3:(i,d)∈T:=by
      rcases List.mem_cons.1 h with h3|h3
      · exact absurd (Prod.mk.inj h3).1.symm hk
      · exact h3
     simp only[Qho]
     rw[getD_set_ne false (Ne.symm hk),show setV vals i v k=vals k by simp[setV,hk]]
     exact Qnu vals listed i d v hu T _ h3 h2
theorem Qnx(vals:Nat->Value)(listed:Array Bool):∀(T:List (Nat × Option Tmp)) (a:Act),(∀ x∈T,listed.getD x.1 false=true)->Qho vals listed T a=Qa7 vals T a
 | [],a,h=>rfl
 | (i,e) :: T,a,h=>by
   have h1:=h (i,e) (by simp)
   simp only[] at h1
   simp only[Qho,Qa7,h1,if_true]
   exact Qnx vals listed T _ (fun x hx=>h x (by simp[hx]))
theorem Qlr(vals:Nat->Value)(listed:Array Bool):∀(T:List (Nat × Option Tmp)) (a:Act),(∀ x∈T,listed.getD x.1 false=false)->Qho vals listed T a=a
 | [],a,h=>rfl
 | (i,e) :: T,a,h=>by
   have h1:=h (i,e) (by simp)
   simp only[] at h1
   simp only[Qho,h1,Bool.false_eq_true,if_false]
   exact Qlr vals listed T _ (fun x hx=>h x (by simp[hx]))
structure Qfp (X:List Tmp) (a b:Act):Prop where
 fst:a.tmps.size=b.tmps.size
 snd:∀ t∈X,a.tmps.getD t undef=b.tmps.getD t undef
 dfs:a.defers=b.defers
theorem Qfp.put{X:List Tmp}{a b:Act}(h:Qfp X a b)(d:Option Tmp)(v:Value):Qfp X (a.put d v) (b.put d v):=by
 obtain⟨h1,h2,h3⟩:=h
 cases d with
 | none=>exact⟨h1,h2,h3⟩
 | some d=>
   refine⟨by simpa [Act.put] using h1,fun t ht=>?_,h3⟩
   have:=h2 t ht
   simp only[Act.put]
   by_cases hd:d=t
   · subst hd
     by_cases hs:d<a.tmps.size
     · simp[hs,h1 ▸ hs]
     · simp[Array.getElem?_eq_none,hs,h1 ▸ hs]
   · simpa [Array.getElem?_setIfInBounds_ne hd] using this
theorem Qfp.far{X:List Tmp}{a b:Act}(h:Qfp X a b)(d:Option Tmp)(v:Value)(hd:∀ e,d=some e->e ∉ X):Qfp X a (b.put d v):=by
 obtain⟨h1,h2,h3⟩:=h
 cases d with
 | none=>exact⟨h1,h2,h3⟩
 | some d=>
   refine⟨by simpa [Act.put] using h1,fun t ht=>?_,h3⟩
   have hne:d≠t:=fun e=>hd d rfl (e ▸ ht)
   simp only[Act.put]
   rw[h2 t ht]
   simp[Array.getElem?_setIfInBounds_ne hne]
theorem Qfp.refl(X:List Tmp)(a:Act):Qfp X a a:=⟨rfl,fun _ _=>rfl,rfl⟩
theorem Qm0(X:List Tmp)(vals:Nat->Value)(listed:Array Bool):∀(T:List (Nat × Option Tmp)) (a b:Act),Qfp X a b->(∀ x∈T,listed.getD x.1 false=false->∀ d,x.2=some d->d ∉ X)->Qfp X (Qho vals listed T a) (Qa7 vals T b)
 | [],a,b,h,_=>h
 | (i,e) :: T,a,b,h,hx=>by
   simp only[Qho,Qa7]
   refine Qm0 X vals listed T _ _ ?_ (fun x hm=>hx x (by simp[hm]))
   by_cases hl:listed.getD i false=true
   · rw[if_pos hl];exact h.put e (vals i)
   · rw[if_neg hl];exact h.far e (vals i) (hx (i,e) (by simp) (by simpa using hl))
theorem Qfp.exec{o:Oper}{a b:Act}(h:Qfp (o.looksAt ops) a b)(hs:∀ cs c,o.op≠.select cs c):execOp a.eval o=execOp b.eval o:=
 execOp_congr o hs fun x hx=>by
  cases x with
  | tmp t=>exact h.snd t (List.mem_append_left _ (List.mem_filterMap.2 ⟨.tmp t,by simpa using hx,rfl⟩))
  | _=>rfl
theorem Qfp.wants{o:Oper}{a b:Act}(h:Qfp (o.looksAt ops) a b):Region.wanted o (yielded ops a.tmps)=Region.wanted o (yielded ops b.tmps):=by
 unfold Region.wanted
 cases hg:o.guard with
 | none=>rfl
 | some gw=>
   obtain⟨g,want⟩:=gw
   have hy:yielded ops a.tmps g=yielded ops b.tmps g:=by
    unfold yielded
    cases ht:(ops[g]?).bind (·.dst) with
    | none=>rfl
    | some t=>
      have h1:=h.snd t (by simp[Oper.looksAt,hg,ht])
      have h2:a.tmps[t]?=b.tmps[t]?:=by
       have h0:a.tmps.size=b.tmps.size:=h.fst
       by_cases hs:t<a.tmps.size
       · have hs2:t<b.tmps.size:=h0 ▸ hs
         simp[hs,hs2] at h1
         simp[hs,hs2,h1]
       · rw[Array.getElem?_eq_none (Nat.le_of_not_lt hs),Array.getElem?_eq_none (h0 ▸ Nat.le_of_not_lt hs)]
      simp only[Option.bind_some,h2]
   simp only[hy]
theorem Qke{a b:Act}(hs:a.tmps.size=b.tmps.size){dst:Option Tmp}{u v:Value}(h:b.put dst u=b.put dst v):a.put dst u=a.put dst v:=by
 cases dst with
 | none=>rfl
 | some d=>
   have h1:b.tmps.setIfInBounds d u=b.tmps.setIfInBounds d v:=congrArg Act.tmps h
   have h2:a.tmps.setIfInBounds d u=a.tmps.setIfInBounds d v:=by
    by_cases hd:d<b.tmps.size
    · have:=congrArg (fun x=>x.getD d undef) h1
      simp[hd] at this
      rw[this]
    · rw[Array.setIfInBounds_eq_of_size_le (by rw[hs];exact Nat.le_of_not_lt hd),Array.setIfInBounds_eq_of_size_le (by rw[hs];exact Nat.le_of_not_lt hd)]
   simp only[Act.put,h2]
theorem Qxd{b:Act}{dst:Option Tmp}{u v:Value}{d:Deferred}(h:({ b with defers:=d :: b.defers }:Act).put dst u=b.put dst v):False:=by
 have h1:=congrArg (fun x=>x.defers.length) h
 cases dst <;> simp[Act.put] at h1
theorem Qq5{i:Nat}{o:Oper}{a b:Act}{w:World}{R:Value->World->Prop}(ho:ops[i]?=some o)(h:Qfp (o.looksAt ops) a b)(hs:∀ cs c,o.op≠.select cs c)
 (hQ:∀ c (a b:Act) w,a.defers=b.defers->Q (.panic c) a w->Q (.panic c) b w)
 (hh:wpOp P ops Q i (fun a' w'=>∃ v,a'=b.put o.dst v/\R v w') b w):wpOp P ops Q i (fun a' w'=>∃ v,a'=a.put o.dst v/\R v w') a w:=by
 have e1:=h.exec hs
 have e2:=h.wants
 have hsz:=h.fst
 unfold wpOp at *
 simp only[ho] at *
 rw[<-e2] at hh
 split
 · rename_i hw
   simp only[hw,if_true] at hh
   rcases hh with hh|⟨hasks,hlets⟩
   case inr=>exact .inr ⟨by unfold Oper.asks at *;rw[e1];exact hasks,hlets⟩
   refine .inl ?_
   unfold Oper.wp at *
   rw[<-e1] at hh
   generalize (execOp a.eval o).run P w=r at *
   cases r with
   | ok n w'=>
     cases n <;> simp only[Oper.upon] at hh ⊢
     case value u=>obtain⟨v,h1,h2⟩:=hh;exact⟨v,Qke hsz h1,h2⟩
     case skip=>obtain⟨v,h1,h2⟩:=hh;exact⟨v,Qke hsz h1,h2⟩
     case defer d=>obtain⟨v,h1,h2⟩:=hh;exact(Qxd h1).elim
     case enter f args=>
      refine Calls.mono hh fun e w'' he=>?_
      cases e with
      | returned u=>obtain⟨v,h1,h2⟩:=he;exact⟨v,Qke hsz h1,h2⟩
      | panicked c=>exact hQ _ _ _ _ h.dfs.symm he
      | outgrown=>exact he
     case row row args=>exact Rows.mono hh fun u w'' he=>by obtain⟨v,h1,h2⟩:=he;exact⟨v,Qke hsz h1,h2⟩
   | halt x w'=>
     cases x <;> simp only[Oper.upon] at hh ⊢
     case panic u=>exact hQ _ _ _ _ h.dfs.symm hh
 · rename_i hw
   simp only[hw] at hh
   obtain⟨v,h1,h2⟩:=hh
   exact⟨v,Qke hsz h1,h2⟩
/-! ### The bunch -/
def upTo (md:Region.Mode) (ops:Array Oper) (T:List Nat):Nat->List Nat->List Nat
 | 0,l=>l
 | k+1,l=>upTo md ops T k (T.filter fun t=>l.contains t||l.any fun x=>(Qdu md ops x).contains t)
def Quk (md:Region.Mode) (ops:Array Oper) (T:List (Nat × Option Tmp)) (listed:Array Bool):Bool:=
 (T.map (·.1)).all (fun i=>!listed.getD i true) &&
 (T.zipIdx.all fun x=>T.zipIdx.all fun y=>x.2==y.2||(x.1.1 != y.1.1&&(x.1.2.isNone||x.1.2 != y.1.2))) &&
 (T.all fun x=>match ops[x.1]? with
  | none=>false
  | some o=>o.dst==x.2&&(match o.op with|.select _ _=>false|_=>true)&&(T.all fun y=>match y.2 with|none=>true|some d=>!(o.looksAt ops).contains d||(Qdu md ops x.1).contains y.1) &&
    ((Qdu md ops x.1).all fun j=>decide (j<x.1)&&((T.map (·.1)).contains j||listed.getD j false))) &&
 ((List.range ops.size).all fun i=>(T.map (·.1)).contains i||listed.getD i true ||
   ((Qdu md ops i).any fun j=>!(T.map (·.1)).contains j&&!listed.getD j false) ||
   ((T.map (·.1)).all fun t=>(upTo md ops (T.map (·.1)) T.length ((T.map (·.1)).filter fun t=>(Qdu md ops i).contains t)).contains t))
theorem Qsn{T:List Nat}{p:Nat->Prop}(hp:∀ x∈T,p x->∀ j∈Qdu md ops x,p j):∀(k:Nat) (l:List Nat),(∀ x∈l,x∈T/\p x)->∀ x∈upTo md ops T k l,p x
 | 0,l,h=>fun x hx=>(h x hx).2
 | k+1,l,h=>Qsn hp k _ fun x hx=>by
   obtain⟨h1,h2⟩:=List.mem_filter.1 hx
   refine⟨h1,?_⟩
   rcases Bool.or_eq_true_iff.1 h2 with h3|h3
   · exact(h x (by simpa using h3)).2
   · obtain⟨y,hy,h4⟩:=List.any_eq_true.1 h3
     exact hp y (h y hy).1 (h y hy).2 x (by simpa using h4)
structure Qf4 (md:Region.Mode) (ops:Array Oper) (T:List (Nat × Option Tmp)) (listed:Array Bool):Prop where
 un:∀ x∈T,listed.getD x.1 true=false
 apart:T.Pairwise Apart
 op:∀ x∈T,∃ o,ops[x.1]?=some o/\o.dst=x.2/\(∀ cs c,o.op≠.select cs c)/\(∀ y∈T,∀ d,y.2=some d->d∈o.looksAt ops->y.1∈Qdu md ops x.1)/\∀ j∈Qdu md ops x.1,j<x.1/\(j∈T.map (·.1)\/listed.getD j false=true)
 other:∀ i,i<ops.size->i ∉ T.map (·.1)->listed.getD i true=false->(∃ j∈Qdu md ops i,j ∉ T.map (·.1)/\listed.getD j false=false)\/∀ t∈T.map (·.1),t∈upTo md ops (T.map (·.1)) T.length ((T.map (·.1)).filter fun t=>(Qdu md ops i).contains t)
theorem Qf4.of{T:List (Nat × Option Tmp)}{listed:Array Bool}(h:Quk md ops T listed=true):Qf4 md ops T listed:=by
 unfold Quk at h
 simp only[Bool.and_eq_true] at h
 obtain⟨⟨⟨h1,h2⟩,h3⟩,h4⟩:=h
 refine⟨fun x hx=>?_,?_,fun x hx=>?_,fun i hi hn hu=>?_⟩
 · have:=List.all_eq_true.1 h1 x.1 (List.mem_map_of_mem hx)
   simpa using this
 · rw[List.pairwise_iff_getElem]
   intro i j hi hj hij
   have a1:=List.all_eq_true.1 h2 (T[i],i) (by rw[List.mem_zipIdx_iff_getElem?];simp[hi])
   have a2:=List.all_eq_true.1 a1 (T[j],j) (by rw[List.mem_zipIdx_iff_getElem?];simp[hj])
   have hne:(i==j)=false:=by simpa using(by omega:i≠j)
   simp only[hne,Bool.false_or,Bool.and_eq_true] at a2
   refine⟨by simpa using a2.1,fun d hd=>?_⟩
   have:=a2.2
   rw[hd] at this
   intro h5
   rw[h5] at this
   simp at this
 · have a:=List.all_eq_true.1 h3 x hx
   cases ho:ops[x.1]? with
   | none=>simp[ho] at a
   | some o=>
     simp only[ho,Bool.and_eq_true] at a
     obtain⟨⟨⟨a1,a2⟩,a3⟩,a4⟩:=a
     refine⟨o,rfl,by simpa using a1,fun cs c e=>by rw[e] at a2;simp at a2,fun y hy d hd hl=>?_,fun j hj=>?_⟩
     · have:=List.all_eq_true.1 a3 y hy
       rw[hd] at this
       simp[hl] at this
       exact this
     · have:=List.all_eq_true.1 a4 j hj
       simp only[Bool.and_eq_true,decide_eq_true_eq,Bool.or_eq_true] at this
       exact⟨this.1,this.2.imp (fun h=>by simpa using h) id⟩
 · have a:=List.all_eq_true.1 h4 i (List.mem_range.2 hi)
   simp only[Bool.or_eq_true] at a
   rcases a with((a|a)|a)|a
   · exact absurd (by simpa using a) hn
   · rw[hu] at a;cases a
   · obtain⟨j,hj,h5⟩:=List.any_eq_true.1 a
     simp only[Bool.and_eq_true,Bool.not_eq_true'] at h5
     exact .inl ⟨j,hj,by simpa using h5.1,h5.2⟩
   · exact .inr fun t ht=>by simpa using List.all_eq_true.1 a t ht
structure Qyl (md:Region.Mode) (ops:Array Oper) (T:List (Nat × Option Tmp)) (listed0 listed:Array Bool):Prop where
 size:listed.size=listed0.size
 other:∀ j,j ∉ T.map (·.1)->∀ b,listed.getD j b=listed0.getD j b
 down:∀ x∈T.map (·.1),listed.getD x false=true->∀ j∈Qdu md ops x,listed.getD j false=true
theorem Qrq{i j:Nat}{o:Oper}(ho:ops[i]?=some o):j∈Qdu md ops i↔∃ e∈o.after,Region.binds md e=true/\e.on=j:=by
 simp[Qdu,ho,and_assoc]
theorem Qg3{i:Nat}{listed:Array Bool}:i∈Region.ready md ops listed↔listed.getD i true=false/\i<ops.size/\∀ j∈Qdu md ops i,listed.getD j false=true:=by
 rw[mem_ready]
 constructor
 · rintro⟨h0,o,ho,h⟩
   exact⟨h0,(Array.getElem?_eq_some_iff.1 ho).1,fun j hj=>by obtain⟨e,he,hb,rfl⟩:=(Qrq ho).1 hj;exact h e he hb⟩
 · rintro⟨h0,hi,h⟩
   exact⟨h0,ops[i],Array.getElem?_eq_getElem hi,fun e he hb=>h _ ((Qrq (Array.getElem?_eq_getElem hi)).2 ⟨e,he,hb,rfl⟩)⟩
theorem Qi5{listed:Array Bool}{i:Nat}(hs:i<listed.size):listed.getD i true=listed.getD i false:=by simp[hs]
theorem Qqh{p:Nat->Bool}:∀(n:Nat),(∃ i,i<n/\p i=true)->∃ i,p i=true/\∀ j,j<i->p j=false
 | 0,h=>by obtain⟨i,hi,_⟩:=h;omega
 | n+1,h=>by
   by_cases h1:∃ i,i<n/\p i=true
   · exact Qqh n h1
   · obtain⟨i,hi,hp⟩:=h
     refine⟨i,hp,fun j hj=>?_⟩
     cases hq:p j
     · rfl
     · exact absurd ⟨j,by omega,hq⟩ h1
theorem Qln:∀(T:List (Nat × Option Tmp)) (l:Array Bool),(Qlo T l).size=l.size
 | [],l=>rfl
 | (i,d) :: T,l=>by rw[Qlo,Qln T];simp
theorem Qhk:∀(T:List (Nat × Option Tmp)) (l:Array Bool) (j:Nat) (b:Bool),j ∉ T.map (·.1)->(Qlo T l).getD j b=l.getD j b
 | [],l,j,b,_=>rfl
 | (i,d) :: T,l,j,b,h=>by
   simp only[List.map_cons,List.mem_cons,not_or] at h
   rw[Qlo,Qhk T _ j b h.2,getD_set_ne b (Ne.symm h.1)]
theorem Qqe:∀(T:List (Nat × Option Tmp)) (l:Array Bool) (j:Nat) (b:Bool),j∈T.map (·.1)->j<l.size->(Qlo T l).getD j b=true
 | [],l,j,b,h,_=>by simp at h
 | (i,d) :: T,l,j,b,h,hs=>by
   by_cases hj:j∈T.map (·.1)
   · exact Qqe T _ j b hj (by simpa using hs)
   · have:j=i:=by simpa [hj] using h
     subst this
     rw[Qlo,Qhk T _ j b hj];simp[hs]
theorem Qjh{a b:Array Bool}(hs:a.size=b.size)(h:∀ j,j<a.size->a.getD j false=b.getD j false):a=b:=by
 refine Array.ext hs fun i h1 h2=>?_
 have:=h i h1
 simpa [h1,h2] using this
theorem Qjy{listed:Array Bool}{x:Nat × Option Tmp}(hlt:x.1<listed.size)(hu:listed.getD x.1 true=false):∀ {T:List (Nat × Option Tmp)},x∈T->T.Pairwise Apart->
 (T.filter fun y=>!listed.getD y.1 true).length=(T.filter fun y=>!(listed.setIfInBounds x.1 true).getD y.1 true).length+1
 | [],h,_=>by simp at h
 | y :: T,h,hp=>by
   obtain⟨h1,h2⟩:=List.pairwise_cons.1 hp
   by_cases he:y.1=x.1
   · have hnot:∀ z∈T,z.1≠x.1:=fun z hz e=>(h1 z hz).1 (he.trans e.symm)
     have e1:(T.filter fun y=>!(listed.setIfInBounds x.1 true).getD y.1 true)=T.filter fun y=>!listed.getD y.1 true:=
      List.filter_congr fun z hz=>by rw[getD_set_ne true (Ne.symm (hnot z hz))]
     rw[List.filter_cons,List.filter_cons,e1,he,hu,show(listed.setIfInBounds x.1 true).getD x.1 true=true by simp[hlt]]
     simp
   · have h3:x∈T:=by
      rcases List.mem_cons.1 h with h3|h3
      · exact absurd (by rw[h3]) he
      · exact h3
     have ih:=Qjy hlt hu h3 h2
     rw[List.filter_cons,List.filter_cons,getD_set_ne true (Ne.symm he)]
     split
     · simp only[List.length_cons];omega
     · exact ih
def Qok (P:Program) (md:Region.Mode) (ops:Array Oper) (Q:Exit->Act->World->Prop) (T:List (Nat × Option Tmp)) (a0:Act) (Pv:Nat->Value->World->Prop) (S:World->Prop) (R:World->World->Prop) (x:Nat × Option Tmp):Prop:=
 ∀(vals:Nat->Value) (w:World),(∀ j∈Qdu md ops x.1,j∈T.map (·.1)->Pv j (vals j) w)->S w->
  wpOp P ops Q x.1 (fun a' w'=>∃ v,a'=(Qa7 vals T a0).put x.2 v/\Pv x.1 v w'/\S w'/\R w w') (Qa7 vals T a0) w
theorem Qmo{T:List (Nat × Option Tmp)}{listed0:Array Bool}{a0:Act}{Pv:Nat->Value->World->Prop}{S:World->Prop}{R:World->World->Prop}{fuel:Nat}(hF:Qf4 md ops T listed0)
 (hQ:∀ c (a b:Act) w,a.defers=b.defers->Q (.panic c) a w->Q (.panic c) b w) (hR:∀ j v w w',R w w'->Pv j v w->Pv j v w')
 (hstep:∀ x∈T,Qok P md ops Q T a0 Pv S R x)
 (hend:∀(vals:Nat->Value) (w:World),(∀ x∈T,Pv x.1 (vals x.1) w)->S w->wpAnyH P md ops Q S fuel (Qlo T listed0) (Qa7 vals T a0) w) :
 ∀(n:Nat) (listed:Array Bool) (vals:Nat->Value) (w:World),(T.filter fun x=>!listed.getD x.1 true).length=n->Qyl md ops T listed0 listed->
  (∀ x∈T,listed.getD x.1 false=true->Pv x.1 (vals x.1) w)->S w->wpAnyH P md ops Q S (fuel+n) listed (Qho vals listed T a0) w:=by
 intro n
 have hsz:∀ x∈T,x.1<listed0.size:=fun x hx=>by
  have:=hF.un x hx
  rcases Nat.lt_or_ge x.1 listed0.size with h'|h'
  · exact h'
  · simp[Array.getElem?_eq_none h'] at this
 induction n with
 | zero=>
   intro listed vals w hn hB hv hS
   have hall:∀ x∈T,listed.getD x.1 false=true:=fun x hx=>by
    have h1:=List.length_eq_zero_iff.1 hn
    have h2:=List.filter_eq_nil_iff.1 h1 x hx
    rw[<-Qi5 (by rw[hB.size];exact hsz x hx)]
    simpa using h2
   have e:listed=Qlo T listed0:=by
    refine Qjh (by rw[Qln,hB.size]) fun j hj=>?_
    by_cases hm:j∈T.map (·.1)
    · rw[Qqe T listed0 j false hm (by rw[<-hB.size];exact hj)]
      obtain⟨x,hx,rfl⟩:=List.mem_map.1 hm
      exact hall x hx
    · rw[Qhk T listed0 j false hm];exact hB.other j hm false
   rw[Qnx vals listed T a0 hall,Nat.add_zero,e]
   exact hend vals w (fun x hx=>hv x hx (hall x hx)) hS
 | succ n ih=>
   intro listed vals w hn hB hv hS
   have hex:∃ x∈T,listed.getD x.1 true=false:=by
    have:0<(T.filter fun x=>!listed.getD x.1 true).length:=by omega
    obtain⟨x,hx⟩:=List.exists_mem_of_length_pos this
    obtain⟨h1,h2⟩:=List.mem_filter.1 hx
    exact⟨x,h1,by simpa using h2⟩
   have hT:∀ i∈Region.ready md ops listed,i∈T.map (·.1):=fun i hi=>by
    obtain⟨r1,r2,r3⟩:=Qg3.1 hi
    by_cases hm:i∈T.map (·.1)
    · exact hm
    · rw[hB.other i hm] at r1
      rcases hF.other i r2 hm r1 with⟨j,hj,h1,h2⟩|h1
      · have:=r3 j hj
        rw[hB.other j h1,h2] at this;cases this
      · obtain⟨x,hx,hu⟩:=hex
        have h2:=h1 x.1 (List.mem_map_of_mem hx)
        have h3:=Qsn (md:=md) (ops:=ops) (T:=T.map (·.1)) (p:=fun j=>listed.getD j false=true) (fun y hy hp j hj=>hB.down y hy hp j hj) _ _ (fun y hy=>by
         obtain⟨h4,h5⟩:=List.mem_filter.1 hy
         exact⟨h4,r3 y (by simpa using h5)⟩) x.1 h2
        rw[Qnr hu] at h3;cases h3
   rw[<-Nat.add_assoc]
   refine⟨fun hnil=>?_,fun i hi=>?_⟩
   · -- the least that is left may come up
     obtain⟨i,hi,hlt⟩:=Qqh (p:=fun i=>decide (i∈T.map (·.1))&&!listed.getD i true) listed.size (by
      obtain⟨x,hx,hu⟩:=hex
      exact⟨x.1,by rw[hB.size];exact hsz x hx,by simp only[Bool.and_eq_true,decide_eq_true_eq,Bool.not_eq_true'];exact⟨List.mem_map_of_mem hx,hu⟩⟩)
     simp only[Bool.and_eq_true,decide_eq_true_eq,Bool.not_eq_true'] at hi
     obtain⟨x,hx,rfl⟩:=List.mem_map.1 hi.1
     obtain⟨o,ho,_,_,_,hj⟩:=hF.op x hx
     have:x.1∈Region.ready md ops listed:=Qg3.2 ⟨hi.2,(Array.getElem?_eq_some_iff.1 ho).1,fun j hj'=>by
      obtain⟨h1,h2⟩:=hj j hj'
      by_cases hm:j∈T.map (·.1)
      · have h3:=hlt j h1
        obtain⟨y,hy,rfl⟩:=List.mem_map.1 hm
        simp only[hm,decide_true,Bool.true_and,Bool.not_eq_false'] at h3
        rw[<-Qi5 (by rw[hB.size];exact hsz y hy)]
        simpa using h3
      · rw[hB.other j hm];exact h2.resolve_left hm⟩
     rw[hnil] at this;cases this
   · have hm:=hT i hi
     obtain⟨x,hx,rfl⟩:=List.mem_map.1 hm
     obtain⟨r1,r2,r3⟩:=Qg3.1 hi
     obtain⟨o,ho,hdst,hsel,hdat,_⟩:=hF.op x hx
     have h1:=hstep x hx vals w (fun j hj hjm=>by obtain⟨y,hy,rfl⟩:=List.mem_map.1 hjm;exact hv y hy (r3 _ hj)) hS
     rw[<-hdst] at h1
     have h2:=Qq5 ho (Qm0 (o.looksAt ops) vals listed T a0 a0 (Qfp.refl _ _) (fun y hy hu d hd hl=>by
      have:=r3 y.1 (hdat y hy d hd hl)
      rw[hu] at this;cases this)) hsel hQ h1
     refine wpOp_mono (fun a' w' h3=>?_) h2
     obtain⟨v,rfl,hpv,hS',hRw⟩:=h3
     rw[hdst,<-Qnu vals listed x.1 x.2 v r1 T a0 hx hF.apart]
     refine⟨hS',ih _ _ _ ?_ ⟨by simpa using hB.size,fun j hj b=>?_,fun y hy hl j hj=>?_⟩ (fun y hy hl=>?_) hS'⟩
     · have hnd:(T.filter fun y=>!listed.getD y.1 true).length=(T.filter fun y=>!(listed.setIfInBounds x.1 true).getD y.1 true).length+1:=by
        have hlt:x.1<listed.size:=by rw[hB.size];exact hsz x hx
        exact Qjy hlt r1 hx hF.apart
       omega
     · rw[getD_set_ne b (fun e=>hj (by rw[<-e];exact hm))];exact hB.other j hj b
     · refine getD_set_true ?_
       by_cases he:y=x.1
       · subst he;exact r3 j hj
       · rw[getD_set_ne false (Ne.symm he)] at hl
         exact hB.down y hy hl j hj
     · by_cases he:y.1=x.1
       · rw[he];simp only[setV,if_true];exact hpv
       · rw[getD_set_ne false (Ne.symm he)] at hl
         simp only[setV,if_neg he]
         exact hR _ _ _ _ hRw (hv y hy hl)
theorem Qom{T:List (Nat × Option Tmp)}{listed0:Array Bool}{a0:Act}{Pv:Nat->Value->World->Prop}{S:World->Prop}{R:World->World->Prop}{fuel:Nat}(hF:Qf4 md ops T listed0)
 (hQ:∀ c (a b:Act) w,a.defers=b.defers->Q (.panic c) a w->Q (.panic c) b w) (hR:∀ j v w w',R w w'->Pv j v w->Pv j v w')
 (hstep:∀ x∈T,Qok P md ops Q T a0 Pv S R x)
 (hend:∀(vals:Nat->Value) (w:World),(∀ x∈T,Pv x.1 (vals x.1) w)->S w->wpAny P md ops Q fuel (Qlo T listed0) (Qa7 vals T a0) w) :
 ∀(n:Nat) (listed:Array Bool) (vals:Nat->Value) (w:World),(T.filter fun x=>!listed.getD x.1 true).length=n->Qyl md ops T listed0 listed->
  (∀ x∈T,listed.getD x.1 false=true->Pv x.1 (vals x.1) w)->S w->wpAny P md ops Q (fuel+n) listed (Qho vals listed T a0) w:=by
 intro n
 have hsz:∀ x∈T,x.1<listed0.size:=fun x hx=>by
  have:=hF.un x hx
  rcases Nat.lt_or_ge x.1 listed0.size with h'|h'
  · exact h'
  · simp[Array.getElem?_eq_none h'] at this
 induction n with
 | zero=>
   intro listed vals w hn hB hv hS
   have hall:∀ x∈T,listed.getD x.1 false=true:=fun x hx=>by
    have h1:=List.length_eq_zero_iff.1 hn
    have h2:=List.filter_eq_nil_iff.1 h1 x hx
    rw[<-Qi5 (by rw[hB.size];exact hsz x hx)]
    simpa using h2
   have e:listed=Qlo T listed0:=by
    refine Qjh (by rw[Qln,hB.size]) fun j hj=>?_
    by_cases hm:j∈T.map (·.1)
    · rw[Qqe T listed0 j false hm (by rw[<-hB.size];exact hj)]
      obtain⟨x,hx,rfl⟩:=List.mem_map.1 hm
      exact hall x hx
    · rw[Qhk T listed0 j false hm];exact hB.other j hm false
   rw[Qnx vals listed T a0 hall,Nat.add_zero,e]
   exact hend vals w (fun x hx=>hv x hx (hall x hx)) hS
 | succ n ih=>
   intro listed vals w hn hB hv hS
   have hex:∃ x∈T,listed.getD x.1 true=false:=by
    have:0<(T.filter fun x=>!listed.getD x.1 true).length:=by omega
    obtain⟨x,hx⟩:=List.exists_mem_of_length_pos this
    obtain⟨h1,h2⟩:=List.mem_filter.1 hx
    exact⟨x,h1,by simpa using h2⟩
   have hT:∀ i∈Region.ready md ops listed,i∈T.map (·.1):=fun i hi=>by
    obtain⟨r1,r2,r3⟩:=Qg3.1 hi
    by_cases hm:i∈T.map (·.1)
    · exact hm
    · rw[hB.other i hm] at r1
      rcases hF.other i r2 hm r1 with⟨j,hj,h1,h2⟩|h1
      · have:=r3 j hj
        rw[hB.other j h1,h2] at this;cases this
      · obtain⟨x,hx,hu⟩:=hex
        have h2:=h1 x.1 (List.mem_map_of_mem hx)
        have h3:=Qsn (md:=md) (ops:=ops) (T:=T.map (·.1)) (p:=fun j=>listed.getD j false=true) (fun y hy hp j hj=>hB.down y hy hp j hj) _ _ (fun y hy=>by
         obtain⟨h4,h5⟩:=List.mem_filter.1 hy
         exact⟨h4,r3 y (by simpa using h5)⟩) x.1 h2
        rw[Qnr hu] at h3;cases h3
   rw[<-Nat.add_assoc]
   refine⟨fun hnil=>?_,fun i hi=>?_⟩
   · -- the least that is left may come up
     obtain⟨i,hi,hlt⟩:=Qqh (p:=fun i=>decide (i∈T.map (·.1))&&!listed.getD i true) listed.size (by
      obtain⟨x,hx,hu⟩:=hex
      exact⟨x.1,by rw[hB.size];exact hsz x hx,by simp only[Bool.and_eq_true,decide_eq_true_eq,Bool.not_eq_true'];exact⟨List.mem_map_of_mem hx,hu⟩⟩)
     simp only[Bool.and_eq_true,decide_eq_true_eq,Bool.not_eq_true'] at hi
     obtain⟨x,hx,rfl⟩:=List.mem_map.1 hi.1
     obtain⟨o,ho,_,_,_,hj⟩:=hF.op x hx
     have:x.1∈Region.ready md ops listed:=Qg3.2 ⟨hi.2,(Array.getElem?_eq_some_iff.1 ho).1,fun j hj'=>by
      obtain⟨h1,h2⟩:=hj j hj'
      by_cases hm:j∈T.map (·.1)
      · have h3:=hlt j h1
        obtain⟨y,hy,rfl⟩:=List.mem_map.1 hm
        simp only[hm,decide_true,Bool.true_and,Bool.not_eq_false'] at h3
        rw[<-Qi5 (by rw[hB.size];exact hsz y hy)]
        simpa using h3
      · rw[hB.other j hm];exact h2.resolve_left hm⟩
     rw[hnil] at this;cases this
   · have hm:=hT i hi
     obtain⟨x,hx,rfl⟩:=List.mem_map.1 hm
     obtain⟨r1,r2,r3⟩:=Qg3.1 hi
     obtain⟨o,ho,hdst,hsel,hdat,_⟩:=hF.op x hx
     have h1:=hstep x hx vals w (fun j hj hjm=>by obtain⟨y,hy,rfl⟩:=List.mem_map.1 hjm;exact hv y hy (r3 _ hj)) hS
     rw[<-hdst] at h1
     have h2:=Qq5 ho (Qm0 (o.looksAt ops) vals listed T a0 a0 (Qfp.refl _ _) (fun y hy hu d hd hl=>by
      have:=r3 y.1 (hdat y hy d hd hl)
      rw[hu] at this;cases this)) hsel hQ h1
     refine wpOp_mono (fun a' w' h3=>?_) h2
     obtain⟨v,rfl,hpv,hS',hRw⟩:=h3
     rw[hdst,<-Qnu vals listed x.1 x.2 v r1 T a0 hx hF.apart]
     refine ih _ _ _ ?_ ⟨by simpa using hB.size,fun j hj b=>?_,fun y hy hl j hj=>?_⟩ (fun y hy hl=>?_) hS'
     · have hnd:(T.filter fun y=>!listed.getD y.1 true).length=(T.filter fun y=>!(listed.setIfInBounds x.1 true).getD y.1 true).length+1:=by
        have hlt:x.1<listed.size:=by rw[hB.size];exact hsz x hx
        exact Qjy hlt r1 hx hF.apart
       omega
     · rw[getD_set_ne b (fun e=>hj (by rw[<-e];exact hm))];exact hB.other j hj b
     · refine getD_set_true ?_
       by_cases he:y=x.1
       · subst he;exact r3 j hj
       · rw[getD_set_ne false (Ne.symm he)] at hl
         exact hB.down y hy hl j hj
     · by_cases he:y.1=x.1
       · rw[he];simp only[setV,if_true];exact hpv
       · rw[getD_set_ne false (Ne.symm he)] at hl
         simp only[setV,if_neg he]
         exact hR _ _ _ _ hRw (hv y hy hl)
structure Qoz (p:Prop):Prop where
 out:p
def Qd3 (Pv:Nat->Value->World->Prop) (vals:Nat->Value) (w:World):List Nat->Prop
 | []=>True
 | i :: ds=>Pv i (vals i) w/\Qd3 Pv vals w ds
theorem Qd3.all{Pv:Nat->Value->World->Prop}{vals:Nat->Value}{w:World}:∀(ds:List Nat),(∀ i∈ds,Pv i (vals i) w)->Qd3 Pv vals w ds
 | [],_=>trivial
 | i :: ds,h=>⟨h i (by simp),Qd3.all ds fun j hj=>h j (by simp[hj])⟩
def Qbo (P:Program) (md:Region.Mode) (ops:Array Oper) (Q:Exit->Act->World->Prop) (T:List (Nat × Option Tmp)) (a0:Act) (Pv:Nat->Value->World->Prop) (S:World->Prop) (R:World->World->Prop) (T':List (Nat × Option Tmp)):Prop:=∀ x∈T',Qok P md ops Q T a0 Pv S R x
section
variable {T T' : List (Nat × Option Tmp)} {a0 : Act} {Pv : Nat → Value → World → Prop} {S : World → Prop} {R : World → World → Prop}
theorem Qbo.nil:Qbo P md ops Q T a0 Pv S R []:=fun _ h=>by cases h
theorem Qbo.cons{i:Nat}{d:Option Tmp}{o:Oper}(ds:List Nat)(ho:ops[i]?=some o)(hg:o.guard=none)(hd:o.dst=d)(hds:(ds.all fun j=>(Qdu md ops i).contains j&&(T.map (·.1)).contains j)=true)
 (h:∀(vals:Nat->Value) (w:World),Qd3 Pv vals w ds->S w->∀ K:Act->World->Prop,Shut (∀ a' w',(∃ v,a'=(Qa7 vals T a0).put d v/\Pv i v w')->S w'->R w w'->K a' w')->Qoz (if Region.wanted o (yielded ops (Qa7 vals T a0).tmps)=true then Oper.wp P o (Qa7 vals T a0) w K Q else K ((Qa7 vals T a0).put o.dst undef) w))
 (hs:Qbo P md ops Q T a0 Pv S R T'):Qbo P md ops Q T a0 Pv S R ((i,d) :: T'):=fun x hx=>by
 rcases List.mem_cons.1 hx with rfl|hx
 · intro vals w hv hS
   unfold wpOp
   simp only[ho]
   have hw:Region.wanted o (yielded ops (Qa7 vals T a0).tmps)=true:=by simp[Region.wanted,hg]
   rw[if_pos hw]
   have h2:=h vals w (Qd3.all ds fun j hj=>by
    have:=List.all_eq_true.1 hds j hj
    simp only[Bool.and_eq_true,List.contains_iff_mem] at this
    exact hv j this.1 this.2) hS (fun a' w'=>∃ v,a'=(Qa7 vals T a0).put d v/\Pv i v w'/\S w'/\R w w') (fun a' w' ⟨v,e,hp⟩ hS' hR'=>⟨v,e,hp,hS',hR'⟩)
   replace h2:=h2.out
   rw[if_pos hw] at h2
   exact .inl h2
 · exact hs x hx
theorem Qlw(T:List (Nat × Option Tmp))(Pv:Nat->Value->World->Prop)(S:World->Prop)(R:World->World->Prop){n0 n:Nat}{listed0:Array Bool}{w:World}(hB:Quk md ops T listed0=true)(hf:n0=n+T.length)
 (hQ:∀ c (a b:Act) w,a.defers=b.defers->Q (.panic c) a w->Q (.panic c) b w) (hR:∀ j v w w',R w w'->Pv j v w->Pv j v w') (hS:S w) (hsteps:Qbo P md ops Q T a0 Pv S R T)
 (hend:∀(vals:Nat->Value) (w:World),Qd3 Pv vals w (T.map (·.1))->S w->wpAnyH P md ops Q S n (Qlo T listed0) (Qa7 vals T a0) w):wpAnyH P md ops Q S n0 listed0 a0 w:=by
 have hF:=Qf4.of hB
 subst hf
 have hun:∀ x∈T,listed0.getD x.1 false=false:=fun x hx=>Qnr (hF.un x hx)
 have:=Qmo (P:=P) (Q:=Q) (fuel:=n) hF hQ hR hsteps (fun vals w hv hS=>hend vals w (Qd3.all _ fun i hi=>by obtain⟨x,hx,rfl⟩:=List.mem_map.1 hi;exact hv x hx) hS)
  T.length listed0 (fun _=>undef) w (by rw[List.filter_eq_self.2 (fun x hx=>by rw[hF.un x hx];rfl)]) ⟨rfl,fun _ _ _=>rfl,fun x hx hl=>by
   obtain⟨y,hy,rfl⟩:=List.mem_map.1 hx
   rw[hun y hy] at hl;cases hl⟩ (fun x hx hl=>by rw[hun x hx] at hl;cases hl) hS
 rwa [Qlr _ _ _ _ hun] at this
theorem Qjj(T:List (Nat × Option Tmp))(Pv:Nat->Value->World->Prop)(S:World->Prop)(R:World->World->Prop){n0 n:Nat}{listed0:Array Bool}{w:World}(hB:Quk md ops T listed0=true)(hf:n0=n+T.length)
 (hQ:∀ c (a b:Act) w,a.defers=b.defers->Q (.panic c) a w->Q (.panic c) b w) (hR:∀ j v w w',R w w'->Pv j v w->Pv j v w') (hS:S w) (hsteps:Qbo P md ops Q T a0 Pv S R T)
 (hend:∀(vals:Nat->Value) (w:World),Qd3 Pv vals w (T.map (·.1))->S w->wpAny P md ops Q n (Qlo T listed0) (Qa7 vals T a0) w):wpAny P md ops Q n0 listed0 a0 w:=by
 have hF:=Qf4.of hB
 subst hf
 have hun:∀ x∈T,listed0.getD x.1 false=false:=fun x hx=>Qnr (hF.un x hx)
 have:=Qom (P:=P) (Q:=Q) (fuel:=n) hF hQ hR hsteps (fun vals w hv hS=>hend vals w (Qd3.all _ fun i hi=>by obtain⟨x,hx,rfl⟩:=List.mem_map.1 hi;exact hv x hx) hS)
  T.length listed0 (fun _=>undef) w (by rw[List.filter_eq_self.2 (fun x hx=>by rw[hF.un x hx];rfl)]) ⟨rfl,fun _ _ _=>rfl,fun x hx hl=>by
   obtain⟨y,hy,rfl⟩:=List.mem_map.1 hx
   rw[hun y hy] at hl;cases hl⟩ (fun x hx hl=>by rw[hun x hx] at hl;cases hl) hS
 rwa [Qlr _ _ _ _ hun] at this
end
theorem Qbg{S:World->Prop}{i:Nat}{oi:Oper}{v:Value}{fuel:Nat}{listed:Array Bool}{a:Act}{w:World}(d:Option Tmp)(hi:ops[i]?=some oi)(hd:oi.dst=d)
 (hs:Region.noSelect ops=true) (hf:Region.free md ops listed i=true) (hr:(Region.ready md ops listed).contains i=true)
 (hQ:∀ c (a b:Act) w,a.defers=b.defers->Q (.panic c) a w->Q (.panic c) b w) (hy:YieldsIf P ops S oi v a) (hS:S w)
 (h:wpAnyH P md ops Q S fuel (listed.setIfInBounds i true) (a.put d v) w):wpAnyH P md ops Q S (fuel+1) listed a w:=by
 subst hd
 exact wpAnyH_take hi hs hf hr (fun c a w=>hQ c _ _ w (by cases oi.dst <;> rfl)) hy hS h
theorem Qah{S:World->Prop}{oi:Oper}{fuel:Nat}{listed:Array Bool}{a:Act}{w:World}(i:Nat)(v:Value)(d:Option Tmp)(hi:ops[i]?=some oi)(hd:oi.dst=d)
 (hk:(Region.noSelect ops&&Region.free md ops listed i&&(Region.ready md ops listed).contains i)=true) (hy:YieldsIf P ops S oi v a) (hS:S w)
 (h:wpAnyH P md ops Q S fuel (listed.setIfInBounds i true) (a.put d v) w)
 (hQ:∀ c (a b:Act) w,a.defers=b.defers->Q (.panic c) a w->Q (.panic c) b w:=by intro _ a b _ e h;cases a;cases b;cases e;exact h):wpAnyH P md ops Q S (fuel+1) listed a w:=by
 rw[Bool.and_eq_true,Bool.and_eq_true] at hk
 exact Qbg d hi hd hk.1.1 hk.1.2 hk.2 hQ hy hS h
theorem pz1{α:Type}{l:List α}{i:Nat}{a:α}:l.toArray.setIfInBounds i a=(l.set i a).toArray:=List.setIfInBounds_toArray ..
theorem pz2{α:Type}{x:α}{xs:List α}{a:α}:(x :: xs).set 0 a=a :: xs:=List.set_cons_zero ..
theorem pz3{α:Type}{x:α}{xs:List α}{i:Nat}{a:α}:(x :: xs).set (i+1) a=x :: xs.set i a:=List.set_cons_succ ..
theorem zA:(∀(a:Act) (d:Tmp) (v:Value),a.put (some d) v={ tmps:=a.tmps.setIfInBounds d v,defers:=a.defers })/\(∀(a:Act) (v:Value),a.put none v=a)/\(∀ {α:Type} (l:List α) (i:Nat) (a:α),l.toArray.setIfInBounds i a=(l.set i a).toArray)/\(∀ {α:Type} (x:α) (xs:List α) (a:α),(x :: xs).set 0 a=a :: xs)/\(∀ {α:Type} (x:α) (xs:List α) (i:Nat) (a:α),(x :: xs).set (i+1) a=x :: xs.set i a):=⟨fun _ _ _=>rfl,fun _ _=>rfl,fun _ _ _=>pz1,fun _ _ _=>pz2,fun _ _ _ _=>pz3⟩
theorem zB:(∀(f:Nat->Value) (a:Act),Qa7 f [] a=a)/\(∀(f:Nat->Value) (i:Nat) (d:Option Tmp) (T:List (Nat × Option Tmp)) (a:Act),Qa7 f ((i,d) :: T) a=Qa7 f T (a.put d (f i)))/\(∀(a:Act) (d:Tmp) (v:Value),a.put (some d) v={ tmps:=a.tmps.setIfInBounds d v,defers:=a.defers })/\(∀(a:Act) (v:Value),a.put none v=a)/\(∀ {α:Type} (l:List α) (i:Nat) (a:α),l.toArray.setIfInBounds i a=(l.set i a).toArray)/\(∀ {α:Type} (x:α) (xs:List α) (a:α),(x :: xs).set 0 a=a :: xs)/\(∀ {α:Type} (x:α) (xs:List α) (i:Nat) (a:α),(x :: xs).set (i+1) a=x :: xs.set i a):=⟨fun _ _=>rfl,fun _ _ _ _ _=>rfl,zA⟩
theorem tk{S:World->Prop}{oi:Oper}{fuel:Nat}{listed:Array Bool}{a:Act}{w:World}(i:Nat)(v:Value)(d:Option Tmp)(hS:S w)(h:wpAnyH P md ops Q S fuel (listed.setIfInBounds i true) (a.put d v) w)(hi:ops[i]?=some oi:=by rfl)(hd:oi.dst=d:=by rfl)(hk:(Region.noSelect ops&&Region.free md ops listed i&&(Region.ready md ops listed).contains i)=true:=by kernel_rfl)(hy:YieldsIf P ops S oi v a:=by refine Or.inl ⟨by rfl,fun w' hS'=>?_⟩;go_simp;try with_reducible rfl)(hQ:∀ c (a b:Act) w,a.defers=b.defers->Q (.panic c) a w->Q (.panic c) b w:=by intro _ a b _ e h;cases a;cases b;cases e;exact h):wpAnyH P md ops Q S (fuel+1) listed a w:=Qah i v d hi hd hk hy hS h hQ
theorem tu{S:World->Prop}{oi:Oper}{fuel:Nat}{listed:Array Bool}{a:Act}{w:World}(i:Nat)(d:Option Tmp)(hS:S w)(h:wpAnyH P md ops Q S fuel (listed.setIfInBounds i true) (a.put d undef) w)(hi:ops[i]?=some oi:=by rfl)(hd:oi.dst=d:=by rfl)(hk:(Region.noSelect ops&&Region.free md ops listed i&&(Region.ready md ops listed).contains i)=true:=by kernel_rfl)(hy:YieldsIf P ops S oi undef a:=by refine Or.inr ⟨?_,rfl⟩;go_simp;try (intro h;cases h))(hQ:∀ c (a b:Act) w,a.defers=b.defers->Q (.panic c) a w->Q (.panic c) b w:=by intro _ a b _ e h;cases a;cases b;cases e;exact h):wpAnyH P md ops Q S (fuel+1) listed a w:=Qah i undef d hi hd hk hy hS h hQ
theorem oneH{S:World->Prop}(i:Nat){oi:Oper}{fuel:Nat}{listed:Array Bool}{a:Act}{w:World}(d:Option Tmp)(hr:Region.ready md ops listed=[i])(hi:ops[i]?=some oi)(hg:oi.guard=none)(hd:oi.dst=d)
 (h:∀ K':Act->World->Prop,Shut (∀ a' w',(∃ v,a'=a.put d v)->S w'->(S w'->wpAnyH P md ops Q S fuel (listed.setIfInBounds i true) a' w')->K' a' w')->Qoz (if Region.wanted oi (yielded ops a.tmps)=true then Oper.wp P oi a w K' Q else K' (a.put oi.dst undef) w)):wpAnyH P md ops Q S (fuel+1) listed a w:=by
 refine wpAnyH_all hr (by simp) fun j hj=>?_
 obtain rfl:j=i:=by simpa using hj
 unfold wpOp
 simp only[hi]
 have hw:Region.wanted oi (yielded ops a.tmps)=true:=by simp[Region.wanted,hg]
 rw[if_pos hw]
 have h2:=h (fun a' w'=>S w'/\wpAnyH P md ops Q S fuel (listed.setIfInBounds j true) a' w') fun a' w' _ hS hW=>⟨hS,hW hS⟩
 replace h2:=h2.out
 rw[if_pos hw] at h2
 exact .inl h2
theorem Qu5{S:World->Prop}(i:Nat){oi:Oper}{fuel:Nat}{listed:Array Bool}{a:Act}{w:World}(d:Option Tmp)(hr:Region.ready md ops listed=[i])(hi:ops[i]?=some oi)(hw:Region.wanted oi (yielded ops a.tmps)=true)(hd:oi.dst=d)
 (h:∀ K':Act->World->Prop,Shut (∀ a' w',(∃ v,a'=a.put d v)->S w'->(S w'->wpAnyH P md ops Q S fuel (listed.setIfInBounds i true) a' w')->K' a' w')->Qoz (if Region.wanted oi (yielded ops a.tmps)=true then Oper.wp P oi a w K' Q else K' (a.put oi.dst undef) w)):wpAnyH P md ops Q S (fuel+1) listed a w:=by
 refine wpAnyH_all hr (by simp) fun j hj=>?_
 obtain rfl:j=i:=by simpa using hj
 unfold wpOp
 simp only[hi]
 rw[if_pos hw]
 have h2:=h (fun a' w'=>S w'/\wpAnyH P md ops Q S fuel (listed.setIfInBounds j true) a' w') fun a' w' _ hS hW=>⟨hS,hW hS⟩
 replace h2:=h2.out
 rw[if_pos hw] at h2
 exact .inl h2
theorem Qgi{i:Nat}{oi:Oper}{v:Value}{fuel:Nat}{listed:Array Bool}{a:Act}{w:World}(d:Option Tmp)(hi:ops[i]?=some oi)(hd:oi.dst=d)
 (hs:Region.noSelect ops=true) (hf:Region.free md ops listed i=true) (hr:(Region.ready md ops listed).contains i=true)
 (hQ:∀ c (a b:Act) w,a.defers=b.defers->Q (.panic c) a w->Q (.panic c) b w) (hy:Yields P ops oi v a)
 (h:wpAny P md ops Q fuel (listed.setIfInBounds i true) (a.put d v) w):wpAny P md ops Q (fuel+1) listed a w:=by
 subst hd
 exact wpAny_take hi hs hf hr (fun c a w=>hQ c _ _ w (by cases oi.dst <;> rfl)) hy h
theorem oneA(i:Nat){oi:Oper}{fuel:Nat}{listed:Array Bool}{a:Act}{w:World}(d:Option Tmp)(hr:Region.ready md ops listed=[i])(hi:ops[i]?=some oi)(hg:oi.guard=none)(hd:oi.dst=d)
 (h:∀ K':Act->World->Prop,Shut (∀ a' w',(∃ v,a'=a.put d v)->wpAny P md ops Q fuel (listed.setIfInBounds i true) a' w'->K' a' w')->Qoz (if Region.wanted oi (yielded ops a.tmps)=true then Oper.wp P oi a w K' Q else K' (a.put oi.dst undef) w)):wpAny P md ops Q (fuel+1) listed a w:=by
 refine wpAny_all hr (by simp) fun j hj=>?_
 obtain rfl:j=i:=by simpa using hj
 unfold wpOp
 simp only[hi]
 have hw:Region.wanted oi (yielded ops a.tmps)=true:=by simp[Region.wanted,hg]
 rw[if_pos hw]
 have h2:=h (wpAny P md ops Q fuel (listed.setIfInBounds j true)) fun a' w' _ hW=>hW
 replace h2:=h2.out
 rw[if_pos hw] at h2
 exact .inl h2
end
end Go.Proofs.YtbnkjgcpjeedfaaGreat
