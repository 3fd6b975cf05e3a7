/-
  Path; Merkle; TreeP; Forks; Receipts; Leaf: No condition.
-/
import Derived.Test.YtbnkjgcpjeedfaaGreatHeadOps
import Derived.Test.YtbnkjgcpjeedfaaGreatRowTx
import Derived.Test.YtbnkjgcpjeedfaaGreatWords
namespace Go.Proofs.YtbnkjgcpjeedfaaGreat
set_option linter.unusedSimpArgs false
open Go.RowKit
set_option linter.unusedVariables false
def half (n:Nat):Nat:=2 ^ Nat.log2 (n-1)
theorem Qqq(n:Nat):0<half n:=Nat.two_pow_pos _
theorem Qte{n:Nat}(h:2<=n):half n<n:=by
 have:=Nat.log2_self_le (n:=n-1) (by omega)
 unfold half;omega
theorem half_eq{n k:Nat}(h1:2 ^ k<n)(h2:n<=2 ^ (k+1)):half n=2 ^ k:=by
 have h0:0<2 ^ k:=Nat.two_pow_pos _
 have:Nat.log2 (n-1)=k:=(Nat.log2_eq_iff (by omega)).2 ⟨by omega,by omega⟩
 rw[half,this]
def Qdy (w:Int) (l:List ByteArray):Bool:=l.all fun s=>(s.size:Int)==w
def Qor (w:Int) (t:ByteArray):ByteArray:=Qcy w 1 t
end Go.Proofs.YtbnkjgcpjeedfaaGreat
namespace Go.Proofs.YtbnkjgcpjeedfaaGreat
set_option linter.unusedSimpArgs false
set_option linter.unusedVariables false
section
variable {α : Type} (nd : α → α → α) (e : α)
def mrF:Nat->List α->α
 | 0,_=>e
 | f+1,l=>match l with
   | []=>e
   | [x]=>x
   | x :: y :: r=>nd (mrF f ((x :: y :: r).take (half (x :: y :: r).length))) (mrF f ((x :: y :: r).drop (half (x :: y :: r).length)))
def Qi9 (l:List α):α:=mrF nd e l.length l
theorem Qmk:∀(f g:Nat) (l:List α),l.length<=f->l.length<=g->mrF nd e f l=mrF nd e g l
 | 0,0,_,_,_=>rfl
 | 0,g+1,l,h,_=>by
   obtain rfl:l=[]:=List.eq_nil_of_length_eq_zero (by omega)
   rfl
 | f+1,0,l,_,h=>by
   obtain rfl:l=[]:=List.eq_nil_of_length_eq_zero (by omega)
   rfl
 | f+1,g+1,[],_,_=>rfl
 | f+1,g+1,[x],_,_=>rfl
 | f+1,g+1,x :: y :: r,hf,hg=>by
   have l1:=Qte (n:=(x :: y :: r).length) (by simp)
   have l2:=Qqq (x :: y :: r).length
   simp only[mrF]
   rw[Qmk f g _ (by rw[List.length_take];omega) (by rw[List.length_take];omega),Qmk f g _ (by rw[List.length_drop];omega) (by rw[List.length_drop];omega)]
theorem Qxp:Qi9 nd e []=e:=rfl
theorem Qxo(x:α):Qi9 nd e [x]=x:=rfl
theorem Qpj{l:List α}(h:2<=l.length):Qi9 nd e l=nd (Qi9 nd e (l.take (half l.length))) (Qi9 nd e (l.drop (half l.length))):=by
 have l1:=Qte h
 have l2:=Qqq l.length
 match l,h,l1,l2 with
 | x :: y :: r,_,l1,l2=>
   unfold Qi9
   obtain⟨f,hf⟩:∃ f,(x :: y :: r).length=f+1:=⟨r.length+1,by simp⟩
   rw[hf,mrF,<-hf]
   rw[Qmk nd e f ((x :: y :: r).take (half (x :: y :: r).length)).length _ (by rw[List.length_take];omega) (Nat.le_refl _),Qmk nd e f ((x :: y :: r).drop (half (x :: y :: r).length)).length _ (by rw[List.length_drop];omega) (Nat.le_refl _)]
theorem Qpk{y z:List α}{k:Nat}(hy:y.length=2 ^ k)(h0:0<z.length)(hz:z.length<=2 ^ k):Qi9 nd e (y++z)=nd (Qi9 nd e y) (Qi9 nd e z):=by
 have h1:0<2 ^ k:=Nat.two_pow_pos _
 have hl:(y++z).length=2 ^ k+z.length:=by rw[List.length_append,hy]
 have hh:half (y++z).length=2 ^ k:=half_eq (by omega) (by rw[hl,Nat.pow_succ];omega)
 rw[Qpj nd e (by omega),hh,<-hy,List.take_left,List.drop_left]
def Qqv:Nat->Nat->List α->α->List α
 | 0,_,s,v=>v :: s
 | _+1,_,[],v=>[v]
 | f+1,n,p :: r,v=>if n % 2=1 then Qqv f (n / 2) r (nd p v) else v :: p :: r
theorem Qha:∀(f n:Nat) (s:List α) (v:α),n % 2=0->Qqv nd f n s v=v :: s
 | 0,_,_,_,_=>rfl
 | f+1,n,[],v,_=>rfl
 | f+1,n,p :: r,v,h=>by rw[Qqv,if_neg (by omega)]
theorem Qpr:∀(f g n:Nat) (s:List α) (v:α),n<=f->n<=g->Qqv nd f n s v=Qqv nd g n s v
 | 0,g,n,s,v,h,_=>by rw[Qha nd 0 n s v (by omega),Qha nd g n s v (by omega)]
 | f+1,0,n,s,v,_,h=>by rw[Qha nd 0 n s v (by omega),Qha nd (f+1) n s v (by omega)]
 | f+1,g+1,n,[],v,_,_=>rfl
 | f+1,g+1,n,p :: r,v,hf,hg=>by
   rw[Qqv,Qqv]
   by_cases h:n % 2=1
   · rw[if_pos h,if_pos h]
     exact Qpr f g (n / 2) r (nd p v) (by omega) (by omega)
   · rw[if_neg h,if_neg h]
def Qd1 (n:Nat) (s:List α) (v:α):List α:=Qqv nd n n s v
theorem Qe6{n:Nat}{s:List α}{v:α}(h:n % 2=0):Qd1 nd n s v=v :: s:=by
 exact Qha nd n n s v h
theorem Qhb{n:Nat}{s:List α}{p v:α}(h:n % 2=1):Qd1 nd n (p :: s) v=Qd1 nd (n / 2) s (nd p v):=by
 unfold Qd1
 cases n with
 | zero=>omega
 | succ n=>
   rw[Qqv,if_pos h]
   exact Qpr nd n ((n+1) / 2) _ s _ (by omega) (Nat.le_refl _)
def Qbt (l:List α):List α:=(l.foldl (fun(a:Nat × List α) x=>(a.1+1,Qd1 nd a.1 a.2 x)) (0,[])).2
inductive Stk:Nat->Nat->List α->List α->Prop
 | nil (k:Nat):Stk 0 k [] []
 | even {n k:Nat} {l s:List α}:Stk (n+1) (k+1) l s->Stk (2*(n+1)) k l s
 | odd {n k:Nat} {l y s:List α}:Stk n (k+1) l s->y.length=2 ^ k->Stk (2*n+1) k (l++y) (Qi9 nd e y :: s)
theorem Stk.step{n k:Nat}{l s:List α}(h:Stk nd e n k l s):∀ x:List α,x.length=2 ^ k->Stk nd e (n+1) k (l++x) (Qd1 nd n s (Qi9 nd e x)):=by
 induction h with
 | nil k=>
   intro x hx
   rw[Qe6 nd rfl]
   exact Stk.odd (Stk.nil (k+1)) hx
 | @even n k l s h _=>
   intro x hx
   rw[Qe6 nd (by omega)]
   exact Stk.odd h hx
 | @odd n k l y s h hy ih=>
   intro x hx
   have h0:0<2 ^ k:=Nat.two_pow_pos _
   rw[Qhb nd (by omega),show(2*n+1) / 2=n by omega,<-Qpk nd e hy (by omega) (by omega),List.append_assoc,show 2*n+1+1=2*(n+1) by omega]
   exact Stk.even (ih (y++x) (by rw[List.length_append,hy,hx,Nat.pow_succ];omega))
theorem Stk.fold{n k:Nat}{l s:List α}(h:Stk nd e n k l s):∀ z:List α,0<z.length->z.length<=2 ^ k->s.foldl (fun r p=>nd p r) (Qi9 nd e z)=Qi9 nd e (l++z):=by
 induction h with
 | nil k=>intro z _ _;simp
 | @even n k l s h ih=>
   intro z h0 hz
   exact ih z h0 (by rw[Nat.pow_succ];omega)
 | @odd n k l y s h hy ih=>
   intro z h0 hz
   rw[List.foldl_cons,<-Qpk nd e hy h0 hz,List.append_assoc]
   exact ih (y++z) (by rw[List.length_append];omega) (by rw[List.length_append,hy,Nat.pow_succ];omega)
def Qjr:List α->α
 | []=>e
 | t :: s=>s.foldl (fun r p=>nd p r) t
theorem Stk.root{n k:Nat}{l s:List α}(h:Stk nd e n k l s):Qjr nd e s=Qi9 nd e l:=by
 induction h with
 | nil=>rfl
 | even _ ih=>exact ih
 | @odd n k l y s h hy _=>exact h.fold nd e y (by rw[hy];exact Nat.two_pow_pos _) (by rw[hy,Nat.pow_succ];omega)
theorem Qpe:∀(r:List α) (l s:List α),Stk nd e l.length 0 l s->Stk nd e (l.length+r.length) 0 (l++r) (r.foldl (fun(a:Nat × List α) x=>(a.1+1,Qd1 nd a.1 a.2 x)) (l.length,s)).2
 | [],l,s,h=>by simpa using h
 | x :: r,l,s,h=>by
   have h1:=h.step nd e [x] rfl
   rw[Qxo] at h1
   have h2:=Qpe r (l++[x]) (Qd1 nd l.length s x) (by rw[List.length_append];exact h1)
   simp only[List.length_append,List.length_cons,List.length_nil,List.append_assoc,List.singleton_append,List.foldl_cons] at h2 ⊢
   rw[show l.length+(r.length+1)=l.length+(0+1)+r.length by omega]
   exact h2
theorem Qwk(l:List α):Stk nd e l.length 0 l (Qbt nd l):=by
 have:=Qpe nd e l [] [] (Stk.nil 0)
 simpa [Qbt] using this
theorem Qlm(l:List α):Qjr nd e (Qbt nd l)=Qi9 nd e l:=(Qwk nd e l).root
def Qcj (n:Nat) (s:List α) (r:List α):List α:=(r.foldl (fun(a:Nat × List α) x=>(a.1+1,Qd1 nd a.1 a.2 x)) (n,s)).2
theorem Qkt(n:Nat)(s:List α):Qcj nd n s []=s:=rfl
theorem Qi4(n:Nat)(s:List α)(x:α)(r:List α):Qcj nd n s (x :: r)=Qcj nd (n+1) (Qd1 nd n s x) r:=rfl
theorem Quh:∀(r:List α) (a:Nat × List α),(r.foldl (fun(a:Nat × List α) x=>(a.1+1,Qd1 nd a.1 a.2 x)) a).1=a.1+r.length
 | [],a=>rfl
 | x :: r,a=>by rw[List.foldl_cons,Quh r];simp only[List.length_cons];omega
theorem Qih(n:Nat)(s r t:List α):Qcj nd n s (r++t)=Qcj nd (n+r.length) (Qcj nd n s r) t:=by
 unfold Qcj
 rw[List.foldl_append,<-Quh nd r (n,s)]
theorem Qrj(l r:List α):Qbt nd (l++r)=Qcj nd l.length (Qbt nd l) r:=by
 have:=Qih nd 0 [] l r
 rw[Nat.zero_add] at this
 exact this
end
def pcF:Nat->Nat->Nat
 | 0,_=>0
 | f+1,n=>n % 2+pcF f (n / 2)
theorem Qmj:∀(f g n:Nat),n<=f->n<=g->pcF f n=pcF g n
 | 0,0,_,_,_=>rfl
 | 0,g+1,n,h,_=>by
   obtain rfl:n=0:=by omega
   rw[pcF,pcF,<-Qmj 0 g (0 / 2) (by omega) (by omega)];rfl
 | f+1,0,n,_,h=>by
   obtain rfl:n=0:=by omega
   rw[pcF,pcF,Qmj f 0 (0 / 2) (by omega) (by omega)];rfl
 | f+1,g+1,n,hf,hg=>by rw[pcF,pcF,Qmj f g (n / 2) (by omega) (by omega)]
def pc (n:Nat):Nat:=pcF n n
theorem Qgu(n:Nat):pc n=n % 2+pc (n / 2):=by
 unfold pc
 cases n with
 | zero=>rfl
 | succ n=>rw[pcF,Qmj n ((n+1) / 2) _ (by omega) (Nat.le_refl _)]
theorem Qh9(n:Nat):pc n<=n:=by
 induction n using Nat.strongRecOn with
 | _ n ih=>
   rcases Nat.eq_zero_or_pos n with h|h
   · subst h;exact Nat.le_refl _
   · rw[Qgu];have:=ih (n / 2) (by omega);omega
theorem pc_next(n:Nat):pc (n+1)<=pc n+1:=by
 induction n using Nat.strongRecOn with
 | _ n ih=>
   rw[Qgu (n+1),Qgu n]
   rcases Nat.mod_two_eq_zero_or_one n with h|h
   · rw[show(n+1) / 2=n / 2 by omega];omega
   · have:=ih (n / 2) (by omega)
     rw[show(n+1) / 2=n / 2+1 by omega];omega
theorem Qqa{n:Nat}(h:n % 2=0):pc (n+1)=pc n+1:=by
 rw[Qgu (n+1),Qgu n,show(n+1) / 2=n / 2 by omega];omega
theorem Qpf{n:Nat}(h:n % 2=1):pc (n+1)=pc (n / 2+1)/\pc n=pc (n / 2)+1:=by
 rw[Qgu (n+1),Qgu n,show(n+1) / 2=n / 2+1 by omega];omega
theorem Qn7{α:Type}(nd:α->α->α):∀(n:Nat) (s:List α) (v:α),s.length=pc n->(Qd1 nd n s v).length=pc (n+1):=by
 intro n
 induction n using Nat.strongRecOn with
 | _ n ih=>
   intro s v hs
   rcases Nat.mod_two_eq_zero_or_one n with h|h
   · rw[Qe6 nd h,Qqa h,List.length_cons,hs]
   · obtain⟨h1,h2⟩:=Qpf h
     match s,hs with
     | [],hs=>rw[h2] at hs;simp at hs
     | p :: r,hs=>
       rw[Qhb nd h,h1]
       exact ih (n / 2) (by omega) r _ (by rw[h2] at hs;simpa using hs)
theorem Qg6{α:Type}(nd:α->α->α):∀(r:List α) (n:Nat) (s:List α),s.length=pc n->(Qcj nd n s r).length=pc (n+r.length)
 | [],n,s,h=>h
 | x :: r,n,s,h=>by
   rw[Qi4,Qg6 nd r _ _ (Qn7 nd n s x h),List.length_cons]
   congr 1;omega
theorem Qeq{α:Type}(nd:α->α->α)(l:List α):(Qbt nd l).length=pc l.length:=by
 have:=Qg6 nd l 0 [] rfl
 rw[Nat.zero_add] at this
 exact this
end Go.Proofs.YtbnkjgcpjeedfaaGreat
namespace Go.Proofs.YtbnkjgcpjeedfaaGreat
set_option linter.unusedSimpArgs false
open Go.RowKit
set_option linter.unusedVariables false
def ndB (w:Int) (a b:ByteArray):ByteArray:=Qor w (a++b)
def Qff (w:Int) (l:List ByteArray):ByteArray:=Qi9 (ndB w) (Qcg w) l
theorem Qph{w:Int}{t:ByteArray}(hw:inR w 1 32=true)(ht:t.size<=4000):(Qor w t).size=w.toNat:=by
 unfold Qor
 exact Qeb (by rw[Qbr,hw];simp[inR];omega)
theorem Qo4{w:Int}(hw:inR w 1 32=true):∀(n:Nat) (l:List ByteArray),l.length<=n->(∀ s∈l,s.size=w.toNat)->(Qff w l).size=w.toNat:=by
 have hw2:=Qa0 hw
 intro n
 induction n with
 | zero=>
   intro l hl _
   obtain rfl:l=[]:=List.eq_nil_of_length_eq_zero (by omega)
   exact Qeb (by rw[Qn1];exact hw)
 | succ n ih=>
   intro l hl h
   match l,hl,h with
   | [],_,_=>exact Qeb (by rw[Qn1];exact hw)
   | [x],_,h=>exact h x (by simp)
   | x :: y :: r,hl,h=>
     have l1:=Qte (n:=(x :: y :: r).length) (by simp)
     have l2:=Qqq (x :: y :: r).length
     have a:=ih ((x :: y :: r).take (half (x :: y :: r).length)) (by rw[List.length_take];omega) (fun s hs=>h s (List.mem_of_mem_take hs))
     have b:=ih ((x :: y :: r).drop (half (x :: y :: r).length)) (by rw[List.length_drop];omega) (fun s hs=>h s (List.mem_of_mem_drop hs))
     unfold Qff at a b ⊢
     rw[Qpj _ _ (by simp)]
     refine Qph hw ?_
     rw[ByteArray.size_append,a,b];omega
set_option maxHeartbeats 2000000
def Ql0 (a b:Qak):Bool:=((a.size==b.size)&&!(a.root.toList==b.root.toList))||((a.taken==b.taken)&&!(a.takenRoot.toList==b.takenRoot.toList))
theorem Qiz{a b:List UInt8}{p:Bool}(h:(a==b)=p):(a != b)=!p:=by rw[bne,h]
theorem Qu3(a b:Qak)(w:World):Calls Tryz.prog 240 #[.agg #[.int .i64 a.number,.int .i64 a.size,.string a.root,.int .i64 a.taken,.string a.takenRoot],.agg #[.int .i64 b.number,.int .i64 b.size,.string b.root,.int .i64 b.taken,.string b.takenRoot]] w fun e w'=>e=.returned (.bool (Ql0 a b))/\Ext w w':=by
 have E:=hU (show Ql0 a b=(((a.size==b.size)&&!(a.root.toList==b.root.toList))||((a.taken==b.taken)&&!(a.takenRoot.toList==b.takenRoot.toList))) from rfl)
 cases c1:(a.size==b.size) <;> cases c2:(a.root.toList==b.root.toList) <;> cases c3:(a.taken==b.taken) <;> cases c4:(a.takenRoot.toList==b.takenRoot.toList)
 all_goals
  have E2:=hU (show Ql0 a b=_ by rw[E.out,c1,c2,c3,c4])
  have c2':=Qiz c2
  have c4':=Qiz c4
  clear E
  go_enter Tryz.func240,Tryz.ntmps240
  go_wp2_with fail
  go_ret
  exact⟨Qam E2.out.symm,by go_grown⟩
set_option maxRecDepth 100000
theorem Qnh(n:Int)(w:World):Calls Tryz.prog 190 #[.int .i64 n] w fun e w'=>e=.returned (.bool (inR n 0 511))/\w=w':=by
 go_enter Tryz.func190,Tryz.ntmps190
 go_wp2_with fail
 refine(Qba _ _ _ _).mono ?_
 rintro e w1 ⟨rfl,rfl⟩
 go_wp2_with fail
 go_ret
 exact⟨rfl,rfl⟩
def Qau (d:Qab):Bool:=Qcn d.reader&&Qcn d.topic&&inR d.index 0 511
def Qit (d:Qab):ByteArray:=⟨#[82]⟩++(octB d.reader.size++d.reader)++(octB d.topic.size++d.topic)++(octB (d.index / 256)++octB d.index)
def Qan (d:Qab):ByteArray:=if Qau d then Qit d else⟨#[]⟩
theorem Qb7{s:ByteArray}(h:Qcn s=true):s.size<=20:=by
 simp only[Qcn,Bool.and_eq_true] at h
 have:=(Qa0 h.1).2
 omega
theorem Qc5(d:Qab)(w:World)(hd:d.Ok):Calls Tryz.prog 113 #[.agg #[.string d.reader,.string d.topic,.int .i64 d.index]] w fun e w'=>e=.returned (.bool (Qau d))/\Ext w w':=by
 obtain⟨k0,k1,_⟩:=hd
 cases b1:Qcn d.reader <;> cases b2:Qcn d.topic
 all_goals
  go_enter Tryz.func113,Tryz.ntmps113
  go_wp2_with (first|(go_at_call_of 189 (Value.string d.reader);refine(Qi7 _ _ k0).mono ?_;rintro e w' ⟨rfl,rfl⟩)|(go_at_call_of 189 (Value.string d.topic);refine(Qi7 _ _ k1).mono ?_;rintro e w' ⟨rfl,rfl⟩)|(go_at_call 190;refine(Qnh _ _).mono ?_;rintro e w' ⟨rfl,rfl⟩))
  go_ret
  exact⟨by simp[Qau,b1,b2],by go_grown⟩
theorem Qey(d:Qab)(w:World)(hd:d.Ok):Calls Tryz.prog 86 #[.agg #[.string d.reader,.string d.topic,.int .i64 d.index]] w fun e w'=>e=.returned (.bool (Qau d))/\Ext w w':=by
 obtain⟨k0,k1,_⟩:=hd
 cases b1:Qcn d.reader <;> cases b2:Qcn d.topic
 all_goals
  go_enter Tryz.func86,Tryz.ntmps86
  go_wp2_with (first|(go_at_call_of 150 (Value.string d.reader);refine(Qcf _ _ k0).mono ?_;rintro e w' ⟨rfl,rfl⟩)|(go_at_call_of 150 (Value.string d.topic);refine(Qcf _ _ k1).mono ?_;rintro e w' ⟨rfl,rfl⟩)|(go_at_call 107;refine(Qcd _ _ _ _).mono ?_;rintro e w' ⟨rfl,rfl⟩))
  go_ret
  exact⟨by simp[Qau,b1,b2],by go_grown⟩
theorem Qet(d:Qab)(w:World)(hd:d.Ok):Calls Tryz.prog 70 #[.agg #[.string d.reader,.string d.topic,.int .i64 d.index]] w fun e w'=>e=.returned (.tuple #[.string (Qan d),.bool (Qau d)])/\Ext w w':=by
 cases b:Qau d
 · have Ht:=hU (show Qan d=⟨#[]⟩ by simp[Qan,b])
   go_enter Tryz.func70,Tryz.ntmps70
   go_wp2_with fail
   have he:=Ext.new (Below.refl w.heap.size w) (.cells #[.string d.reader,.string d.topic,.int .i64 d.index] 42)
   refine(Qc5 d _ hd).mono ?_
   rintro e w1 ⟨rfl,h1⟩
   replace he:=he.next h1
   go_wp2_with fail
   go_ret2
   exact⟨by rw[Ht.out];rfl,he⟩
 · have Ht:=hU (show Qan d=Qit d by simp[Qan,b])
   have hb:=b
   simp only[Qau,Bool.and_eq_true] at hb
   have z1:=Qb7 hb.1.1
   have z2:=Qb7 hb.1.2
   have z3:=Qa0 hb.2
   obtain⟨z3,z4⟩:=z3
   clear hb
   have y1:(octB (d.reader.size:Int)).size<=1:=Nat.le_refl _
   have y2:(octB (d.topic.size:Int)).size<=1:=Nat.le_refl _
   have y3:(octB (d.index / 256)).size<=1:=Nat.le_refl _
   have y4:(octB d.index).size<=1:=Nat.le_refl _
   have n1:¬ 9223372036854775807<1+((octB (d.reader.size:Int)).size+d.reader.size):=by omega
   have n2:¬ 9223372036854775807<1+((octB (d.reader.size:Int)).size+d.reader.size)+((octB (d.topic.size:Int)).size+d.topic.size):=by omega
   have n3:¬ 9223372036854775807<1+((octB (d.reader.size:Int)).size+d.reader.size)+((octB (d.topic.size:Int)).size+d.topic.size)+((octB (d.index / 256)).size+(octB d.index).size):=by omega
   go_enter Tryz.func70,Tryz.ntmps70
   go_wp2_with fail
   have hB:=Blk.new w 42 #[.string d.reader,.string d.topic,.int .i64 d.index]
   have he:=Ext.new (Below.refl w.heap.size w) (.cells #[.string d.reader,.string d.topic,.int .i64 d.index] 42)
   refine(Qc5 d _ hd).mono ?_
   rintro e w1 ⟨rfl,h1⟩
   replace he:=he.next h1;replace hB:=hB.ext h1;clear h1
   obtain⟨g,hg⟩:∃ g,g=w.heap.size:=⟨_,rfl⟩
   rw[<-hg] at hB
   rw[<-hg]
   clear hg
   have c0:w1.cell? ⟨g,0,none⟩=some (.string d.reader):=hB.cell 0
   have c1:w1.cell? ⟨g,1,none⟩=some (.string d.topic):=hB.cell 1
   have c2:w1.cell? ⟨g,2,none⟩=some (.int .i64 d.index):=hB.cell 2
   go_wp2_with fail
   go_region_held3 (fun w'=>w'.cell? ⟨g,0,none⟩=some (.string d.reader)/\w'.cell? ⟨g,1,none⟩=some (.string d.topic)/\w'.cell? ⟨g,2,none⟩=some (.int .i64 d.index)/\Blk w' g 42 #[.string d.reader,.string d.topic,.int .i64 d.index]/\Ext w w')
    (first
     | exact⟨c0,c1,c2,hB.drew,he.drew⟩
     | (go_split_ands;refine⟨?_,?_,?_,?_,?_⟩ <;> assumption)
     | (go_split_ands;have hB':=Blk.ext (by assumption) h1;exact⟨hB'.cell 0,hB'.cell 1,hB'.cell 2,hB',Ext.next (by assumption) h1⟩))
    (first
     | (go_at_call_of 131 (Value.string d.reader);refine(Qis _ _ (by omega)).mono ?_;rintro e w' ⟨rfl,h1⟩)
     | (go_at_call_of 131 (Value.string d.topic);refine(Qis _ _ (by omega)).mono ?_;rintro e w' ⟨rfl,h1⟩)
     | (go_at_call 132;refine(Qhi _ _ (by omega) (by omega)).mono ?_;rintro e w' ⟨rfl,h1⟩))
   all_goals
    go_wp2_with fail
    go_ret2
    refine⟨by rw[Ht.out];rfl,?_⟩
    go_split_ands
    assumption
theorem Qc1(d:Qab)(w:World)(hd:d.Ok):Calls Tryz.prog 27 #[.agg #[.string d.reader,.string d.topic,.int .i64 d.index]] w fun e w'=>e=.returned (.tuple #[.string (Qan d),.bool (Qau d)])/\Ext w w':=by
 cases b:Qau d
 · have Ht:=hU (show Qan d=⟨#[]⟩ by simp[Qan,b])
   go_enter Tryz.func27,Tryz.ntmps27
   go_wp2_with fail
   have he:=Ext.new (Below.refl w.heap.size w) (.cells #[.string d.reader,.string d.topic,.int .i64 d.index] 42)
   refine(Qey d _ hd).mono ?_
   rintro e w1 ⟨rfl,h1⟩
   replace he:=he.next h1
   go_wp2_with fail
   go_ret2
   exact⟨by rw[Ht.out];rfl,he⟩
 · have Ht:Hid (Qan d=⟨#[82]⟩++(lowB d.reader.size 1++d.reader)++(lowB d.topic.size 1++d.topic)++lowB d.index.toNat 2):=by
    have h0:0<=d.index:=by simp only[Qau,Bool.and_eq_true] at b;exact(Qa0 b.2).1
    rw[Qkj,Qkj,Qi2,Int.toNat_of_nonneg h0]
    exact hU (by simp[Qan,b,Qit])
   have hb:=b
   simp only[Qau,Bool.and_eq_true] at hb
   have z1:=Qb7 hb.1.1
   have z2:=Qb7 hb.1.2
   have z3:=Qa0 hb.2
   obtain⟨z3,z4⟩:=z3
   clear hb
   have y1:(lowB d.reader.size 1).size<=1:=by rw[Qby];exact Nat.le_refl _
   have y2:(lowB d.topic.size 1).size<=1:=by rw[Qby];exact Nat.le_refl _
   have y3:(lowB d.index.toNat 2).size<=2:=by rw[Qby];exact Nat.le_refl _
   have n1:¬ 9223372036854775807<1+((lowB d.reader.size 1).size+d.reader.size):=by omega
   have n2:¬ 9223372036854775807<1+((lowB d.reader.size 1).size+d.reader.size)+((lowB d.topic.size 1).size+d.topic.size):=by omega
   have n3:¬ 9223372036854775807<1+((lowB d.reader.size 1).size+d.reader.size)+((lowB d.topic.size 1).size+d.topic.size)+(lowB d.index.toNat 2).size:=by omega
   go_enter Tryz.func27,Tryz.ntmps27
   go_wp2_with fail
   have hB:=Blk.new w 42 #[.string d.reader,.string d.topic,.int .i64 d.index]
   have he:=Ext.new (Below.refl w.heap.size w) (.cells #[.string d.reader,.string d.topic,.int .i64 d.index] 42)
   refine(Qey d _ hd).mono ?_
   rintro e w1 ⟨rfl,h1⟩
   replace he:=he.next h1;replace hB:=hB.ext h1;clear h1
   obtain⟨g,hg⟩:∃ g,g=w.heap.size:=⟨_,rfl⟩
   rw[<-hg] at hB
   rw[<-hg]
   clear hg
   have c0:w1.cell? ⟨g,0,none⟩=some (.string d.reader):=hB.cell 0
   have c1:w1.cell? ⟨g,1,none⟩=some (.string d.topic):=hB.cell 1
   have c2:w1.cell? ⟨g,2,none⟩=some (.int .i64 d.index):=hB.cell 2
   go_wp2_with fail
   go_region_held3 (fun w'=>w'.cell? ⟨g,0,none⟩=some (.string d.reader)/\w'.cell? ⟨g,1,none⟩=some (.string d.topic)/\w'.cell? ⟨g,2,none⟩=some (.int .i64 d.index)/\Blk w' g 42 #[.string d.reader,.string d.topic,.int .i64 d.index]/\Ext w w')
    (first
     | exact⟨c0,c1,c2,hB.drew,he.drew⟩
     | (go_split_ands;refine⟨?_,?_,?_,?_,?_⟩ <;> assumption)
     | (go_split_ands;have hB':=Blk.ext (by assumption) h1;exact⟨hB'.cell 0,hB'.cell 1,hB'.cell 2,hB',Ext.next (by assumption) h1⟩))
    (first
     | (go_at_call_of 84 (Value.string d.reader);refine(Qid _ _ (by omega)).mono ?_;rintro e w' ⟨rfl,h1⟩)
     | (go_at_call_of 84 (Value.string d.topic);refine(Qid _ _ (by omega)).mono ?_;rintro e w' ⟨rfl,h1⟩)
     | (go_at_call 85;refine(Qfd _ 2 _ (by omega) (by omega) (by decide)).mono ?_;rintro e w' ⟨rfl,h1⟩))
   all_goals
    go_wp2_with fail
    go_ret2
    refine⟨by rw[Ht.out];rfl,?_⟩
    go_split_ands
    assumption
def Qef (t:Int) (k b:ByteArray):Bool:=inR t 0 1000000000&&decide ((k.size:Int)<=40)&&decide ((b.size:Int)<=400)
def Qbk (d:Qaf):Bool:=Qcn d.topic&&inR d.index 0 511&&Qef d.time d.key d.body
def Qva (d:Qaf):ByteArray:=⟨#[69]⟩++(octB d.topic.size++d.topic)++(octB (d.index / 256)++octB d.index)++lowB d.time.toNat 4++(octB d.key.size++d.key)++(octB ((d.body.size:Int) / 256)++octB d.body.size)++d.body
def Qa3 (d:Qaf):ByteArray:=if Qbk d then Qva d else⟨#[]⟩
theorem Qm5(t:Int)(k b:ByteArray)(w:World)(hk:k.size<=maxLen)(hb:b.size<=maxLen):Calls Tryz.prog 191 #[.int .i64 t,.string k,.string b] w fun e w'=>e=.returned (.bool (Qef t k b))/\w=w':=by
 unfold maxLen at *
 cases c1:inR t 0 1000000000
 · go_enter Tryz.func191,Tryz.ntmps191
   go_wp2_with (go_at_call 108;refine(Qba _ _ _ _).mono ?_;rintro e w' ⟨rfl,rfl⟩)
   go_ret
   exact⟨by simp[Qef,c1],rfl⟩
 · by_cases c2:(k.size:Int)<=40
   all_goals
    go_enter Tryz.func191,Tryz.ntmps191
    go_wp2_with (go_at_call 108;refine(Qba _ _ _ _).mono ?_;rintro e w' ⟨rfl,rfl⟩)
    go_ret
    exact⟨by first|(simp[Qef,c1,c2];done)|(simp[Qef,c1];omega),rfl⟩
theorem Qfa(d:Qaf)(w:World)(hd:d.Ok):Calls Tryz.prog 111 #[.agg #[.string d.topic,.int .i64 d.index,.int .i64 d.time,.string d.key,.string d.body]] w fun e w'=>e=.returned (.bool (Qbk d))/\Ext w w':=by
 obtain⟨k0,_,_,k3,k4⟩:=hd
 cases b1:Qcn d.topic <;> cases b2:inR d.index 0 511
 all_goals
  go_enter Tryz.func111,Tryz.ntmps111
  go_wp2_with (first|(go_at_call 189;refine(Qi7 _ _ k0).mono ?_;rintro e w' ⟨rfl,rfl⟩)|(go_at_call 190;refine(Qnh _ _).mono ?_;rintro e w' ⟨rfl,rfl⟩)|(go_at_call 191;refine(Qm5 _ _ _ _ k3 k4).mono ?_;rintro e w' ⟨rfl,rfl⟩))
  go_ret
  exact⟨by simp[Qbk,b1,b2],by go_grown⟩
theorem Qeo(d:Qaf)(w:World)(hd:d.Ok):Calls Tryz.prog 83 #[.agg #[.string d.topic,.int .i64 d.index,.int .i64 d.time,.string d.key,.string d.body]] w fun e w'=>e=.returned (.bool (Qbk d))/\Ext w w':=by
 obtain⟨k0,_,_,k3,k4⟩:=hd
 unfold maxLen at k3 k4
 cases b1:Qcn d.topic
 · go_enter Tryz.func83,Tryz.ntmps83
   go_wp2_with (go_at_call 150;refine(Qcf _ _ k0).mono ?_;rintro e w' ⟨rfl,rfl⟩)
   go_ret
   exact⟨by simp[Qbk,b1],by go_grown⟩
 · cases b2:inR d.index 0 511
   · go_enter Tryz.func83,Tryz.ntmps83
     go_wp2_with (first|(go_at_call 150;refine(Qcf _ _ k0).mono ?_;rintro e w' ⟨rfl,rfl⟩)|(go_at_call 107;refine(Qcd _ _ _ _).mono ?_;rintro e w' ⟨rfl,rfl⟩))
     go_ret
     exact⟨by simp[Qbk,b1,b2],by go_grown⟩
   · cases b3:inR d.time 0 1000000000
     · go_enter Tryz.func83,Tryz.ntmps83
       go_wp2_with (first|(go_at_call 150;refine(Qcf _ _ k0).mono ?_;rintro e w' ⟨rfl,rfl⟩)|(go_at_call 107;refine(Qcd _ _ _ _).mono ?_;rintro e w' ⟨rfl,rfl⟩))
       go_ret
       exact⟨by simp[Qbk,Qef,b1,b2,b3],by go_grown⟩
     · by_cases b4:(d.key.size:Int)<=40
       all_goals
        go_enter Tryz.func83,Tryz.ntmps83
        go_wp2_with (first|(go_at_call 150;refine(Qcf _ _ k0).mono ?_;rintro e w' ⟨rfl,rfl⟩)|(go_at_call 107;refine(Qcd _ _ _ _).mono ?_;rintro e w' ⟨rfl,rfl⟩))
        go_ret
        exact⟨by first|(simp[Qbk,Qef,b1,b2,b3,b4];done)|(simp[Qbk,Qef,b1,b2,b3];omega),by go_grown⟩
theorem Qs5(n:Nat):Qc8 [(n:Int) / 16777216 % 256,(n:Int) / 65536 % 256,(n:Int) / 256 % 256,(n:Int) % 256]=lowB n 4:=by
 show _=octB ((n / 256 ^ 3:Nat):Int)++(octB ((n / 256 ^ 2:Nat):Int)++(octB ((n / 256 ^ 1:Nat):Int)++(octB ((n / 256 ^ 0:Nat):Int)++⟨#[]⟩)))
 rw[append_nil]
 have e:((n / 256 ^ 3:Nat):Int)=(n:Int) / 16777216/\((n / 256 ^ 2:Nat):Int)=(n:Int) / 65536/\((n / 256 ^ 1:Nat):Int)=(n:Int) / 256/\((n / 256 ^ 0:Nat):Int)=(n:Int):=by
  refine⟨?_,?_,?_,?_⟩ <;> simp
 rw[e.1,e.2.1,e.2.2.1,e.2.2.2]
 rfl
theorem Qqz(n:Nat)(w:World)(hn:n<4294967296):Calls Tryz.prog 133 #[.int .u32 (n:Int)] w fun e w'=>e=.returned (.string (lowB n 4))/\Ext w w':=by
 have hconv:=Qg9 [(n:Int) / 16777216 % 256,(n:Int) / 65536 % 256,(n:Int) / 256 % 256,(n:Int) % 256] (by intro x hx;simp only[List.mem_cons,List.not_mem_nil,or_false] at hx;omega) w
 rw[Qs5] at hconv
 simp only[List.length_cons,List.length_nil,Nat.zero_add,List.map_cons,List.map_nil,Nat.reduceAdd,show(n:Int) / 16777216 % 256=(n:Int) / 16777216 from by omega] at hconv
 go_enter Tryz.func133,Tryz.ntmps133
 go_wp2_with fail
 go_ret
 exact⟨rfl,by go_grown⟩
theorem Qq0(n:Int)(w:World)(h0:0<=n)(hn:n<4294967296):Calls Tryz.prog 133 #[.int .u32 n] w fun e w'=>e=.returned (.string (lowB n.toNat 4))/\Ext w w':=by
 obtain⟨m,rfl⟩:=Int.eq_ofNat_of_zero_le h0
 rw[Int.toNat_natCast]
 exact Qqz m w (by omega)
end Go.Proofs.YtbnkjgcpjeedfaaGreat
