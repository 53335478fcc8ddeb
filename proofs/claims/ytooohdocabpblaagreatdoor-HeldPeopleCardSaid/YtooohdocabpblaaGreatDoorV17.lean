/- Constants run by themselves (1): the sides of an operation are decided. -/
import Derived.Test.YtooohdocabpblaaGreatDoorV16
set_option linter.all false
namespace Go.Av
open RowKit
def DR:Res->Type
 | .side p _=>Decidable p
 | .sto p _ _=>Decidable p
 | _=>PUnit
def DS:Option (LA×Prop)->Type
 | some x=>Decidable x.2
 | none=>PUnit
instance dec_nil {α:Type}(l:List α):Decidable (l=[]):=match l with
 | []=>isTrue rfl
 | _::_=>isFalse (by simp)
instance dec_inr (k:IntKind)(n:Int):Decidable (inr k n):=by
 cases k <;> (unfold inr; infer_instance)
instance dec_has (d:Option TypeDesc):Decidable (has d):=inferInstanceAs (Decidable (d.isSome=true))
instance dec_part (row:Bool)(cs:LA)(off sz:Nat):Decidable (xpartOk row cs off sz):=match row with
 | true=>inferInstanceAs (Decidable (off+sz<=cs.length))
 | false=>inferInstanceAs (Decidable (off<cs.length))
instance dec_all (P:Program):∀ l:List Field,Decidable (AnF P l)
 | []=>isTrue trivial
 | f::r=>match dec_all P r with
  | isTrue h=>if g:has (P.underlying f.type) then isTrue ⟨g,h⟩ else isFalse fun x=>g x.1
  | isFalse h=>isFalse fun x=>h x.2
def DR.side{p:Prop}{v:AV} [d:Decidable p]:DR (.side p v):=d
def DR.sto{p:Prop}{v:AV}{s:LB} [d:Decidable p]:DR (.sto p v s):=d
def Lh(b:Bool){x y:Res}(p:DR x)(q:DR y):DR (cond b x y):=match b with
 | true=>p
 | false=>q
def DR.ite{c:Prop} [Decidable c]{x y:Res}(p:DR x)(q:DR y):DR (if c then x else y) :=
 if h:c then cast (by rw[if_pos h]) p else cast (by rw[if_neg h]) q
section
variable {wr frz:Bool}{P:Program}{e:Env}{sto:LB}
def A4M{k:IntKind}{n:Int}:DR (AjY wr k n):=Lh _ PUnit.unit DR.side
def d_int{op:BinOp}{k:IntKind}{a b:Int}:DR (xint wr op k a b):=match op with
 | .add|.sub|.mul=>A4M
 | .quo=>Lh _ DR.side DR.side
 | .rem=>Lh _ DR.side DR.side
 | .shr=>DR.side
 | .eql|.neq|.lss|.leq|.gtr|.geq=>PUnit.unit
 | .and|.or|.xor|.shl|.andNot=>PUnit.unit
def d_str{op:BinOp}{a b:LU}:DR (xstr op a b):=by
 unfold xstr
 split <;> first|exact PUnit.unit|exact DR.side|exact DR.sto
def A7J{op:BinOp}{a b:Bool}{d:Option TypeDesc}:DR (AtA op a b d):=by
 unfold AtA
 split <;> exact PUnit.unit
def d_bin{d:Option TypeDesc}{op:BinOp}{x y:AV}:DR (xbin wr d op x y):=by
 unfold xbin
 split
 .exact DR.ite d_int PUnit.unit
 .exact d_str
 .exact A7J
 .exact PUnit.unit
def A4N{neg:Bool}{x:AV}:DR (AdL sto neg x):=by
 unfold AdL
 repeat' (first|exact PUnit.unit|exact DR.side|exact DR.sto|refine Lh _ ?_ ?_|split)
def A0C{neg:Bool}{x:AV}:DR (AcC sto neg x):=by
 unfold AcC
 repeat' (first|exact PUnit.unit|exact DR.side|exact DR.sto|refine Lh _ ?_ ?_|split)
def d_not{x:AV}:DR (xnot x):=by
 unfold xnot
 repeat' (first|exact PUnit.unit|exact DR.side|exact DR.sto|refine Lh _ ?_ ?_|split)
def d_neg{x:AV}:DR (xneg x):=by
 unfold xneg
 repeat' (first|exact PUnit.unit|exact DR.side|exact DR.sto|refine Lh _ ?_ ?_|split)
def A7K{c x y:AV}:DR (xpick c x y):=by
 unfold xpick
 repeat' (first|exact PUnit.unit|exact DR.side|exact DR.sto|refine Lh _ ?_ ?_|split)
def AwU{x:AV}{i:Nat}:DR (xextract x i):=by
 unfold xextract
 repeat' (first|exact PUnit.unit|exact DR.side|exact DR.sto|refine Lh _ ?_ ?_|split)
def A4O{t te:Option TypeDesc}{sz:Nat}{x i:AV}:DR (AhV t te sz x i):=by
 unfold AhV
 repeat' (first|exact PUnit.unit|exact DR.side|exact DR.sto|refine Lh _ ?_ ?_|split)
def A0D{x:AV}{o:Option (Nat×TypeId)}:DR (AeU P x o):=by
 unfold AeU
 repeat' (first|exact PUnit.unit|exact DR.side|exact DR.sto|refine Lh _ ?_ ?_|split)
def A7L{l:LA}{x:AV}:DR (xnew sto l x):=by
 unfold xnew
 repeat' (first|exact PUnit.unit|exact DR.side|exact DR.sto|refine Lh _ ?_ ?_|split)
def AsA{p:Prop} [Decidable p]{x:AV}{k:Nat}:DR (xptrAddIf p sto x k):=by
 unfold xptrAddIf
 repeat' (first|exact PUnit.unit|exact DR.side|exact DR.sto|refine Lh _ ?_ ?_|split)
def A4P{d:Option TypeDesc}{sz:Nat}{p:Prop} [Decidable p]{cs:LA}{off:Nat}:DR (AnD d sz p cs off):=by
 unfold AnD
 repeat' (first|exact PUnit.unit|exact DR.side|exact DR.sto|refine Lh _ ?_ ?_|split)
def A0E{sz id n j off:Nat}{vs:LA}{b:Blk}:DR (AhX sto sz id n j off vs b):=by
 unfold AhX
 repeat' (first|exact PUnit.unit|exact DR.side|exact DR.sto|refine Lh _ ?_ ?_|split)
def A7M{x:AV}:DR (AuX sto x):=by
 unfold AuX
 repeat' (first|exact PUnit.unit|exact DR.side|exact DR.sto|refine Lh _ ?_ ?_|split)
def A4Q{x:AV}:DR (AnE sto x):=by
 unfold AnE
 repeat' (first|exact PUnit.unit|exact DR.side|exact DR.sto|refine Lh _ ?_ ?_|split)
def d_len{x:AV}{d:Option TypeDesc}:DR (xlen sto x d):=by
 unfold xlen
 repeat' (first|exact PUnit.unit|exact DR.side|exact DR.sto|refine Lh _ ?_ ?_|split)
def d_cap{x:AV}{d:Option TypeDesc}:DR (xcap x d):=by
 unfold xcap
 repeat' (first|exact PUnit.unit|exact DR.side|exact DR.sto|refine Lh _ ?_ ?_|split)
def A7N{f:AV}{l:LA}:DR (ApQ f l):=by
 unfold ApQ
 repeat' (first|exact PUnit.unit|exact DR.side|exact DR.sto|refine Lh _ ?_ ?_|split)
def A4R{d:Option TypeDesc}{z:LA}{l:List (Nat×AV)}:DR (AgS P d z l):=by
 unfold AgS
 repeat' (first|exact PUnit.unit|exact DR.side|exact DR.sto|refine Lh _ ?_ ?_|split)
def AoM{row:Bool}{sz:Nat}{z:LA}{n:Nat}{l:List (Nat×AV)}:DR (AbO frz row sz sto z n l):=by
 unfold AbO
 repeat' (first|exact PUnit.unit|exact DR.side|exact DR.sto|refine Lh _ ?_ ?_|split)
def A4S{sz:Nat}:DR (ArM frz sto sz):=by
 unfold ArM
 repeat' (first|exact PUnit.unit|exact DR.side|exact DR.sto|refine Lh _ ?_ ?_|split)
def A7O{id off len cap sz bytes:Nat}{z L:LA}{p:Prop} [Decidable p]{b:Blk}:DR (AuY sto id off len cap sz bytes z L p b):=by
 unfold AuY
 repeat' (first|exact PUnit.unit|exact DR.side|exact DR.sto|refine Lh _ ?_ ?_|split)
def A7P{row:Bool}{sz bytes:Nat}{z:LA}{x y:AV}:DR (AvA sto row sz bytes z x y):=by
 unfold AvA
 repeat' (first|exact PUnit.unit|exact DR.side|exact DR.sto|refine Lh _ ?_ ?_|split)
def A7Q{l:LU}{lo hi:Option AV}{a b:Option Int}:DR (AtD l lo hi a b):=by
 unfold AtD
 repeat' (first|exact PUnit.unit|exact DR.side|exact DR.sto|refine Lh _ ?_ ?_|split)
def A7R{sz e:Nat}{l:LA}{lo hi:Option AV}{a b:Option Int}:DR (AtE sz e l lo hi a b):=by
 unfold AtE
 repeat' (first|exact PUnit.unit|exact DR.side|exact DR.sto|refine Lh _ ?_ ?_|split)
def A7S{sz id off len cap:Nat}{b:Blk}{x y:Option Int}:DR (AtF sz id off len cap b x y):=by
 unfold AtF
 repeat' (first|exact PUnit.unit|exact DR.side|exact DR.sto|refine Lh _ ?_ ?_|split)
def A7T{sz:Nat}{x y:Option Int}:DR (AtG sz x y):=by
 unfold AtG
 repeat' (first|exact PUnit.unit|exact DR.side|exact DR.sto|refine Lh _ ?_ ?_|split)
def A7U{sz:Nat}{x:AV}{a b:Option AV}:DR (AvB sz sto x a b):=by
 unfold AvB
 repeat' (first|exact PUnit.unit|exact DR.side|exact DR.sto|refine Lh _ ?_ ?_|split)
def A7V{sz:Nat}{x:AV}{a b m:Option Int}:DR (AvC sz sto x a b m):=by
 unfold AvC
 repeat' (first|exact PUnit.unit|exact DR.side|exact DR.sto|refine Lh _ ?_ ?_|split)
def A7W{sz n:Nat}{x:AV}{a b:Option AV}:DR (AtH sz n x a b):=by
 unfold AtH
 repeat' (first|exact PUnit.unit|exact DR.side|exact DR.sto|refine Lh _ ?_ ?_|split)
def A7X{d:Option TypeDesc}{x y:AV}:DR (AtI P sto d x y):=by
 unfold AtI
 repeat' (first|exact PUnit.unit|exact DR.side|exact DR.sto|refine Lh _ ?_ ?_|split)
def d_max{big:Bool}{l:LA}:DR (xmax big l):=by
 unfold xmax
 repeat' (first|exact PUnit.unit|exact DR.side|exact DR.sto|refine Lh _ ?_ ?_|split)
def A4T{id off len cap sz:Nat}{L:LA}{p:Prop} [Decidable p]{b:Blk}:DR (AnH sto id off len cap sz L p b):=by
 unfold AnH
 repeat' (first|exact PUnit.unit|exact DR.side|exact DR.sto|refine Lh _ ?_ ?_|split)
def A0F{id off len cap sz:Nat}{row:Bool}{z:LA}{b:Blk}:DR (AiA sto id off len cap sz row z b):=by
 unfold AiA
 repeat' (first|exact PUnit.unit|exact DR.side|exact DR.sto|refine Lh _ ?_ ?_|split)
def AwV{id:Nat}{es:List (AV×AV)}{k v:AV}{o:Option (Option (Nat×AV))}:DR (xmputF sto id es k v o):=by
 unfold xmputF
 repeat' (first|exact PUnit.unit|exact DR.side|exact DR.sto|refine Lh _ ?_ ?_|split)
def A4U{ok:Bool}{z:AV}{p:Prop} [Decidable p]{o:Option (Option (Nat×AV))}:DR (AkB ok z p o):=by
 unfold AkB
 repeat' (first|exact PUnit.unit|exact DR.side|exact DR.sto|refine Lh _ ?_ ?_|split)
def A0G{id:Nat}{es:List (AV×AV)}{k z:AV}{p:Prop} [Decidable p]{o:Option (Option (Nat×AV))}:DR (AfE sto id es k z p o):=by
 unfold AfE
 repeat' (first|exact PUnit.unit|exact DR.side|exact DR.sto|refine Lh _ ?_ ?_|split)
def AwW{id:Nat}{n:Int}{v:AV}{b:Blk}:DR (AfG sto id n v b):=by
 unfold AfG
 repeat' (first|exact PUnit.unit|exact DR.side|exact DR.sto|refine Lh _ ?_ ?_|split)
def d_nil{x:AV}:DR (xnil sto x):=by
 unfold xnil
 repeat' (first|exact PUnit.unit|exact DR.side|exact DR.sto|refine Lh _ ?_ ?_|split)
def A7Y{d:Option TypeDesc}{op:BinOp}{x y:AV}:DR (AhU wr sto d op x y):=by
 unfold AhU
 repeat' (first|exact PUnit.unit|exact A4N|exact A0C|exact d_bin|exact DR.side|exact DR.sto|refine Lh _ ?_ ?_|split)
def A7Z{op:BinOp}{p:Prop} [Decidable p]{o:Option Bool}:DR (AlE op p o):=by
 unfold AlE
 repeat' (first|exact PUnit.unit|exact PUnit.unit|exact DR.side|exact DR.sto|refine Lh _ ?_ ?_|split)
def d_eqs{t:TypeId}{op:BinOp}{xs ys:LA}{d:Option TypeDesc}:DR (xeqs P t op xs ys d):=by
 unfold xeqs
 repeat' (first|exact PUnit.unit|exact A7Z|exact DR.side|exact DR.sto|refine Lh _ ?_ ?_|split)
def A8A{t:TypeId}{op:BinOp}{x y:AV}:DR (AgZ P t wr sto op x y):=by
 unfold AgZ
 repeat' (first|exact PUnit.unit|exact d_eqs|exact A7Y|exact DR.side|exact DR.sto|refine Lh _ ?_ ?_|split)
def d_box{row:Bool}{v:AV}:DR (xbox row sto v):=by
 unfold xbox
 repeat' (first|exact PUnit.unit|exact A7L|exact DR.side|exact DR.sto|refine Lh _ ?_ ?_|split)
def A8B{row:Bool}{v:AV}:DR (AtB row v):=by
 unfold AtB
 repeat' (first|exact PUnit.unit|exact PUnit.unit|exact DR.side|exact DR.sto|refine Lh _ ?_ ?_|split)
def A8C{row:Bool}{v:AV}:DR (AuW frz row sto v):=by
 unfold AuW
 repeat' (first|exact PUnit.unit|exact A8B|exact d_box|exact DR.side|exact DR.sto|refine Lh _ ?_ ?_|split)
def A4V{row:Bool}{z:LA}:DR (AdN sto row z):=by
 unfold AdN
 repeat' (first|exact PUnit.unit|exact A7L|exact DR.side|exact DR.sto|refine Lh _ ?_ ?_|split)
def AqN{d:Option (Nat×TypeId)}{x:AV}:DR (AbH P d sto x):=by
 unfold AbH
 repeat' (first|exact PUnit.unit|exact AsA|exact DR.side|exact DR.sto|refine Lh _ ?_ ?_|split)
def AqO{d:Option TypeDesc}{sz:Nat}{x i:AV}:DR (AaV d sz sto x i):=by
 unfold AaV
 repeat' (first|exact PUnit.unit|exact AsA|exact DR.side|exact DR.sto|refine Lh _ ?_ ?_|split)
def A2R{d:Option TypeDesc}{sz:Nat}{x:AV}:DR (xload d sz sto x):=by
 unfold xload
 repeat' (first|exact PUnit.unit|exact A4P|exact DR.side|exact DR.sto|refine Lh _ ?_ ?_|split)
def A4W{sz:Nat}{x v:AV}:DR (AgR sz sto x v):=by
 unfold AgR
 repeat' (first|exact PUnit.unit|exact A0E|exact DR.side|exact DR.sto|refine Lh _ ?_ ?_|split)
def A8D{a b c d:Option TypeDesc}{x:AV}:DR (AtC wr a b c d sto x):=by
 unfold AtC
 repeat' (first|exact PUnit.unit|exact A7M|exact A4Q|exact DR.side|exact DR.sto|refine Lh _ ?_ ?_|split)
def A8E{l:List Operand}{t:List TypeId}:DR (AlF P e sto l t):=by
 unfold AlF
 repeat' (first|exact PUnit.unit|exact d_len|exact DR.side|exact DR.sto|refine Lh _ ?_ ?_|split)
def A8F{l:List Operand}{t:List TypeId}:DR (ApP P e l t):=by
 unfold ApP
 repeat' (first|exact PUnit.unit|exact d_cap|exact DR.side|exact DR.sto|refine Lh _ ?_ ?_|split)
def AmA{n:Nat}{l:List (Nat×AV)}{d:Option TypeDesc}:DR (AbE P frz sto n l d):=by
 unfold AbE
 repeat' (first|exact PUnit.unit|exact A4S|exact AoM|exact DR.side|exact DR.sto|refine Lh _ ?_ ?_|split)
def A8G{sz bytes:Nat}{z L:LA}{p:Prop} [Decidable p]{x:AV}:DR (AuZ sto sz bytes z L p x):=by
 unfold AuZ
 repeat' (first|exact PUnit.unit|exact A7O|exact DR.side|exact DR.sto|refine Lh _ ?_ ?_|split)
def A4X{off n cap sz:Nat}{b:Blk}:DS (srcB off n cap sz b):=match b with
 | .arr e l=>inferInstanceAs (Decidable ((e=sz\/l=[])/\off+cap=l.length/\n<=cap))
 | .mp _|.it _ _ _|.dead=>PUnit.unit
def A2S{sz:Nat}{x:AV}:DS (ApR sto sz x):=by
 unfold ApR
 split
 .exact (inferInstanceAs (Decidable (_=_)))
 .exact A4X
 .exact (inferInstanceAs (Decidable True))
 .exact (inferInstanceAs (Decidable (_=_)))
 .exact PUnit.unit
def A8H{sz bytes:Nat}{z:LA}{x:AV}:∀ {o:Option (LA×Prop)},DS o->DR (AyT sto sz bytes z x o)
 | some (_,_),(d:Decidable _)=>A8G
 | none,_=>PUnit.unit
def d_app{x y:AV}{a b:Option TypeDesc}:DR (xapp P sto x y a b):=by
 unfold xapp
 split
 .exact Lh _ (A8H A2S) (Lh _ A7P PUnit.unit)
 .exact PUnit.unit
def A8I{l:List Operand}{t:List TypeId}:DR (ApS P e sto l t):=by
 unfold ApS
 split <;> first|exact d_app|exact PUnit.unit
def A4Y{sz:Nat}{x:AV}:∀ {o:Option (LA×Prop)},DS o->DR (AnI sto sz x o)
 | some (L,p),(d:Decidable p)=>by
  unfold AnI
  dsimp only
  split
  .exact A4T
  .exact PUnit.unit
 | none,_=>PUnit.unit
def A4Z{l:List Operand}{t:List TypeId}:DR (AhZ P e sto l t):=by
 unfold AhZ
 repeat' (first|exact PUnit.unit|exact A4Y A2S|split)
def A2T{p:Prop} [Decidable p]:∀ {r:Res},DR r->DR (xputS p r)
 | .sto _ _ _,(d:Decidable _)=>inferInstanceAs (Decidable (_/\_))
 | .ok _,_|.side _ _,_|.pick _ _ _,_|.call _ _,_|.anyb _,_|.stuck,_=>PUnit.unit
def d_cut{x:AV}{lo hi mx:Option AV}{d:Option TypeDesc}:DR (xcut P sto x lo hi mx d):=by
 unfold xcut
 repeat' (first|exact PUnit.unit|exact A7Q|exact A7R|exact A7S|exact A7T|exact A7U|exact A7V|exact A7W|exact DR.side|exact DR.sto|refine Lh _ ?_ ?_|split)
def A0H{l:List Operand}{t:List TypeId}:DR (AeW P e sto l t):=by
 unfold AeW
 repeat' (first|exact PUnit.unit|exact A0F|exact DR.side|exact DR.sto|refine Lh _ ?_ ?_|split)
def A5A{d:TypeDesc}{id:Nat}{k v:AV}{b:Blk}:DR (AeK d sto id k v b):=by
 unfold AeK
 repeat' (first|exact PUnit.unit|exact AwV|exact DR.side|exact DR.sto|refine Lh _ ?_ ?_|split)
def A5B{kt:TypeId}{fs:List Field}{id:Nat}{k v:AV}{b:Blk}:DR (AeL P kt fs sto id k v b):=by
 unfold AeL
 repeat' (first|exact PUnit.unit|exact A2T AwV|exact DR.side|exact DR.sto|refine Lh _ ?_ ?_|split)
def A5C{kt:TypeId}{id:Nat}{k v:AV}{b:Blk}:DR (AeM P kt sto id k v b):=by
 unfold AeM
 repeat' (first|exact PUnit.unit|exact A2T AwV|exact DR.side|exact DR.sto|refine Lh _ ?_ ?_|split)
def A8J{m k v:AV}{d:Option TypeDesc}:DR (AhA P sto m k v d):=by
 unfold AhA
 repeat' (first|exact PUnit.unit|exact A5B|exact A5C|exact A5A|exact DR.side|exact DR.sto|refine Lh _ ?_ ?_|split)
def A5D{fs:List Field}{k:AV}{ok:Bool}{z:AV}{p q:Prop} [Decidable p] [Decidable q]{b:Blk}:DR (AkC P fs k ok z p q b):=by
 unfold AkC
 repeat' (first|exact PUnit.unit|exact PUnit.unit|exact DR.side|exact DR.sto|refine Lh _ ?_ ?_|split)
def A5E{d:TypeDesc}{k:AV}{ok:Bool}{z:AV}{p:Prop} [Decidable p]{b:Blk}:DR (AkD d k ok z p b):=by
 unfold AkD
 repeat' (first|exact PUnit.unit|exact A4U|exact DR.side|exact DR.sto|refine Lh _ ?_ ?_|split)
def A5F{kt:TypeId}{k:AV}{ok:Bool}{z:AV}{p q:Prop} [Decidable p] [Decidable q]{b:Blk}:DR (AkE P kt k ok z p q b):=by
 unfold AkE
 repeat' (first|exact PUnit.unit|exact PUnit.unit|exact DR.side|exact DR.sto|refine Lh _ ?_ ?_|split)
def A8K{m k:AV}{ok:Bool}{d:Option TypeDesc}:DR (AjO P sto m k ok d):=by
 unfold AjO
 repeat' (first|exact PUnit.unit|exact A5D|exact A5F|exact A5E|exact DR.side|exact DR.sto|refine Lh _ ?_ ?_|split)
def AwX{id:Nat}{es:List (AV×AV)}{p:Prop} [Decidable p]{o:Option (Option (Nat×AV))}:DR (ApT sto id es p o):=by
 unfold ApT
 repeat' (first|exact PUnit.unit|exact PUnit.unit|exact DR.side|exact DR.sto|refine Lh _ ?_ ?_|split)
def A8L{d:TypeDesc}{id:Nat}{k:AV}{b:Blk}:DR (AvD d sto id k b):=by
 unfold AvD
 repeat' (first|exact PUnit.unit|exact AwX|exact DR.side|exact DR.sto|refine Lh _ ?_ ?_|split)
def A8M{kt:TypeId}{fs:List Field}{id:Nat}{k:AV}{b:Blk}:DR (AvE P kt fs sto id k b):=by
 unfold AvE
 repeat' (first|exact PUnit.unit|exact AwX|exact DR.side|exact DR.sto|refine Lh _ ?_ ?_|split)
def A8N{kt:TypeId}{id:Nat}{k:AV}{b:Blk}:DR (AvF P kt sto id k b):=by
 unfold AvF
 repeat' (first|exact PUnit.unit|exact AwX|exact DR.side|exact DR.sto|refine Lh _ ?_ ?_|split)
def d_del{m k:AV}{d:Option TypeDesc}:DR (xdel P sto m k d):=by
 unfold xdel
 repeat' (first|exact PUnit.unit|exact A8M|exact A8N|exact A8L|exact DR.side|exact DR.sto|refine Lh _ ?_ ?_|split)
def A8O{l:List Operand}{t:List TypeId}:DR (ApU P e sto l t):=by
 unfold ApU
 repeat' (first|exact PUnit.unit|exact d_del|exact DR.side|exact DR.sto|refine Lh _ ?_ ?_|split)
def AwY{d:TypeDesc}{id:Nat}{k z:AV}{p:Prop} [Decidable p]{b:Blk}:DR (AfF d sto id k z p b):=by
 unfold AfF
 repeat' (first|exact PUnit.unit|exact A0G|exact DR.side|exact DR.sto|refine Lh _ ?_ ?_|split)
def A0I{m k:AV}{d:Option TypeDesc}:DR (AfY P sto m k d):=by
 unfold AfY
 repeat' (first|exact PUnit.unit|exact AwY|exact DR.side|exact DR.sto|refine Lh _ ?_ ?_|split)
def A0J{m n v:AV}:DR (AfZ sto m n v):=by
 unfold AfZ
 repeat' (first|exact PUnit.unit|exact AwW|exact DR.side|exact DR.sto|refine Lh _ ?_ ?_|split)
def A0K{mid:Nat}{b:Blk}:DR (AiB sto mid b):=by
 unfold AiB
 repeat' (first|exact PUnit.unit|exact PUnit.unit|exact DR.side|exact DR.sto|refine Lh _ ?_ ?_|split)
def A5G{x:AV}{d:Option TypeDesc}:DR (AkF sto x d):=by
 unfold AkF
 repeat' (first|exact PUnit.unit|exact A0K|exact DR.side|exact DR.sto|refine Lh _ ?_ ?_|split)
def A0L{n:Nat}{seen:List Nat}{b:Blk}:DR (AiC n seen b):=by
 unfold AiC
 repeat' (first|exact PUnit.unit|exact PUnit.unit|exact DR.side|exact DR.sto|refine Lh _ ?_ ?_|split)
def A0M{b:Blk}:DR (AiD sto b):=by
 unfold AiD
 repeat' (first|exact PUnit.unit|exact A0L|exact DR.side|exact DR.sto|refine Lh _ ?_ ?_|split)
def A5H{x:AV}:DR (AkG sto x):=by
 unfold AkG
 repeat' (first|exact PUnit.unit|exact A0M|exact DR.side|exact DR.sto|refine Lh _ ?_ ?_|split)
def A5I:DR (ArN sto):=DR.sto (p:=True)
def xopD(op:Op):DR (xop wr frz P e sto op):=by
 unfold xop
 repeat' (first|exact PUnit.unit|exact A7K|exact A8A|exact d_not|exact d_neg|exact AwU|exact A4O|exact A0D|exact A8C|exact A4V|exact AqN|exact AqO|exact A2R|exact A4W|exact A8D|exact A4R|exact AmA|exact d_cut|exact A7X|exact d_nil|exact A8J|exact A0I|exact A0J|exact A5G|exact A5H|exact A8K|exact A8E|exact A8F|exact A8I|exact A4Z|exact A0H|exact A8O|exact d_max|exact A7N|exact A5I|split)
end
end Go.Av
namespace Go.Av
open RowKit
variable [Tr]
abbrev Cl:=FuncId->LA->LB->Option (AV×LB)
def resK(cl:Cl)(s:LB):(r:Res)->DR r->Option (AV×LB)
 | .ok v,_=>some (v,s)
 | .side p v,d=>match(d:Decidable p)with
  | isTrue _=>some (v,s)
  | isFalse _=>none
 | .sto p v s',d=>match(d:Decidable p)with
  | isTrue _=>some (v,s')
  | isFalse _=>none
 | .pick b x y,_=>some (cond b x y,s)
 | .call f args,_=>cl f args s
 | .anyb _,_=>none
 | .stuck,_=>none
def opK(P:Program)(cl:Cl)(e:Env)(s:LB)(o:Oper):Option (AV×LB):=resK cl s (xop false false P e s o.op) (xopD o.op)
def ClOk(P:Program)(g:Std)(cl:Cl):Prop:=∀ f args s r s',cl f args s=some (r,s')->CtH P g f args s (fun x y=>x=r/\y=s')
section
variable {c:Cx}{g:Std}{cl:Cl}{e:Env}{s:LB}{a:Act}{w:World}
theorem AuC{h:Mem}{ρ:Own}{o:Oper}{v:AV}{s':LB}{Kc:Act->World->Prop}{Q:Exit->Act->World->Prop}(hl:Later c.h c.ρ c.sto c.w h ρ s w)(he:EnvOk h ρ s e a)(hdf:a.defers=[])(hsz:a.tmps.size=c.fn.ntmps)(hm0:Mine h ρ s w)(hX:c.x h ρ w)
  (hd:dOk c.fn.ntmps o.dst=true) (ok:Okv h ρ s w ((execOp a.eval o).run c.P w) v s') (hk:∀ a' w',Sim c (put e o.dst v) s' a' w'->Kc a' w'):o.wp c.P a w Kc Q:=by
 obtain⟨u,w',h',ρ',hr,hm,hlt,rv⟩:=ok;have he':EnvOk h' ρ' s' e a:=fun t=>(he t).mono hlt.hle hlt.keep
 have hsim:Sim c (put e o.dst v) s' (a.put o.dst u) w':=⟨h',ρ',hm,hl.trans hlt,he'.put (by rw[hsz]; exact hd) rv,by rw[AaJ]; exact hdf,by rw[AbJ]; exact hsz,c.hx.later hm0 hlt hX⟩;have:=hk _ _ hsim;unfold Oper.wp
 rcases hr with hr|⟨hr,hu⟩
 .rw [hr]; exact this
 .rw [hr]; subst hu; exact this
theorem AwZ(hcl:ClOk c.P g cl)(hg:Le g c.w c.ρ){o:Oper}{v:AV}{s':LB}(h:opK c.P cl e s o=some (v,s'))(hsim:Sim c e s a w)(hd:dOk c.fn.ntmps o.dst=true){Kc:Act->World->Prop}{Q:Exit->Act->World->Prop}
  (hk:∀ a' w',Sim c (put e o.dst v) s' a' w'->Kc a' w'):o.wp c.P a w Kc Q:=by
 obtain⟨hh,ρ,hm,hl,he,hdf,hsz,hX⟩:=hsim;have hs:=AcM (P:=c.P) (wr:=false) (frz:=false) (o:=o) hm he;unfold opK at h;generalize (xopD o.op:DR (xop false false c.P e s o.op))=d at h
 revert h hs d
 cases hx:xop false false c.P e s o.op with
 | ok v1 =>
  intro hs d h;simp only[resK,lad,laq]at h;obtain⟨rfl,rfl⟩:=h;exact AuC hl he hdf hsz hm hX hd hs hk
 | side p v1 =>
  intro hs d h;simp only[resK]at h
  split at h
  .rename_i hp
   simp only[lad,laq]at h;obtain⟨rfl,rfl⟩:=h;exact AuC hl he hdf hsz hm hX hd (hs hp) hk
  .cases h
 | sto p v1 s1 =>
  intro hs d h;simp only[resK]at h
  split at h
  .rename_i hp
   simp only[lad,laq]at h;obtain⟨rfl,rfl⟩:=h;exact AuC hl he hdf hsz hm hX hd (hs hp) hk
  .cases h
 | pick b x y =>
  intro hs d h;simp only[resK,lad,laq]at h;obtain⟨rfl,rfl⟩:=h
  cases b with
  | true=>exact AuC hl he hdf hsz hm hX hd hs hk
  | false=>exact AuC hl he hdf hsz hm hX hd hs hk
 | call f args =>
  intro hs d h;simp only[resK]at h;obtain⟨vs,hv,hr⟩:=hs;have hc:=hcl f args s v s' h;have hrr:=hr hc.1;unfold Oper.wp;rw[hrr];refine(hc.2 hh ρ w vs (hg.later hl) hm hv).mono ?_;rintro en w' ⟨u,r,s1,h',ρ',rfl,⟨rfl,rfl⟩,hm',hlt,rv⟩;have he':EnvOk h' ρ' s1 e a:=fun t=>(he t).mono hlt.hle hlt.keep
  exact hk _ _ ⟨h',ρ',hm',hl.trans hlt,he'.put (by rw[hsz]; exact hd) rv,by rw[AaJ]; exact hdf,by rw[AbJ]; exact hsz,c.hx.later hm hlt hX⟩
 | anyb p=>intro hs d h; simp[resK]at h
 | stuck=>intro hs d h; simp[resK]at h
end
end Go.Av
namespace Go.Av
open RowKit
variable [Tr]
def ImpY(c:Cx)(ops:Array Oper)(n:Nat)(id:Nat)(cf:LB->AV×LB)(o:Oper)(e:Env)(s:LB)(K:AV->LB->Prop):Prop :=
 gOnB ops e o=true/\∃ v s',Agr n id s s'/\K v s' /\
  ((∃ f args,xop false false c.P e s o.op=.call f args/\AfQ c n f args id s (fun r b=>r=v/\b=s')/\(v,s')=cf s)\/(∃ p,xop false false c.P e s o.op=.sto p v s'/\p))
def ChY(c:Cx)(ops:Array Oper)(im lk:List Nat)(cv:Nat->AV)(cf:Nat->LB->AV×LB)(n0 id:Nat)(K:Env->LB->Prop):List Nat->Env->LB->Prop
 | [],e,s=>K e s
 | i::r,e,s=>match ops[i]? with
  | none=>False
  | some o=>bif im.contains i then ImpY c ops n0 id (cf i) o e s (fun v s'=>ChY c ops im lk cv cf n0 id K r (put e o.dst v) s')
   else(reader o.op=true->blind o.op=false->lk.contains i=false->opOk n0 id e o.op=true)/\∃ v s',Does c ops s o (cv i) e v s'/\ChY c ops im lk cv cf n0 id K r (put e o.dst v) s'
section
variable {cx:Cx}{ops:Array Oper}{s:LB}{K:Env->LB->Prop}{im lk:List Nat}{cv:Nat->AV}{cf:Nat->LB->AV×LB}{n0 id:Nat}
theorem ImpY.agree{o:Oper}{e e':Env}{s:LB}{g:LB->AV×LB}{K K':AV->LB->Prop}(h:AdM ops o e e')(hK:∀ r s,K r s->K' r s)(x:ImpY cx ops n0 id g o e s K):ImpY cx ops n0 id g o e' s K':=by
 obtain⟨h1,v,s',h2,h3,h4⟩:=x;refine⟨by rw[<- AwT h]; exact h1,v,s',h2,hK _ _ h3,?_⟩;have hx:=xop_agree (wr:=false) (frz:=false) (P:=cx.P) (s:=s) (AaG h)
 rcases h4 with⟨f,args,h4,h5,h6⟩|⟨p,h4,h5⟩
 .exact .inl ⟨f,args,by rw[<- hx]; exact h4,h5,h6⟩
 .exact .inr ⟨p,by rw[<- hx]; exact h4,h5⟩
theorem ChY.congr(hK:∀ e e' s,Eqv e e'->K e s->K e' s):∀ {l:List Nat}{e e':Env}{s:LB},Eqv e e'->ChY cx ops im lk cv cf n0 id K l e s->ChY cx ops im lk cv cf n0 id K l e' s
 | [],e,e',s,h,x=>hK e e' s h x
 | i::r,e,e',s,h,x=>by
  unfold ChY at x |-
  split at x
  .exact x.elim
  .rename_i o ho
   cases hi:im.contains i with
   | true =>
    rw[hi]at x;exact ImpY.agree (fun t _=>h t) (fun r' s' z=>ChY.congr hK (h.put _ _) z) x
   | false =>
    rw[hi]at x;obtain⟨h1,v,s',h2,h3⟩:=x;exact⟨fun hr hb hk=>by rw[<- opOk_agree (e:=e) (fun y _=>AdG fun t _=>h t)]; exact h1 hr hb hk,v,s',h2.agree fun t _=>h t,ChY.congr hK (h.put _ _) h3⟩
theorem ChY.swap{opl:List Oper}(hops:ops=opl.toArray)(hK:∀ e e' s,Eqv e e'->K e s->K e' s){i j:Nat}{r:List Nat}(hok:okV opl im lk j i=true){e:Env}{s:LB}(x:ChY cx ops im lk cv cf n0 id K (j::i::r) e s) :
  ChY cx ops im lk cv cf n0 id K (i::j::r) e s:=by
 unfold okV at hok;rw[lac]at hok;obtain⟨hlk,hok⟩:=hok;simp only[lac,laz,Bool.and_eq_false_iff]at hlk;obtain⟨hl1,hl2⟩:=hlk
 split at hok
 rotate_left
 .cases hok
 rename_i oj oi hj' hi';have hj:ops[j]? = some oj:=by rw[hops]; simpa using hj'
 have hi:ops[i]? = some oi:=by rw[hops]; simpa using hi'
 rw[lac]at hok;obtain⟨ha,hok⟩:=hok;rw[<- hops]at ha;obtain⟨a1,a2,a3⟩:=Oper.apart_spec ha;have gi:∀ (e:Env) (v:AV),AdM ops oi (put e oj.dst v) e:=fun e v t ht=>by
  rw[get_put,if_neg]; intro h; exact a1 t h ht
 have gi':∀ (e:Env) (v:AV),AdM ops oi e (put e oj.dst v):=fun e v t ht=>(gi e v t ht).symm
 have gj:∀ (e:Env) (v:AV),AdM ops oj e (put e oi.dst v):=fun e v t ht=>by
  rw[get_put,if_neg]; intro h; exact a3 t h ht
 have sw:∀ (e:Env) (v u:AV),Eqv (put (put e oj.dst v) oi.dst u) (put (put e oi.dst u) oj.dst v):=fun e v u=>AeC a2
 simp only[ChY,hi,hj]at x |-
 cases mi:im.contains i with
 | true =>
  rw[mi]at hok x;simp only[lai]at hok;rw[lac,laz]at hok;obtain⟨mj,rj⟩:=hok;rw[mj]at x |-;simp only[lai,lap]at x |-;obtain⟨o1',v,s',d1,y⟩:=x;have ljf:lk.contains j=false:=hl1.resolve_left (by rw[mi]; simp);have o1:reader oj.op=true->blind oj.op=false->opOk n0 id e oj.op=true:=fun hr hb=>o1' hr hb ljf
  obtain⟨rfl,_⟩:=AqM rj o1 (Agr.rfl' (n:=n0) (id:=id)) d1;obtain⟨h1,u,b,ag,hy,h4⟩:=ImpY.agree (K':=fun u b=>ChY cx ops im lk cv cf n0 id K r (put (put e oj.dst v) oi.dst u) b) (gi e v) (fun _ _ z=>z) y;refine⟨h1,u,b,ag,?_,h4⟩;have hs:=(AqM rj o1 ag d1).2;refine⟨fun hr hb _=>?_,v,_,hs.agree (gj e u),ChY.congr hK (sw e v u) hy⟩;rw[<- opOk_agree (e:=e) (AaG (gj e u))];exact o1 hr hb
 | false =>
  rw[mi]at hok x;simp only[lap]at hok x |-
  cases mj:im.contains j with
  | true =>
   rw[mj]at hok x;simp only[lai]at hok x |-;obtain⟨h1,u,b,ag,⟨o0,v,s0,d0,z0⟩,h4⟩:=x;have ok0:reader oi.op=true->blind oi.op=false->opOk n0 id e oi.op=true:=fun hr hb=>by
    have:=o0 hr hb (hl2.resolve_left (by rw[mj]; simp));rw[opOk_agree (AaG (gi e u))]at this;exact this
   have d0':Does cx ops b oi (cv i) e v s0:=d0.agree (gi e u);obtain⟨rfl,d0s⟩:=AqM hok ok0 ag.symm d0';refine⟨fun hr hb _=>ok0 hr hb,v,s,d0s,ImpY.agree (gj e v) (fun _ _ z=>z) ⟨h1,u,_,ag,?_,h4⟩⟩;exact ChY.congr hK (sw e u v) z0
  | false =>
   rw[mj]at hok x;simp only[lap]at hok x |-;obtain⟨o1,v,s1,h1,o2,u,s2,h2,h3⟩:=x;have h2':Does cx ops s1 oi (cv i) e u s2:=h2.agree (gi e v);have h1':∀ {z z'},Does cx ops z oj (cv j) e v z'->Does cx ops z oj (cv j) (put e oi.dst u) v z':=fun hd=>hd.agree (gj e u)
   have h3':=ChY.congr hK (sw e v u) h3;have oi':∀ {n},reader oi.op=true->opOk n id (put e oj.dst v) oi.op=opOk n id e oi.op:=fun _=>opOk_agree (AaG (gi e v))
   have oj':∀ {n},opOk n id e oj.op=opOk n id (put e oi.dst u) oj.op:=opOk_agree (AaG (gj e u));simp only[Bool.or_eq_true,lac,together]at hok
   rcases hok with(⟨c1,c2⟩|c1)|c1
   .have e1:=h1.calm c1
    subst e1;have e2:=h2.calm c2;subst e2;exact⟨fun hr hb hk=>by rw[<- oi' hr]; exact o2 hr hb hk,u,_,h2',fun hr hb hk=>by rw[<- oj']; exact o1 hr hb hk,v,_,h1' h1,h3'⟩
   .have e1:=h1.calm (blind_calm c1)
    subst e1;exact⟨fun hr hb hk=>by rw[<- oi' hr]; exact o2 hr hb hk,u,_,h2',fun hr hb _=>(by rw[c1]at hb; cases hb),v,_,h1' (h1.blind c1),h3'⟩
   .have e2:=h2.calm (blind_calm c1)
    subst e2;exact⟨fun hr hb _=>(by rw[c1]at hb; cases hb),u,_,h2'.blind c1,fun hr hb hk=>by rw[<- oj']; exact o1 hr hb hk,v,_,h1' h1,h3'⟩
theorem ChY.front{opl:List Oper}(hops:ops=opl.toArray)(hK:∀ e e' s,Eqv e e'->K e s->K e' s):∀ (l:List Nat)(i:Nat)(r:List Nat)(e:Env)(s:LB),(∀ j∈l,okV opl im lk j i=true) ->
  ChY cx ops im lk cv cf n0 id K (l++i::r) e s->ChY cx ops im lk cv cf n0 id K (i::(l++r)) e s
 | [],_,_,_,_,_,x=>x
 | j::l,i,r,e,s,h,x=>by
  refine ChY.swap hops hK (h j (by simp)) ?_;have ih:=fun e s=>ChY.front hops hK l i r e s fun k hk=>h k (by simp[hk])
  simp only[lah,ChY]at x |-
  split at x
  .exact x.elim
  .rename_i o ho
   cases hm:im.contains j with
   | true =>
    rw[hm]at x;exact ImpY.agree (fun _ _=>rfl) (fun r' s' z=>ih _ _ z) x
   | false =>
    rw[hm]at x;obtain⟨h1,v,s',h2,h3⟩:=x;exact⟨h1,v,s',h2,ih _ _ h3⟩
end
section
variable {c:Cx}{k:List It}{e:Env}{s:LB}
theorem A0N{ops:List Oper}{im lk:List Nat}{cv:Nat->AV}{cf:Nat->LB->AV×LB}{n0 id:Nat}(hdst:∀ o∈ops,dOk c.fn.ntmps o.dst=true)(i:Nat)(o:Oper)(RR:List (List Nat))(e:Env)(s:LB)(a:Act)(w:World)(Kc:Act->World->Prop)(ho:ops[i]? = some o)(hne:RR≠[])
  (x:∀ r∈RR,ChY c ops.toArray im lk cv cf n0 id (fun e s=>AWp c k e s) (i::r) e s) (hs:Sim c e s a w) (hK:∀ e' s' a w,(∀ r∈RR,ChY c ops.toArray im lk cv cf n0 id (fun e s=>AWp c k e s) r e' s')->Sim c e' s' a w->Kc a w) :
  if Region.wanted o (yielded ops.toArray a.tmps) then o.wp c.P a w Kc (WQ c k) else Kc (a.put o.dst undef) w:=by
 have ho':ops.toArray[i]? = some o:=by simpa using ho
 have hd:=hdst o (laj ho);obtain⟨r0,hr0⟩:=List.exists_mem_of_ne_nil _ hne;have x0:=x r0 hr0;simp only[ChY,ho']at x x0
 cases hm:im.contains i with
 | false =>
  rw[hm]at x x0;obtain⟨_,v,s',h2,h3⟩:=x0;refine AgH hs hd h2 fun a w hs'=>hK _ _ a w (fun r hr=>?_) hs'
  obtain⟨_,v2,s2,h4,h5⟩:=x r hr;obtain⟨rfl,rfl⟩:=A0B h2 h4;exact h5
 | true =>
  rw[hm]at x x0;simp only[lai]at x x0;obtain⟨hg,v,s',_,_,h4⟩:=x0;have hall:∀ r∈RR,ChY c ops.toArray im lk cv cf n0 id (fun e s=>AWp c k e s) r (put e o.dst v) s':=fun r hr=>by
   obtain⟨_,v2,s2,_,h5,h6⟩:=x r hr
   rcases h4 with⟨f,args,hx,_,he⟩|⟨p,hx,hd1⟩ <;> rcases h6 with⟨f',args',hx',_,he'⟩|⟨p',hx',hd2⟩
   .have:=he.trans he'.symm
    simp only[laq]at this;obtain⟨rfl,rfl⟩:=this;exact h5
   .rw [hx]at hx'; cases hx'
   .rw [hx]at hx'; cases hx'
   .rw [hx]at hx'
    injection hx' with _ q1 q2
    subst q1 q2;exact h5
  rcases h4 with⟨f,args,hx,⟨post,h4,_,h6⟩,_⟩|⟨p,hx,hp⟩
  .rw [if_pos (AkO hs hg)]
   obtain⟨hh,ρ,hmm,hl,he,hdf,hsz,hX⟩:=hs;have hsnd:=AcM (P:=c.P) (wr:=false) (frz:=false) (o:=o) hmm he;rw[hx]at hsnd;obtain⟨vs,hv,hr⟩:=hsnd;unfold Oper.wp;rw[hr h4.1];refine(h4.2 hh ρ w vs hmm hl hv).mono ?_;rintro en w' ⟨u,r',b,h',ρ',rfl,hp,hm',hlt,rv⟩;have he':EnvOk h' ρ' b e a:=fun t=>(he t).mono hlt.hle hlt.keep
   obtain⟨rfl,rfl⟩:=(h6 r' b hp).2;exact hK _ _ _ _ hall ⟨h',ρ',hm',hl.trans hlt,he'.put (by rw[hsz]; exact hd) rv,by rw[AaJ]; exact hdf,by rw[AbJ]; exact hsz,c.hx.later hmm hlt hX⟩
  .rw [if_pos (AkO hs hg)]
   obtain⟨hh,ρ,hmm,hl,he,hdf,hsz,hX⟩:=hs;have hsnd:=AcM (P:=c.P) (wr:=false) (frz:=false) (o:=o) hmm he;rw[hx]at hsnd;exact AuC hl he hdf hsz hmm hX hd (hsnd hp) fun a' w' hs'=>hK _ _ a' w' hall hs'
mutual
def dxy(c:Cx)(all:List Oper)(π im lk:List Nat)(cv:Nat->AV)(cf:Nat->LB->AV×LB)(n0 id:Nat)(k:List It):Nat->List Oper->Env->LB->Prop
 | _,[],e,s=>AWp c k e s
 | 0,_::_,_,_=>False
 | n+1,o::r,e,s=>bif im.contains (pix π (o::r)) then
   (match gOnB all.toArray e o,xop false false c.P e s o.op with
    | true,.call f args=>AfQ c n0 f args id s (fun v s'=>(v,s')=cf (pix π (o::r)) s/\dxy c all π im lk cv cf n0 id k n r (put e o.dst v) s')
    | true,.sto p v s'=>p/\Agr n0 id s s'/\dxy c all π im lk cv cf n0 id k n r (put e o.dst v) s'
    | _,_=>False)
  else dck (reader o.op&&!blind o.op&&!lk.contains (pix π (o::r))) n0 id e o.op/\dxyc c all π im lk cv cf n0 id k n (dgrd c all s o r [cv (pix π (o::r))] e o.guard)
def dxyc(c:Cx)(all:List Oper)(π im lk:List Nat)(cv:Nat->AV)(cf:Nat->LB->AV×LB)(n0 id:Nat)(k:List It):Nat->Dn->Prop
 | n,.go r _ e s=>dxy c all π im lk cv cf n0 id k n r e s
 | n,.two b r _ e r' _ e' s=>dbry c all π im lk cv cf n0 id k n b r e r' e' s
 | n,.side p r _ e s=>p/\dxy c all π im lk cv cf n0 id k n r e s
 | _,.fail=>False
def dbry(c:Cx)(all:List Oper)(π im lk:List Nat)(cv:Nat->AV)(cf:Nat->LB->AV×LB)(n0 id:Nat)(k:List It):Nat->Bool->List Oper->Env->List Oper->Env->LB->Prop
 | 0,_,_,_,_,_,_=>False
 | n+1,b,r,e,r',e',s=>(b=true->dxy c all π im lk cv cf n0 id k n r e s)/\(b=false->dxy c all π im lk cv cf n0 id k n r' e' s)
end
section
variable {all:List Oper}{π im lk:List Nat}{cv:Nat->AV}{cf:Nat->LB->AV×LB}{n0 id n:Nat}
theorem AcP{r e r' e' s}:dbry c all π im lk cv cf n0 id k (n+1) true r e r' e' s=dxy c all π im lk cv cf n0 id k n r e s:=by rw[dbry]; simp
theorem AbX{r e r' e' s}:dbry c all π im lk cv cf n0 id k (n+1) false r e r' e' s=dxy c all π im lk cv cf n0 id k n r' e' s:=by rw[dbry]; simp
theorem A2U{o:Oper}{r:List Oper}(hm:im.contains (pix π (o::r))=false)(hg:o.guard=none)(h:dxy c all π im lk cv cf n0 id k n (o::r) e s) :
  dck (reader o.op&&!blind o.op&&!lk.contains (pix π (o::r))) n0 id e o.op/\∃ v n' s',DoesOp c s o (cv (pix π (o::r))) e v s'/\dxy c all π im lk cv cf n0 id k n' r (put e o.dst v) s':=by
 cases n with
 | zero=>rw[dxy]at h; exact h.elim
 | succ n =>
  rw[dxy,hm]at h;simp only[lap]at h;refine⟨h.1,?_⟩
  replace h:=h.2
  rw[hg]at h;unfold dgrd at h;unfold DoesOp
  revert h
  cases xop false true c.P e s o.op with
  | ok u=>intro h; simp only[dres,dxyc]at h; exact⟨u,n,s,⟨rfl,rfl⟩,h⟩
  | side p u=>intro h; simp only[dres,dxyc]at h; exact⟨u,n,s,⟨h.1,rfl,rfl⟩,h.2⟩
  | sto p u s'=>intro h; simp only[dres,dxyc]at h; exact⟨u,n,s',⟨h.1.1,h.1.2,rfl,rfl⟩,h.2⟩
  | pick b x y =>
   intro h; simp only[dres,dxyc]at h
   cases n with
   | zero=>rw[dbry]at h; exact h.elim
   | succ n =>
   rw[dbry]at h;refine⟨_,n,s,⟨rfl,rfl⟩,?_⟩
   cases b with
   | true=>exact h.1 rfl
   | false=>exact h.2 rfl
  | call f args =>
   intro h; simp only[dres,dcall,dxyc]at h;exact⟨_,n,s,⟨h.1.1,h.1.2,rfl,rfl⟩,h.2⟩
  | anyb p=>intro h; simp only[dres,dxyc]at h
  | stuck=>intro h; simp only[dres,dxyc]at h
theorem A0O{o:Oper}{r:List Oper}(hm:im.contains (pix π (o::r))=false)(h:dxy c all π im lk cv cf n0 id k n (o::r) e s) :
  dck (reader o.op&&!blind o.op&&!lk.contains (pix π (o::r))) n0 id e o.op/\∃ v n' s',Does c all.toArray s o (cv (pix π (o::r))) e v s'/\dxy c all π im lk cv cf n0 id k n' r (put e o.dst v) s':=by
 cases hg:o.guard with
 | none =>
  obtain⟨h0,v,n',s',h1,h2⟩:=A2U hm hg h;exact⟨h0,v,n',s',by unfold Does; rw[hg]; exact h1,h2⟩
 | some jw =>
  obtain⟨j,want⟩:=jw
  cases n with
  | zero=>rw[dxy]at h; exact h.elim
  | succ n =>
   rw[dxy,hm]at h;simp only[lap]at h;refine⟨h.1,?_⟩
   replace h:=h.2
   rw[hg]at h;unfold dgrd dyld at h
   cases hy:yldD want e all[j]? with
   | none=>simp only[hy,dxyc]at h
   | some b =>
    simp only[hy]at h;have key:(b=want->∃ n',dxy c all π im lk cv cf n0 id k n' ({ o with guard:=none }::r) e s)/\(b≠want->∃ n',dxy c all π im lk cv cf n0 id k n' r (put e o.dst (.raw undef)) s):=by
     cases n with
     | zero=>cases want <;> simp only[lai,lap,dxyc,dbry]at h
     | succ n =>
      cases want <;> simp only[lai,lap,dxyc,dbry]at h <;> cases b <;>
       first
       | exact⟨fun _=>⟨n,h.1 rfl⟩,fun hh=>(hh rfl).elim⟩
       | exact⟨fun _=>⟨n,h.2 rfl⟩,fun hh=>(hh rfl).elim⟩
       | exact⟨fun hh=>(by cases hh),fun _=>⟨n,h.1 rfl⟩⟩
       | exact⟨fun hh=>(by cases hh),fun _=>⟨n,h.2 rfl⟩⟩
    have hy':yldD want e all.toArray[j]? = some b:=by simpa using hy
    by_cases hb:b=want
    .obtain ⟨n1,h1⟩:=key.1 hb
     obtain⟨_,v,n',s',h1,h2⟩:=A2U (o:={ o with guard:=none }) (by exact hm) rfl h1;refine⟨v,n',s',?_,h2⟩;unfold Does;rw[hg];simp only[hy'];exact .inl ⟨hb,h1⟩
    .obtain ⟨n1,h1⟩:=key.2 hb
     refine⟨.raw undef,n1,s,?_,h1⟩;unfold Does;rw[hg];simp only[hy'];exact .inr ⟨hb,trivial,trivial⟩
theorem AeF:∀ {l:List Nat}{m n:Nat}{e:Env}{s:LB},(∀ (j:Nat),l[j]? = π[m+j]?)->π.length=m+l.length->(∀ i∈l,i<all.length)->dxy c all π im lk cv cf n0 id k n (l.filterMap (all[·]?)) e s->ChY c all.toArray im lk cv cf n0 id (fun e s=>AWp c k e s) l e s
 | [],m,n,e,s,_,_,_,h=>by
  rw[List.filterMap_nil,dxy]at h;exact h
 | i::l,m,n,e,s,hr,hlen,hlt,h=>by
  have hi:i<all.length:=hlt i (by simp);have h0:all[i]? = some all[i]:=by simp[hi]
  have h0':all.toArray[i]? = some all[i]:=by simp[hi]
  rw[List.filterMap_cons_some h0]at h;have hln:(l.filterMap (all[·]?)).length=l.length:=by
   have hh:∀ l:List Nat,(∀ i∈l,i<all.length)->(l.filterMap (all[·]?)).length=l.length:=by
    intro l
    induction l with
    | nil=>intro _; rfl
    | cons j l ih =>
     intro hl;have hjl:j<all.length:=hl j (by simp);have hj:all[j]? = some all[j]:=by simp[hjl]
     rw[List.filterMap_cons_some hj,lan,lan,ih fun k hk=>hl k (by simp[hk])]
   exact hh l fun k hk=>hlt k (by simp[hk])
  have hix:∀ o:Oper,pix π (o::l.filterMap (all[·]?))=i:=fun o=>by
   unfold pix;rw[lan,hln];have h2:=hr 0;have h3:π.length-(l.length+1)=m:=by simp at hlen; omega
   rw[h3,lam];simp only[lbp,Nat.add_zero]at h2;rw[<- h2];rfl
  have hr':∀ j,l[j]? = π[m+1+j]?:=fun j=>by have:=hr (j+1); simpa[Nat.add_assoc,Nat.add_comm 1 j]using this
  have hlen':π.length=m+1+l.length:=by simp at hlen; omega
  have hlt':∀ k∈l,k<all.length:=fun k hk=>hlt k (by simp[hk])
  simp only[ChY,h0']
  cases hm:im.contains i with
  | true =>
   simp only[lai]
   cases n with
   | zero=>rw[dxy]at h; exact h.elim
   | succ n =>
    rw[dxy,hix,hm]at h;simp only[lai]at h
    split at h
    .rename_i f args hg hx
     obtain⟨post,h4,⟨r0,b0,h5⟩,h6⟩:=h;obtain⟨ag,h7,h8⟩:=h6 r0 b0 h5;refine⟨hg,r0,b0,ag,AeF hr' hlen' hlt' h8,.inl ⟨f,args,hx,⟨post,h4,⟨r0,b0,h5⟩,fun u b hp=>⟨(h6 u b hp).1,?_⟩⟩,h7⟩⟩;have:=(h6 u b hp).2.1.trans h7.symm
     simpa using this
    .rename_i p v s' hg hx
     exact⟨hg,v,s',h.2.1,AeF hr' hlen' hlt' h.2.2,.inr ⟨p,hx,h.1⟩⟩
    .exact h.elim
  | false =>
   simp only[lap];obtain⟨hd,v,n',s',h1,h2⟩:=A0O (by rw[hix]; exact hm) h;rw[hix]at hd h1;refine⟨fun hr hb hk=>?_,v,s',h1,AeF hr' hlen' hlt' h2⟩;unfold dck at hd;rw[hr,hb,hk]at hd;exact hd
theorem AxA(im lk:List Nat)(n1 bid:Nat)(LL:List (List Nat))(cv:Nat->AV)(cf:Nat->LB->AV×LB){id:Nat}{ops:List Oper}(hm:c.P.follows .mixedOrders=true)(hcv:AeP ops (okV ops im lk) ops.length [] LL=true)
  (hwt:((List.range ops.length).all fun i=>(waits ops i).all fun j=>decide (j<ops.length))=true) (hin:(LL.all fun l=>l.all fun i=>decide (i<ops.length))=true) {N:Nat} (hN:c.fn.ntmps=N) (hdst:ops.all (fun o=>dOk N o.dst)=true) (n:Nat)
  (h:∀ π∈LL,dxy c ops π im lk cv cf n1 bid k n (π.filterMap (ops[·]?)) e s):AWp c (.code (.region id ops.toArray true)::k) e s:=by
 intro a w hsim;refine wp_region_any hm ?_;have hsim':Sim c e s a { w with drawn:=w.drawn+1 }:=by
  obtain⟨hh,ρ,hmm,hl,he,hdf,hsz,hX⟩:=hsim;have sm:Same w { w with drawn:=w.drawn+1 }:=Same.drew w;exact⟨hh,ρ,hmm.same sm,hl.trans (Later.same sm),he,hdf,hsz,c.hx.later hmm (Later.same sm) hX⟩
 have hd:∀ o∈ops,dOk c.fn.ntmps o.dst=true:=fun o ho=>by rw[hN]; exact(List.all_eq_true.1 hdst) o ho
 refine AuB (okp:=okV ops im lk) (ChY c ops.toArray im lk cv cf n1 bid (fun e s=>AWp c k e s)) (fun e s x=>x) (fun l i r e s hj x=>ChY.front rfl AWp.K l i r e s hj x)
  (fun i o RR e s a w Kc ho hne x hs hK=>A0N hd i o RR e s a w Kc ho hne x hs hK) (fun i hi j hj=>?_) ops.length (Array.replicate ops.length false) [] LL e s a _ (by simp) (fun i hi=>by simp[hi]) ?_ hcv (fun l hl=>?_) hsim'
 .have:=(List.all_eq_true.1 hwt) i (by simpa using hi)
  simpa using(List.all_eq_true.1 this) j hj
 .rw [List.filter_eq_self.2]
  .simp
  .intro i hi
   simp at hi
   simp[hi]
 .exact AeF (π:=l) (m:=0) (by intro j; simp) (by simp) (fun i hi=>by simpa using(List.all_eq_true.1 ((List.all_eq_true.1 hin) l hl)) i hi) (h l hl)
end
end
