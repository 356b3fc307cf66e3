/- Formulas of the program's functions, printed by a program of the prover's own (dec.py); each is tied to its code by the kernel. -/
import Derived.Test.YtgdfganaoehokaaGreatDoorVc
import Derived.Test.YtgdfganaoehokaaGreatDoorProg
set_option linter.unusedVariables false
set_option maxRecDepth 1000000
namespace Go.Proofs.YtgdfganaoehokaaGreatDoor
open Go Go.Vc Tryz Vc.H
abbrev I (n:Int):Value:=.int .i64 n
abbrev Bv (o:BinOp) (a b:Value) (A B:Prop):Prop:=Bp o a b λx=>Vif x A B
abbrev KS (a:List Value) (X:Prop):Prop:=KE a a X
abbrev VT0:=Program->World->KT->Prop
abbrev VT1:=Program->Value->World->KT->Prop
abbrev VT2:=Program->Value->Value->World->KT->Prop
abbrev VT3:=Program->Value->Value->Value->World->KT->Prop
abbrev VT4:=Program->Value->Value->Value->Value->World->KT->Prop
variable {a0 a1 a2 a3 a4 a5 a6 a7 a8 a9:Value}
variable {w:World}{R:Value->World->Prop}

def Vz3:VT1:=λP Z w R=>
 New Z 28 w λc G=>VJoin 1 (λ_ a0 y=>Vif a0 (Cl P 6 #[] y λa1 a2=>R a1 a2) (Bd P 33 #[(0,(I 1)),(2,(I 65536))] y λa3=>Bs P 26 1 #[(0,a3)] y λa4 a5=>Fo 8 c λa6=>St a6 a4 a5 λJ=>LdA 9 c J λa7=>Cl P 7 #[a7] J λL a8=>Ex L 0 λa9=>Ex L 1 λq=>New (zeroP P 36) 36 a8 λe b0=>StA 8 e a9 b0 λM=>Fo 0 c λb1=>LdA 7 b1 M λb2=>Cl P 8 #[b2] M λN C=>Ex N 0 λk=>Ex N 1 λt=>Fo 7 c λb3=>Ld b3 C λb4=>Ias 1 b4 (I 0) λb5=>Ld b5 C λb6=>Cl P 9 #[k,(I 0),b6] C λg2 m=>Fo 7 e λb7=>Ld b7 m λb8=>Lnl b8 λb9=>Fo 0 c λc0=>Fo 0 c0 λc1=>Ld c1 m λc2=>Lnl c2 λc3=>Bv .neq b9 c3 (R (.bool false) m) (Fo 0 c λc4=>Fo 1 c4 λc5=>Ld c5 m λc6=>Fo 0 c λc7=>Fo 2 c7 λc8=>Ld c8 m λc9=>Cl P 10 #[(I 1),(I 1),c6,c9] m λu O=>Fo 0 c λd0=>Fo 0 d0 λd1=>Ld d1 O λd2=>Lnl d2 λv=>VLoop 1 [(I 0)] O λ_ d3 f p=>Bv .lss f v (VJoin 1 (λ_ d4 Q=>Vif d4 (R (.bool false) Q) (Bp .add f (I 1) λd5=>KS [e,q,k,t,u,v]<|d3 d5 Q)) (λJ46=>Dr p λD=>Fo 7 e λS=>Ld S D λU=>Ias 1 U f λW=>Ld W D λY=>Cl P 11 #[k,f] D λd6 g=>Rk (λw K=>Ld W w λd7=>K d7) Y g<|Rk (λw K=>Ld S w λd8=>K d8) U g<|Bp .neq Y d6 λd9=>Vif d9 (KS [e,q,k,t,u,v,f]<|J46 (.bool true) g) (Fo 7 e λe0=>Ld e0 g λe1=>Ias 1 e1 f λe2=>Ld e2 g λe3=>Bv .gtr e3 (I 0) (Fo 7 e λe4=>Ld e4 g λe5=>Ias 1 e5 f λe6=>Ld e6 g λe7=>Bp .lss e7 u λe8=>KS [e,q,k,t,u,v,f]<|J46 e8 g) (KS [e,q,k,t,u,v,f]<|J46 (.bool false) g)))) (Bp .eql q (I 0) λe9=>Vif e9 (Bv .eql t (I 0) (Fo 6 e λf0=>Ld f0 p λf1=>Bv .eql f1 (I 1) (Cl P 6 #[] p λf2 f3=>R f2 f3) (R (.bool false) p)) (R (.bool false) p)) (R (.bool false) p))))) (λJ75=>LdA 9 c G λf4=>Cl P 4 #[f4,(I 500)] G λf5 E=>Vif f5 (KS [c]<|J75 (.bool true) E) (LdA 9 c E λf6=>Cl P 5 #[f6] E λf7 F=>Bv .neq f7 (I 0) (KS [c]<|J75 (.bool true) F) (Fo 7 c λf8=>Ld f8 F λf9=>Lnl f9 λg0=>Bp .eql g0 (I 0) λg1=>KS [c]<|J75 g1 F)))
theorem Tz3 (h:Vz3 prog a0 w R):Cl prog 3 #[a0] w R:=
 tz 106 [(.tmp 2)] (s z (s (j [21] [1] z (i (s z z) z)) (s z (s z (s z (s z (s (s z (i (s z z) z)) (s z (s (s z (b (l [62] [3,4,5,6,7,61] (s z (s (i z z) (s (b (s z (j [90] [3,4,5,6,7,61,62] (r (.staged [0,1,0,7,15,0,0,96,255,511,1023,2047,1023,8191,16383,32767,65535,131071,262143,131071,1048575,2097151,131071,8388607,16777215,33554431])) (i (s z z) z)))) z)))))) (s z z)))))))))) [a0] func3 h
def Vz4:VT2:=λP W f w R=>
 New W 28 w λc g=>VJoin 1 (λ_ Y G=>Vif Y (R (.bool true) G) (Fo 0 c λZ=>Fo 0 Z λa0=>Ld a0 G λv=>Lnl v λD=>VLoop 1 [(I 0)] G λ_ a1 y E=>Bv .lss y D (Ias 5 v y λa2=>LdA 5 a2 E λa3=>New (zeroP P 49) 49 E λJ a4=>StA 5 J a3 a4 λF=>VJoin 1 (λ_ a5 Q=>Vif a5 (R (.bool true) Q) (Bp .add y (I 1) λa6=>KS [f,c,v,D]<|a1 a6 Q)) (λJ15=>Fo 0 J λa7=>Ld a7 F λa8=>Lns a8 λa9=>Bp .gtr a9 (I 150) λb0=>Vif b0 (KS [f,c,v,D,y]<|J15 (.bool true) F) (Fo 1 J λb1=>Ld b1 F λb2=>Lns b2 λb3=>Bp .gtr b3 (I 150) λb4=>KS [f,c,v,D,y]<|J15 b4 F))) (Fo 7 c λb5=>Ld b5 E λL=>Lnl L λS=>VLoop 1 [(I 0)] E λ_ b6 M C=>Bp .lss M S λb7=>Vif b7 (Ias 1 L M λb8=>Ld b8 C λb9=>Lns b9 λc0=>Bv .gtr c0 f (R (.bool true) C) (Bp .add M (I 1) λc1=>KS [f,c,L,S]<|b6 c1 C)) (Fo 8 c λc2=>Ld c2 C λk=>Lnl k λp=>VLoop 2 [(I 0),(I 0)] C λ_ U q m N=>Bp .lss m p λc3=>Vif c3 (Ias 3 k m λc4=>LdA 3 c4 N λc5=>New (zeroP P 33) 33 N λe c6=>StA 3 e c5 c6 λu=>VJoin 1 (λ_ c7 t=>Vif c7 (R (.bool true) t) (VJoin 1 (λ_ c8 O=>Vif c8 (Fo 2 e λc9=>Ld c9 O λd0=>Bp .add q d0 λd1=>Bp .add m (I 1) λd2=>KS [k,p]<|U d1 d2 O) (Bp .add m (I 1) λd3=>KS [k,p]<|U q d3 O)) (λJ52=>Fo 0 e λd4=>Ld d4 t λd5=>Bp .eql d5 (I 2) λd6=>Vif d6 (Fo 2 e λd7=>Ld d7 t λd8=>Bv .gtr d8 (I 0) (Fo 2 e λd9=>Ld d9 t λe0=>Bp .leq e0 (I 300) λe1=>KS [q,e,k,p,m]<|J52 e1 t) (KS [q,e,k,p,m]<|J52 (.bool false) t)) (KS [q,e,k,p,m]<|J52 (.bool false) t)))) (λJ62=>Fo 0 e λe2=>Ld e2 u λe3=>Bp .eql e3 (I 2) λe4=>Vif e4 (Fo 2 e λe5=>Ld e5 u λe6=>Bv .gtr e6 (I 300) (Fo 2 e λe7=>Ld e7 u λe8=>Bp .leq e8 (I 65536) λe9=>KS [q,e,k,p,m]<|J62 e9 u) (KS [q,e,k,p,m]<|J62 (.bool false) u)) (KS [q,e,k,p,m]<|J62 (.bool false) u))) (Bp .gtr q (I 1000) λf0=>R f0 N))))) (λJ73=>Fo 0 c λf1=>Fo 0 f1 λf2=>Ld f2 g λf3=>Lnl f3 λf4=>Bp .gtr f4 (I 20) λf5=>Vif f5 (KS [f,c]<|J73 (.bool true) g) (Fo 7 c λf6=>Ld f6 g λf7=>Lnl f7 λf8=>Bv .gtr f8 (I 6) (KS [f,c]<|J73 (.bool true) g) (Fo 8 c λf9=>Ld f9 g λg0=>Lnl g0 λg1=>Bv .gtr g1 (I 60) (KS [f,c]<|J73 (.bool true) g) (Fo 0 c λg2=>Fo 1 g2 λg3=>Ld g3 g λg4=>Bv .gtr g4 (I 200) (Fo 0 c λg5=>Fo 1 g5 λg6=>Ld g6 g λg7=>Bp .leq g7 (I 100000) λg8=>KS [f,c]<|J73 g8 g) (KS [f,c]<|J73 (.bool false) g)))))
theorem Tz4 (h:Vz4 prog a0 a1 w R):Cl prog 4 #[a0,a1] w R:=
 tz 112 [(.tmp 4)] (s z (s (j [40] [1,2] z (i (s z z) z)) (s (s z (b (l [45] [1,2,43,44] (s z (s (i z z) (s (b (s z (j [58] [1,2,43,44,45] z (i (s z z) z)))) z)))))) (s (s z (b (l [63] [1,2,61,62] (s z (s (i z z) (s (b (s z (s z (i (s z z) z)))) z)))))) (s z (s (s z (b (l [9,75] [73,74] (s z (s (i z z) (s (b (s z (s (j [91] [9,11,73,74,75] z (i (s z z) z)) (j [104] [9,11,73,74,75] z (i z z))))) z)))))) (s z z))))))) [a0,a1] func4 h
def Vz5:VT1:=λP M w R=>
 New M 28 w λc D=>Fo 0 c λN=>LdA 7 N D λO=>Cl P 12 #[O] D λE e=>Bv .neq E (I 0) (R E e) (VJoin 1 (λ_ Q t=>Vif Q (R (I 2) t) (Fo 7 c λS=>Ld S t λu=>Lnl u λF=>VLoop 1 [(I 0)] t λ_ U v f=>Bv .lss v F (Ias 1 u v λW=>Ld W f λY=>Lns Y λZ=>Bv .gtr Z (I 65536) (R (I 2) f) (Bp .add v (I 1) λa0=>KS [c,u,F]<|U a0 f)) (Fo 8 c λa1=>Ld a1 f λg=>Lnl g λp=>VLoop 2 [(I 0),(I 0)] f λ_ a2 G k y=>Bp .lss k p λa3=>Vif a3 (Ias 3 g k λa4=>LdA 3 a4 y λa5=>New (zeroP P 33) 33 y λq a6=>StA 3 q a5 a6 λC=>LdA 3 q C λa7=>Fo 7 c λa8=>Ld a8 C λa9=>Lnl a9 λb0=>Cl P 13 #[a7,b0] C λb1 m=>Up .not b1 λb2=>Vif b2 (R (I 1) m) (VJoin 1 (λ_ J L=>Bv .gtr J (I 65536) (R (I 2) L) (Bp .add k (I 1) λb3=>KS [c,g,p]<|a2 J b3 L)) (λJ37=>Fo 0 q λb4=>Ld b4 m λb5=>Bp .eql b5 (I 2) λb6=>Vif b6 (Fo 2 q λb7=>Ld b7 m λb8=>Bp .add G b8 λb9=>KS [c,g,p,k]<|J37 b9 m) (KS [c,g,p,k]<|J37 G m)))) (R (I 0) y)))) (λJ44=>Fo 7 c λc0=>Ld c0 e λc1=>Lnl c1 λc2=>Bp .gtr c2 (I 64) λc3=>Vif c3 (KS [c]<|J44 (.bool true) e) (Fo 8 c λc4=>Ld c4 e λc5=>Lnl c5 λc6=>Bp .gtr c6 (I 65536) λc7=>KS [c]<|J44 c7 e)))
theorem Tz5 (h:Vz5 prog a0 w R):Cl prog 5 #[a0] w R:=
 tz 59 [(.tmp 2)] (s z (s z (s (s z (i (s z z) z)) (s (j [24] [1] z (i (s z z) z)) (s (s z (b (l [28] [1,26,27] (s z (s (i z z) (s (b (s z (s z (i (s z z) z)))) z)))))) (s z (s (s z (b (l [6,39] [1,37,38] (s z (s (i z z) (s (b (s z (s (s z (i (s z z) z)) (j [6] [1,37,38,39] (s z (i z z)) (s z (i (s z z) z)))))) z)))))) (s z z)))))))) [a0] func5 h
def Vz7:VT1:=λP c2 w R=>
 New c2 28 w λe c3=>New (zeroP P 36) 36 c3 λC a9=>LdA 9 e a9 λc4=>Cl P 17 #[c4] a9 λb0 a1=>Bv .neq b0 (I 0) (Bd P 36 #[] a1 λc5=>StA 8 C c5 a1 λb1=>LdA 8 C b1 λc6=>R (.tuple #[c6,b0]) b1) (Fo 0 e λc7=>LdA 7 c7 a1 λc8=>Cl P 8 #[c8] a1 λb2 b3=>Ex b2 0 λL=>Ex b2 1 λh8=>Fo 0 e λc9=>Fo 0 c9 λd0=>Ld d0 b3 λd1=>Lnl d1 λy=>VJoin 1 (λ_ M d2=>Ms P 34 y y d2 λd3 d4=>Nc M<|Fo 0 M λd5=>Fo 7 d5 λd6=>St d6 d3 d4 λb4=>Fo 8 e λd7=>Ld d7 b4 λa7=>Lnl a7 λb5=>VLoop 1 [(I 0)] b4 λ_ d8 a8 a2=>Bv .lss a8 b5 (Ias 3 a7 a8 λd9=>LdA 3 d9 a2 λe0=>New (zeroP P 33) 33 a2 λb6 e1=>StA 3 b6 e0 e1 λb7=>LdA 3 b6 b7 λe2=>Cl P 18 #[M,e2] b7 λh9 e3=>Bp .add a8 (I 1) λe4=>KS [C,M,a7,b5]<|d8 e4 e3) (Nc M<|Fo 0 M λe5=>LdA 8 e5 a2 λe6=>StA 8 C e6 a2 λb8=>LdA 8 C b8 λe7=>R (.tuple #[e7,(I 0)]) b8)) (λJ36=>Dr b3 λN=>LdA 9 e N λf=>Fo 7 e λD=>Ld D N λg=>Lnl g λm=>Fo 7 e λE=>Ld E N λk=>Lnl k λp=>(Ms P 34 m m N λb9 S=>Rk (λw K=>Lnl k λq=>K q) p S<|Rk (λw K=>Ld E w λt=>K t) k S<|Rk (λw K=>LdA 9 e w λc=>K c) f S<|(Ms P 25 p p S λe8 a3=>Rk (λw K=>Lnl g λu=>K u) m a3<|Rk (λw K=>Ld D w λv=>K v) g a3<|Rk (λw K=>LdA 9 e w λc=>K c) f a3<|Ms P 34 y y a3 λe9 F=>Rk (λw K=>Lnl k λq=>K q) p F<|Rk (λw K=>Ld E w λt=>K t) k F<|Rk (λw K=>Lnl g λu=>K u) m F<|Rk (λw K=>Ld D w λv=>K v) g F<|Rk (λw K=>LdA 9 e w λc=>K c) f F<|Bd P 57 #[(1,f),(2,L),(3,b9),(4,e8),(5,e9)] F λf0=>New f0 57 F λf1 f2=>KS [e,C,y]<|J36 f1 f2)/\(Ms P 34 y y S λf3 O=>Rk (λw K=>Lnl k λq=>K q) p O<|Rk (λw K=>Ld E w λt=>K t) k O<|Rk (λw K=>Lnl g λu=>K u) m O<|Rk (λw K=>Ld D w λv=>K v) g O<|Rk (λw K=>LdA 9 e w λc=>K c) f O<|Ms P 25 p p O λf4 U=>Rk (λw K=>Lnl g λu=>K u) m U<|Rk (λw K=>Ld D w λv=>K v) g U<|Rk (λw K=>LdA 9 e w λc=>K c) f U<|Bd P 57 #[(1,f),(2,L),(3,b9),(4,f4),(5,f3)] U λf5=>New f5 57 U λf6 f7=>KS [e,C,y]<|J36 f6 f7))/\((Ms P 25 p p N λc0 W=>Rk (λw K=>Lnl g λu=>K u) m W<|Rk (λw K=>Ld D w λv=>K v) g W<|Rk (λw K=>LdA 9 e w λc=>K c) f W<|(Ms P 34 m m W λf8 a4=>Rk (λw K=>Lnl k λq=>K q) p a4<|Rk (λw K=>Ld E w λt=>K t) k a4<|Rk (λw K=>LdA 9 e w λc=>K c) f a4<|Ms P 34 y y a4 λf9 G=>Rk (λw K=>Lnl k λq=>K q) p G<|Rk (λw K=>Ld E w λt=>K t) k G<|Rk (λw K=>Lnl g λu=>K u) m G<|Rk (λw K=>Ld D w λv=>K v) g G<|Rk (λw K=>LdA 9 e w λc=>K c) f G<|Bd P 57 #[(1,f),(2,L),(3,f8),(4,c0),(5,f9)] G λg0=>New g0 57 G λg1 g2=>KS [e,C,y]<|J36 g1 g2)/\(Ms P 34 y y W λg3 Q=>Rk (λw K=>Lnl k λq=>K q) p Q<|Rk (λw K=>Ld E w λt=>K t) k Q<|Rk (λw K=>Lnl g λu=>K u) m Q<|Rk (λw K=>Ld D w λv=>K v) g Q<|Rk (λw K=>LdA 9 e w λc=>K c) f Q<|Ms P 34 m m Q λg4 Y=>Rk (λw K=>Lnl k λq=>K q) p Y<|Rk (λw K=>Ld E w λt=>K t) k Y<|Rk (λw K=>LdA 9 e w λc=>K c) f Y<|Bd P 57 #[(1,f),(2,L),(3,g4),(4,c0),(5,g3)] Y λg5=>New g5 57 Y λg6 g7=>KS [e,C,y]<|J36 g6 g7))/\(Ms P 34 y y N λc1 J=>Rk (λw K=>Lnl k λq=>K q) p J<|Rk (λw K=>Ld E w λt=>K t) k J<|Rk (λw K=>Lnl g λu=>K u) m J<|Rk (λw K=>Ld D w λv=>K v) g J<|Rk (λw K=>LdA 9 e w λc=>K c) f J<|(Ms P 34 m m J λg8 a5=>Rk (λw K=>Lnl k λq=>K q) p a5<|Rk (λw K=>Ld E w λt=>K t) k a5<|Rk (λw K=>LdA 9 e w λc=>K c) f a5<|Ms P 25 p p a5 λg9 Z=>Rk (λw K=>Lnl g λu=>K u) m Z<|Rk (λw K=>Ld D w λv=>K v) g Z<|Rk (λw K=>LdA 9 e w λc=>K c) f Z<|Bd P 57 #[(1,f),(2,L),(3,g8),(4,g9),(5,c1)] Z λh0=>New h0 57 Z λh1 h2=>KS [e,C,y]<|J36 h1 h2)/\(Ms P 25 p p J λh3 a6=>Rk (λw K=>Lnl g λu=>K u) m a6<|Rk (λw K=>Ld D w λv=>K v) g a6<|Rk (λw K=>LdA 9 e w λc=>K c) f a6<|Ms P 34 m m a6 λh4 a0=>Rk (λw K=>Lnl k λq=>K q) p a0<|Rk (λw K=>Ld E w λt=>K t) k a0<|Rk (λw K=>LdA 9 e w λc=>K c) f a0<|Bd P 57 #[(1,f),(2,L),(3,h4),(4,h3),(5,c1)] a0 λh5=>New h5 57 a0 λh6 h7=>KS [e,C,y]<|J36 h6 h7)))))
theorem Tz7 (h:Vz7 prog a0 w R):Cl prog 7 #[a0] w R:=
 tz 62 [(.cell 2 36),(.tmp 3)] (s z (s (s z (s z (i (s z z) z))) (s z (s z (j [8] [1,2,7] (r (.tree [0,0,0,4,12,28,0,64,192,448,0,1024,4095,8191,16383] (.op 0 (.op 1 (.op 2 (.op 3 (.op 4 (.op 6 (.op 7 (.op 8 (.op 10 (.fk (.op 5 (.fk (.op 9 (.op 11 (.op 12 (.op 13 (.op 14 .dn))))) (.op 11 (.op 9 (.op 12 (.op 13 (.op 14 .dn))))))) (.fk (.op 9 (.fk (.op 5 (.op 11 (.op 12 (.op 13 (.op 14 .dn))))) (.op 11 (.op 5 (.op 12 (.op 13 (.op 14 .dn))))))) (.op 11 (.fk (.op 5 (.op 9 (.op 12 (.op 13 (.op 14 .dn))))) (.op 9 (.op 5 (.op 12 (.op 13 (.op 14 .dn)))))))))))))))))))) (s z (s (s z (b (l [50] [2,8,48,49] (s z (s (i z z) (s (b (s z z)) z)))))) (s z z)))))))) [a0] func7 h
def Vz8:VT1:=λP J w R=>
 New J 24 w λc g=>LdA 7 c g λL=>Cl P 19 #[L] g λk e=>Bv .neq k (I 0) (R (.tuple #[(.pointer none),k]) e) (Fo 5 c λM=>Ld M e λN=>Cl P 20 #[N] e λm p=>Ex m 0 λO=>Ex m 1 λc4=>Fo 0 c λQ=>Ld Q p λS=>Cl P 22 #[S,(.func (.func 23) #[] #[])] p λU W=>Cl P 21 #[U] W λq Y=>Ex q 0 λZ=>Ex q 1 λc5=>Dr Y λf=>Fo 4 c λt=>Ld t f λu=>Fo 0 c λa0=>Ld a0 f λa1=>Cl P 22 #[a1,(.func (.func 25) #[] #[])] f λa2 v=>Rk (λw K=>Ld t w λa3=>K a3) u v<|Cl P 24 #[u,a2] v λy C=>Ex y 0 λa4=>Ex y 1 λc6=>Fo 0 c λa5=>Ld a5 C λa6=>Cl P 22 #[a6,(.func (.func 27) #[] #[])] C λa7 a8=>Cl P 26 #[a7] a8 λD a9=>Ex D 0 λb0=>Ex D 1 λc7=>Bs P 22 0 #[] a9 λb1 E=>Fo 0 c λb2=>Ld b2 E λb3=>Ap P #[22,22] 22 #[b1,b3] E λb4 b5=>Fo 0 c λb6=>St b6 b4 b5 λF=>LdA 7 c F λb7=>Mm P 74 none F λb8 b9=>Mm P 75 none b9 λc0 G=>Bd P 77 #[(0,b7),(1,b8),(2,c0),(3,O),(4,Z),(5,a4),(6,b0)] G λc1=>New c1 77 G λc2 c3=>R (.tuple #[c2,(I 0)]) c3)
theorem Tz8 (h:Vz8 prog a0 w R):Cl prog 8 #[a0] w R:=
 tz 61 [(.tmp 2),(.tmp 3)] (s z (s (s z (s z (i (s z z) z))) (s z (s z (s (r (.staged [0,1,0,4,12,31,63,127,127,255,1023])) (s z (s z (s z z)))))))) [a0] func8 h
def Vz9:VT3:=λP c g f w R=>
 VJoin 1 (λ_ C t=>Vif C (R (I 0) t) (Cl P 29 #[c,g] t λe D=>VLoop 1 [(I 0)] D λ_ u k m=>Nc e<|Fo 6 e λE=>Ld E m λF=>Up .not F λG=>Vif G (Dr m λv=>Nc e<|Fo 1 e λJ=>Ld J v λL=>Sst f (some k) none λM=>Cl P 30 #[L,M] v λy N=>Bp .add k y λp=>Cl P 31 #[c,e] N λO q=>Up .not O λQ=>Vif Q (Bv .eql y (I 0) (R p q) (KS [c,f,e]<|u p q)) (KS [c,f,e]<|u p q)) (R k m))) (λJ18=>Bn P 77 false c (.pointer none) λS=>Vif S (KS [c,g,f]<|J18 (.bool true) w) (Cl P 28 #[g] w λU W=>Up .not U λY=>KS [c,g,f]<|J18 Y W))
theorem Tz9 (h:Vz9 prog a0 a1 a2 w R):Cl prog 9 #[a0,a1,a2] w R:=
 tz 45 [(.tmp 6)] (s z (s (j [16] [0,1,2] z (i (s z z) z)) (s z (s z (s (b (l [8] [0,2,7] (s (s z (i z z)) (b (s (r (.staged [0,1,3,7,0,0,48,127,255])) (s z (s z (i z z)))))))) (s z z)))))) [a0,a1,a2] func9 h
def Vz10:VT4:=λP f g c e w R=>
 Bv .eql f (I 1) (Cl P 32 #[g,c,e] w λk m=>R k m) (Bv .eql f (I 2) (Cl P 33 #[c,e,(I 4096)] w λp q=>R p q) (Cl P 34 #[c,e] w λt u=>R t u))
theorem Tz10 (h:Vz10 prog a0 a1 a2 a3 w R):Cl prog 10 #[a0,a1,a2,a3] w R:=
 tz 23 [(.tmp 8)] (s z (s (s z (i (s z z) z)) (s (s z (i (s z z) z)) (s z z)))) [a0,a1,a2,a3] func10 h
def Vz11:VT2:=λP c e w R=>
 Bn P 77 false c (.pointer none) λf=>Vif f (R (I 0) w) (Nc c<|Fo 10 c λg=>Ld g w λk=>Cl P 35 #[k,e] w λm p=>R m p)
theorem Tz11 (h:Vz11 prog a0 a1 w R):Cl prog 11 #[a0,a1] w R:=
 tz 13 [(.tmp 4)] (s z (s (s z (i (s z z) z)) (s z z))) [a0,a1] func11 h
def Vz12:VT1:=λP m w R=>
 New m 24 w λf k=>Fo 0 f λp=>Ld p k λq=>Cl P 36 #[q] k λt u=>New (zeroP P 94) 94 u λg v=>StA 2 g t v λe=>Fo 1 g λy=>Ld y e λC=>Bv .neq C (I 0) (Fo 1 g λD=>Ld D e λE=>R E e) (Fo 1 f λF=>Ld F e λG=>Bv .lss G (I 24) (R (I 1) e) (Fo 1 f λJ=>Ld J e λL=>Bv .gtr L (I 100000) (R (I 1) e) (Fo 2 f λM=>Ld M e λN=>Bv .lss N (I 64) (R (I 1) e) (Fo 2 f λO=>Ld O e λQ=>Bv .gtr Q (I 1048576) (R (I 1) e) (Fo 3 f λS=>Ld S e λU=>Cl P 37 #[U,(I 1)] e λW c=>Up .not W λY=>Vif Y (R (I 1) c) (Fo 4 f λZ=>Ld Z c λa0=>Bv .lss a0 (I 1) (R (I 1) c) (Fo 4 f λa1=>Ld a1 c λa2=>Bv .gtr a2 (I 1048576) (R (I 1) c) (Fo 5 f λa3=>Ld a3 c λa4=>Bv .lss a4 (I 1) (R (I 1) c) (Fo 5 f λa5=>Ld a5 c λa6=>Bv .gtr a6 (I 64) (R (I 1) c) (Fo 6 f λa7=>Ld a7 c λa8=>Bv .lss a8 (I 1) (R (I 1) c) (Fo 6 f λa9=>Ld a9 c λb0=>Bv .gtr b0 (I 4096) (R (I 1) c) (R (I 0) c))))))))))))
theorem Tz12 (h:Vz12 prog a0 w R):Cl prog 12 #[a0] w R:=
 tz 66 [(.tmp 2)] (s z (s z (s (s z (i (s z z) z)) (s (s z (i (s z z) z)) (s z z))))) [a0] func12 h
def Vz13:VT2:=λP k m w R=>
 New k 33 w λe f=>VJoin 1 (λ_ g c=>Fo 0 e λp=>Ld p c λq=>Bv .eql q (I 1) (Vif g (Fo 2 e λt=>Ld t c λu=>Bv .geq u (I 0) (Fo 2 e λv=>Ld v c λy=>Bp .leq y (I 65536) λC=>R C c) (R (.bool false) c)) (R (.bool false) c)) (Fo 0 e λD=>Ld D c λE=>Bp .eql E (I 2) λF=>Vif F (Fo 1 e λG=>Ld G c λJ=>Bv .eql J (I 0) (Fo 2 e λL=>Ld L c λM=>Bv .geq M (I 1) (Fo 2 e λN=>Ld N c λO=>Bp .leq O (I 65536) λQ=>R Q c) (R (.bool false) c)) (R (.bool false) c)) (Fo 0 e λS=>Ld S c λU=>Bp .eql U (I 3) λW=>Vif W (Vif g (Fo 2 e λY=>Ld Y c λZ=>Bp .eql Z (I 0) λa0=>R a0 c) (R (.bool false) c)) (R (.bool false) c)))) (λJ30=>Fo 1 e λa1=>Ld a1 f λa2=>Bp .geq a2 (I 0) λa3=>Vif a3 (Fo 1 e λa4=>Ld a4 f λa5=>Bp .lss a5 m λa6=>KS [e]<|J30 a6 f) (KS [e]<|J30 (.bool false) f))
theorem Tz13 (h:Vz13 prog a0 a1 w R):Cl prog 13 #[a0,a1] w R:=
 tz 56 [(.tmp 4)] (s z (j [5] [2] z (s (s z (i (s z z) z)) (s (s z (i (s z z) z)) (s z z))))) [a0,a1] func13 h
def Vz17:VT1:=λP G w R=>
 New G 28 w λc y=>Fo 0 c λJ=>LdA 7 J y λL=>Cl P 19 #[L] y λC q=>Bv .neq C (I 0) (R C q) (Fo 7 c λM=>Ld M q λN=>Cl P 38 #[N,(.func (.func 39) #[] #[])] q λO e=>VJoin 1 (λ_ Q t=>Vif Q (R (I 2) t) (Fo 8 c λS=>Ld S t λf=>Lnl f λm=>VLoop 2 [(I 0),(I 0)] t λ_ U D g u=>Bv .lss g m (Ias 3 f g λW=>LdA 3 W u λY=>New (zeroP P 33) 33 u λp Z=>StA 3 p Y Z λv=>LdA 3 p v λa0=>Fo 7 c λa1=>Ld a1 v λa2=>Lnl a2 λa3=>Cl P 40 #[a0,a3] v λa4 k=>Up .not a4 λa5=>Vif a5 (R (I 1) k) (VJoin 1 (λ_ E F=>Bv .gtr E (I 65536) (R (I 2) F) (Bp .add g (I 1) λa6=>KS [c,f,m]<|U E a6 F)) (λJ29=>Fo 0 p λa7=>Ld a7 k λa8=>Bp .eql a8 (I 2) λa9=>Vif a9 (Fo 2 p λb0=>Ld b0 k λb1=>Bp .add D b1 λb2=>KS [c,f,m,g]<|J29 b2 k) (KS [c,f,m,g]<|J29 D k)))) (R (I 0) u))) (λJ36=>Fo 7 c λb3=>Ld b3 e λb4=>Lnl b4 λb5=>Bp .gtr b5 (I 64) λb6=>Vif b6 (KS [c]<|J36 (.bool true) e) (Vif O (KS [c]<|J36 (.bool true) e) (Fo 8 c λb7=>Ld b7 e λb8=>Lnl b8 λb9=>Bp .gtr b9 (I 65536) λc0=>KS [c]<|J36 c0 e))))
theorem Tz17 (h:Vz17 prog a0 w R):Cl prog 17 #[a0] w R:=
 tz 53 [(.tmp 2)] (s z (s (s z (s z (i (s z z) z))) (s z (s (j [29] [1] z (i (s z z) z)) (s z (s (s z (b (l [5,33] [1,31,32] (s z (s (i z z) (s (b (s z (s (s z (i (s z z) z)) (j [5] [1,31,32,33] (s z (i z z)) (s z (i (s z z) z)))))) z)))))) (s z z))))))) [a0] func17 h
def Vz18:VT2:=λP c L w R=>
 New L 33 w λe k=>Fo 0 e λM=>Ld M k λu=>Bv .eql u (I 1) (Dr k λg=>Nc c<|Fo 8 c λN=>Fo 7 N λO=>Ld O g λQ=>Fo 1 e λS=>Ld S g λU=>Ias 1 Q U λW=>Ld W g λY=>Nc c<|Fo 18 c λZ=>Ld Z g λa0=>Fo 1 e λa1=>Ld a1 g λa2=>Ias 1 a0 a2 λa3=>Ld a3 g λa4=>Sst Y (some a4) none λv=>Dr g λf=>Nc c<|Fo 18 c λy=>Ld y f λp=>Fo 1 e λC=>Ld C f λq=>Ias 1 p q λD=>Ld D f λE=>Nc c<|Fo 17 c λa5=>Ld a5 f λa6=>Fo 1 e λa7=>Ld a7 f λa8=>Lns v λa9=>Fo 2 e λb0=>Ld b0 f λb1=>Bmin P #[3,3] 3 #[a9,b1] f λb2=>Sst v none (some b2) λb3=>Cl P 9 #[a6,a8,b3] f λb4 m=>Rk (λw K=>Ld D w λb5=>K b5) E m<|Rk (λw K=>Ld C w λb6=>K b6) q m<|Rk (λw K=>Ld y w λb7=>K b7) p m<|Bp .add E b4 λb8=>Ias 1 p q λb9=>St b9 b8 m λc0=>Cl P 43 #[c] c0 λd3 c1=>R (.tuple #[]) c1) (Bp .eql u (I 2) λc2=>Vif c2 (Fo 2 e λc3=>Ld c3 k λF=>VLoop 1 [(I 0)] k λ_ c4 G J=>Bv .lss G F (Cl P 41 #[c] J λd4 c5=>Bp .add G (I 1) λc6=>KS [c,F]<|c4 c6 c5) (R (.tuple #[]) J)) (Dr k λt=>Nc c<|Fo 17 c λc7=>Ld c7 t λc8=>Fo 1 e λc9=>Ld c9 t λd0=>Cl P 42 #[c8,d0] t λd5 d1=>Cl P 43 #[c] d1 λd6 d2=>R (.tuple #[]) d2))
theorem Tz18 (h:Vz18 prog a0 a1 w R):Cl prog 18 #[a0,a1] w R:=
 tz 69 [] (s z (s (s z (b (s z (i (s (r (.staged [0,1,3,7,15,0,32,127,255,0,512,1536,3584,0,8192,32256,65024,131071,262143])) (r (.staged [0,1,3,7,0,16,63,127,0,256,768,1792,0,4096,0,0,32768,0,131072,491520,1032192,2096896,4194303,8388607,16777215]))) (s z (i (s (s z (b (l [62] [0,61] (s z (s (i z z) (s (b z) z)))))) z) (r (.staged [0,1,3,7,0,16,63])))))))) z)) [a0,a1] func18 h
def Vz19:VT1:=λP y w R=>
 New y 24 w λc q=>Fo 0 c λC=>Ld C q λD=>Cl P 44 #[D] q λt e=>Ex t 0 λa4=>Ex t 1 λu=>Bv .neq u (I 0) (R u e) (Fo 1 c λE=>Ld E e λF=>Cl P 45 #[F,(I 24),(I 100000)] e λG f=>Vif G (Fo 2 c λJ=>Ld J f λL=>Cl P 45 #[L,(I 64),(I 1048576)] f λM g=>Vif M (Fo 3 c λN=>Ld N g λO=>Cl P 45 #[O,(I 1),(I 1099511627776)] g λQ k=>Vif Q (Fo 4 c λS=>Ld S k λU=>Cl P 45 #[U,(I 1),(I 1048576)] k λW m=>Vif W (Fo 5 c λY=>Ld Y m λZ=>Cl P 45 #[Z,(I 1),(I 64)] m λa0 p=>Vif a0 (Fo 6 c λa1=>Ld a1 p λa2=>Cl P 45 #[a2,(I 1),(I 4096)] p λa3 v=>Vif a3 (R (I 0) v) (R (I 1) v)) (R (I 1) p)) (R (I 1) m)) (R (I 1) k)) (R (I 1) g)) (R (I 1) f))
theorem Tz19 (h:Vz19 prog a0 w R):Cl prog 19 #[a0] w R:=
 tz 42 [(.tmp 2)] (s z (s (s z (s z (i (s z z) z))) (s (s z (i (s z z) z)) (s z z)))) [a0] func19 h
def Vz20:VT1:=λP c w R=>
 VJoin 1 (λ_ f e=>Vif f (R (.tuple #[(.pointer none),(I 1)]) e) (Bd P 105 #[(0,c)] e λg=>New g 105 e λk m=>R (.tuple #[k,(I 0)]) m)) (λJ4=>Bv .lss c (I 1) (KS [c]<|J4 (.bool true) w) (Bp .gtr c (I 64) λp=>KS [c]<|J4 p w))
theorem Tz20 (h:Vz20 prog a0 w R):Cl prog 20 #[a0] w R:=
 tz 13 [(.tmp 2),(.tmp 3)] (s z (s (j [9] [0] z (i (s z z) z)) (s z z))) [a0] func20 h
def Vz21:VT1:=λP c w R=>
 VJoin 1 (λ_ p g=>Vif p (R (.tuple #[(.pointer none),(I 1)]) g) (Bd P 109 #[] g λq=>New q 109 g λe t=>Lnl c λm=>VLoop 1 [(I 0)] t λ_ u k f=>Bv .lss k m (Ias 1 c k λv=>Ld v f λy=>Nc e<|Fo 0 e λC=>Ld C f λD=>Bd P 111 #[(0,y)] f λE=>Bs P 107 1 #[(0,E)] f λF G=>Ap P #[107,107] 107 #[D,F] G λJ L=>Nc e<|Fo 0 e λM=>St M J L λN=>Bp .add k (I 1) λO=>KS [e,c,m]<|u O N) (R (.tuple #[e,(I 0)]) f))) (λJ17=>Lnl c λQ=>Bp .eql Q (I 0) λS=>Vif S (KS [c]<|J17 (.bool true) w) (Lnl c λU=>Bv .gtr U (I 16) (KS [c]<|J17 (.bool true) w) (Cl P 46 #[c,(.func (.func 47) #[] #[])] w λW Y=>KS [c]<|J17 W Y)))
theorem Tz21 (h:Vz21 prog a0 w R):Cl prog 21 #[a0] w R:=
 tz 40 [(.tmp 2),(.tmp 3)] (s z (s (j [18] [0] z (i (s z z) z)) (s z (s (s z (b (l [23] [4,21,22] (s z (s (i z z) (s (b (s z z)) z)))))) (s z z))))) [a0] func21 h
def Vz22:VT2:=λP c g w R=>
 Lnl c λk=>VLoop 2 [(.slice none 0 0),(I 0)] w λ_ t m e f=>Bv .lss e k (Ias 5 c e λu=>LdA 5 u f λv=>New (zeroP P 49) 49 f λp y=>StA 5 p v y λq=>LdA 5 p q λC=>Inv P (do let d <-Deferred.ofValue g #[C];invoke d.target d.args) q λD E=>Bs P 34 1 #[(0,D)] E λF G=>Ap P #[34,34] 34 #[m,F] G λJ L=>Bp .add e (I 1) λM=>KS [g,c,k]<|t J M L) (R m f)
theorem Tz22 (h:Vz22 prog a0 a1 w R):Cl prog 22 #[a0,a1] w R:=
 tz 22 [(.tmp 4)] (s z (s z (s (s z (b (l [5,10] [1,8,9] (s z (s (i z z) (s (b (s z z)) z)))))) (s z z)))) [a0,a1] func22 h
def Vz23:VT1:=λP e w R=>
 New e 49 w λf c=>Fo 2 f λg=>Ld g c λk=>R k c
theorem Tz23 (h:Vz23 prog a0 w R):Cl prog 23 #[a0] w R:=
 tz 5 [(.tmp 2)] (s z (s z z)) [a0] func23 h
def Vz24:VT2:=λP e f w R=>
 Lnl f λc=>Cl P 46 #[f,(.func (.func 49) #[] #[])] w λL g=>VJoin 1 (λ_ M m=>Vif M (R (.tuple #[(.pointer none),(I 1)]) m) (Dr m λk=>(Cl P 51 #[f] k λp q=>(Ms P 34 c c q λN O=>Ms P 34 c c O λQ t=>Bd P 114 #[(0,e),(2,p),(3,N),(4,Q)] t λS=>New S 114 t λU W=>R (.tuple #[U,(I 0)]) W)/\(Ms P 34 c c q λY Z=>Ms P 34 c c Z λa0 u=>Bd P 114 #[(0,e),(2,p),(3,a0),(4,Y)] u λa1=>New a1 114 u λa2 a3=>R (.tuple #[a2,(I 0)]) a3))/\((Ms P 34 c c k λv y=>(Cl P 51 #[f] y λa4 a5=>Ms P 34 c c a5 λa6 C=>Bd P 114 #[(0,e),(2,a4),(3,v),(4,a6)] C λa7=>New a7 114 C λa8 a9=>R (.tuple #[a8,(I 0)]) a9)/\(Ms P 34 c c y λb0 b1=>Cl P 51 #[f] b1 λb2 D=>Bd P 114 #[(0,e),(2,b2),(3,v),(4,b0)] D λb3=>New b3 114 D λb4 b5=>R (.tuple #[b4,(I 0)]) b5))/\(Ms P 34 c c k λE F=>(Cl P 51 #[f] F λb6 b7=>Ms P 34 c c b7 λb8 G=>Bd P 114 #[(0,e),(2,b6),(3,b8),(4,E)] G λb9=>New b9 114 G λc0 c1=>R (.tuple #[c0,(I 0)]) c1)/\(Ms P 34 c c F λc2 c3=>Cl P 51 #[f] c3 λc4 J=>Bd P 114 #[(0,e),(2,c4),(3,c2),(4,E)] J λc5=>New c5 114 J λc6 c7=>R (.tuple #[c6,(I 0)]) c7))))) (λJ37=>Bv .lss e (I 1) (KS [e,f,c]<|J37 (.bool true) g) (Bv .gtr e (I 1048576) (KS [e,f,c]<|J37 (.bool true) g) (Bv .eql c (I 0) (KS [e,f,c]<|J37 (.bool true) g) (Bv .gtr c (I 16) (KS [e,f,c]<|J37 (.bool true) g) (KS [e,f,c]<|J37 L g)))))
theorem Tz24 (h:Vz24 prog a0 a1 w R):Cl prog 24 #[a0,a1] w R:=
 tz 38 [(.tmp 4),(.tmp 5)] (s z (s z (s z (s (j [28] [0,1,6] z (i (s z z) z)) (s (r (.tree [0,0,2,0,8,0,32,127,255,511,1023] (.op 0 (.op 1 (.op 3 (.op 5 (.fk (.op 2 (.fk (.op 4 (.op 6 (.op 7 (.op 8 (.op 9 (.op 10 .dn)))))) (.op 6 (.op 4 (.op 7 (.op 8 (.op 9 (.op 10 .dn)))))))) (.fk (.op 4 (.fk (.op 2 (.op 6 (.op 7 (.op 8 (.op 9 (.op 10 .dn)))))) (.op 6 (.op 2 (.op 7 (.op 8 (.op 9 (.op 10 .dn)))))))) (.op 6 (.fk (.op 2 (.op 4 (.op 7 (.op 8 (.op 9 (.op 10 .dn)))))) (.op 4 (.op 2 (.op 7 (.op 8 (.op 9 (.op 10 .dn)))))))))))))))) z))))) [a0,a1] func24 h
def Vz25:VT1:=λP e w R=>
 New e 49 w λf c=>Fo 3 f λg=>Ld g c λk=>R k c
theorem Tz25 (h:Vz25 prog a0 w R):Cl prog 25 #[a0] w R:=
 tz 5 [(.tmp 2)] (s z (s z z)) [a0] func25 h
def Vz26:VT1:=λP c w R=>
 Cl P 46 #[c,(.func (.func 52) #[] #[])] w λF m=>VJoin 1 (λ_ G u=>Vif G (R (.tuple #[(.pointer none),(I 1)]) u) (Cl P 53 #[] u λJ v=>Bd P 119 #[(1,J)] v λL=>New L 119 v λe M=>Lnl c λy=>VLoop 1 [(I 0)] M λ_ N p q=>Bv .lss p y (Ias 1 c p λO=>Ld O q λQ=>Dr q λC=>Nc e<|Fo 0 e λg=>Ld g C λk=>Cl P 53 #[] C λS t=>Rk (λw K=>Ld g w λf=>K f) k t<|Bd P 122 #[(0,S),(1,Q)] t λU=>New U 122 t λW D=>Rk (λw K=>Ld g w λf=>K f) k D<|Bs P 117 1 #[(0,W)] D λY E=>Rk (λw K=>Ld g w λf=>K f) k E<|Ap P #[117,117] 117 #[k,Y] E λZ a0=>Nc e<|Fo 0 e λa1=>St a1 Z a0 λa2=>Bp .add p (I 1) λa3=>KS [e,c,y]<|N a3 a2) (R (.tuple #[e,(I 0)]) q))) (λJ23=>Lnl c λa4=>Bp .eql a4 (I 0) λa5=>Vif a5 (KS [c]<|J23 (.bool true) m) (Lnl c λa6=>Bv .gtr a6 (I 16) (KS [c]<|J23 (.bool true) m) (KS [c]<|J23 F m)))
theorem Tz26 (h:Vz26 prog a0 w R):Cl prog 26 #[a0] w R:=
 tz 45 [(.tmp 2),(.tmp 3)] (s z (s z (s (j [20] [0] z (i (s z z) z)) (s z (s (s z (b (l [26] [5,24,25] (s z (s (i z z) (s (b (s z (r (.staged [0,0,2,6,14,0,0,96,224,480,1022,2047,4095,8191])))) z)))))) (s z z)))))) [a0] func26 h
def Vz27:VT1:=λP e w R=>
 New e 49 w λf c=>Fo 4 f λg=>Ld g c λk=>R k c
theorem Tz27 (h:Vz27 prog a0 w R):Cl prog 27 #[a0] w R:=
 tz 5 [(.tmp 2)] (s z (s z z)) [a0] func27 h
def Vz28:VT1:=λP c w R=>
 Bv .geq c (I 0) (Bp .lss c (I 64) λe=>R e w) (R (.bool false) w)
theorem Tz28 (h:Vz28 prog a0 w R):Cl prog 28 #[a0] w R:=
 tz 9 [(.tmp 2)] (s z (s z z)) [a0] func28 h
def Vz29:VT2:=λP c e w R=>
 Nc c<|Fo 7 c λu=>Ld u w λv=>Lk P 74 v e false w λf=>Bn P 88 false f (.pointer none) λy=>Vif y (Cl P 54 #[(I 65545)] w λg k=>Ex g 0 λC=>Ex g 1 λO=>Nc c<|Fo 0 c λD=>Fo 0 D λE=>Ld E k λF=>Cl P 55 #[F] k λm p=>Ex m 0 λG=>Ex m 1 λQ=>Bd P 88 #[(0,e),(1,C),(2,G)] p λJ=>New J 88 p λq t=>Nc c<|Fo 7 c λL=>Ld L t λM=>Mu P 74 M e q t λN=>R q N) (R f w)
theorem Tz29 (h:Vz29 prog a0 a1 w R):Cl prog 29 #[a0,a1] w R:=
 tz 43 [(.tmp 4)] (s z (s z (s (s z (i (s z (s z (s z z))) z)) (s z z)))) [a0,a1] func29 h
def Vz30:VT2:=λP c e w R=>
 VJoin 1 (λ_ p g=>Vif p (R (I 0) g) (Dr g λf=>Lns e λq=>Nc c<|Fo 0 c λt=>Ld t f λu=>Nc c<|Fo 1 c λv=>Ld v f λy=>Lns y λC=>Bp .sub u C λD=>Bmin P #[3,3] 3 #[q,D] f λk=>Dr f λm=>Nc c<|Fo 1 c λE=>Ld E m λF=>Sst e none (some k) λG=>Bp .add F G λJ=>Nc c<|Fo 1 c λL=>St L J m λM=>R k M)) (λJ22=>Bn P 128 false c (.pointer none) λN=>Vif N (KS [c,e]<|J22 (.bool true) w) (Nc c<|Fo 2 c λO=>Ld O w λQ=>Bp .neq Q (I 0) λS=>KS [c,e]<|J22 S w))
theorem Tz30 (h:Vz30 prog a0 a1 w R):Cl prog 30 #[a0,a1] w R:=
 tz 39 [(.tmp 4)] (s z (s (j [14] [0,1] z (i (s z z) z)) (s (r (.staged [0,1,0,4,12,28,0,64,192,448,960,2044,4095,8191])) (s (r (.staged [0,1,3,7,0,0,48,127,255,511,1023])) (s z z))))) [a0,a1] func30 h
def Vz31:VT2:=λP e c w R=>
 VLoop 1 [(.bool false)] w λ_ S k m=>VJoin 1 (λ_ U p=>Vif U (Nc c<|Fo 1 c λW=>Ld W p λY=>Cl P 56 #[Y] p λq Z=>Ex q 0 λa0=>Ex q 1 λa1=>Ex q 2 λy=>New (zeroP P 130) 130 Z λg a2=>StA 3 g a0 a2 λt=>Bv .neq y (I 0) (Cl P 57 #[c,(I 0),y] t λc4 a3=>Cl P 58 #[e,c] a3 λc5 a4=>R (.bool true) a4) (Up .not a1 λa5=>Vif a5 (R k t) (VJoin 1 (λ_ a6 C=>LdA 8 a6 C λa7=>Cl P 60 #[e,c,a7] C λc6 a8=>KS [e,c]<|S (.bool true) a8) (λJ18=>Dr t λf=>(Nc c<|Fo 2 c λD=>Ld D f λE=>LdA 3 g f λF=>Cl P 59 #[E,F] f λG a9=>Ex G 0 λb0=>Ex G 1 λc7=>New (zeroP P 137) 137 a9 λJ u=>Rk (λw K=>LdA 3 g w λb1=>K b1) F u<|Rk (λw K=>Ld D w λb2=>K b2) E u<|StA 8 J b0 u λb3=>KS [e,c]<|J18 J b3)/\(Nc c<|Fo 2 c λL=>Ld L f λM=>LdA 3 g f λN=>New (zeroP P 137) 137 f λO v=>Rk (λw K=>LdA 3 g w λb4=>K b4) N v<|Rk (λw K=>Ld L w λb5=>K b5) M v<|Cl P 59 #[M,N] v λQ b6=>Ex Q 0 λb7=>Ex Q 1 λc8=>StA 8 O b7 b6 λb8=>KS [e,c]<|J18 O b8))))) (R k p)) (λJ37=>Nc c<|Fo 5 c λb9=>Ld b9 m λc0=>Bv .eql c0 (I 0) (Nc c<|Fo 6 c λc1=>Ld c1 m λc2=>Up .not c2 λc3=>KS [e,c,k]<|J37 c3 m) (KS [e,c,k]<|J37 (.bool false) m))
theorem Tz31 (h:Vz31 prog a0 a1 w R):Cl prog 31 #[a0,a1] w R:=
 tz 56 [(.tmp 4)] (s z (s z (s (b (l [5] [0,1] (s (j [22] [0,1,5] z (i z z)) (b (s z (s (s z (i (s z (s z (s z z))) z)) (s (s z (i z z)) (j [9] [0,1] (r (.two [0,1,3,7,0,31,63,127,127,0,767,2047] 5 9 [0,1,2,3,4,5,6,7,8,9,10,11] [0,1,2,3,4,9,5,6,7,8,10,11])) (s z z))))))))) (s z z)))) [a0,a1] func31 h
def Vz32:VT3:=λP e f g w R=>
 Bp .mul e f λk=>Bp .sub k (I 19) λc=>Bp .mul (I 8) c λm=>Bp .add g m λp=>Bp .add p (I 12000) λq=>Bp .mul (I 3) c λt=>Bp .add q t λu=>Bp .add u (I 1024) λv=>R v w
theorem Tz32 (h:Vz32 prog a0 a1 a2 w R):Cl prog 32 #[a0,a1,a2] w R:=
 tz 21 [(.tmp 6)] (s z (s z (s z z))) [a0,a1,a2] func32 h
def Vz33:VT3:=λP c e f w R=>
 Bp .add e f λg=>Bp .mul (I 36) c λk=>Bp .add g k λm=>Bp .add m (I 40960) λp=>R p w
theorem Tz33 (h:Vz33 prog a0 a1 a2 w R):Cl prog 33 #[a0,a1,a2] w R:=
 tz 14 [(.tmp 6)] (s z (s z z)) [a0,a1,a2] func33 h
def Vz34:VT2:=λP c e w R=>
 Cl P 33 #[c,e,(I 4096)] w λf g=>Bp .add f (I 32) λk=>R k g
theorem Tz34 (h:Vz34 prog a0 a1 w R):Cl prog 34 #[a0,a1] w R:=
 tz 9 [(.tmp 4)] (s z (s z z)) [a0,a1] func34 h
def Vz35:VT2:=λP c e w R=>
 Cl P 61 #[c,e,(.func (.func 62) #[] #[])] w λf g=>R f g
theorem Tz35 (h:Vz35 prog a0 a1 w R):Cl prog 35 #[a0,a1] w R:=
 tz 8 [(.tmp 4)] (s z (s z z)) [a0,a1] func35 h
def Vz36:VT1:=λP e w R=>
 New (zeroP P 94) 94 w λc m=>Lnl e λO=>Bv .eql O (I 0) (Bd P 94 #[(0,(I (-1))),(1,(I 6))] m λQ=>StA 2 c Q m λF=>LdA 2 c F λS=>R S F) (Lnl e λU=>Bv .gtr U (I 16) (Bd P 94 #[(0,(I 16)),(1,(I 2))] m λW=>StA 2 c W m λG=>LdA 2 c G λY=>R Y G) (Lnl e λp=>VLoop 1 [(I 0)] m λ_ Z f u=>Bv .lss f p (Ias 5 e f λa0=>LdA 5 a0 u λa1=>New (zeroP P 49) 49 u λg a2=>StA 5 g a1 a2 λJ=>LdA 5 g J λa3=>Cl P 63 #[a3] J λa4 y=>Up .not a4 λa5=>Vif a5 (Bd P 94 #[(0,f),(1,(I 1))] y λa6=>StA 2 c a6 y λL=>LdA 2 c L λa7=>R a7 L) (Ssl 5 e none (some f) λq=>Lnl q λv=>VLoop 1 [(I 0)] y λ_ a8 t C=>Bv .lss t v (Ias 5 q t λa9=>LdA 5 a9 C λb0=>New (zeroP P 49) 49 C λD b1=>StA 5 D b0 b1 λk=>VJoin 1 (λ_ b2 E=>Vif b2 (Bd P 94 #[(0,f),(1,(I 8))] E λb3=>StA 2 c b3 E λM=>LdA 2 c M λb4=>R b4 M) (Bp .add t (I 1) λb5=>KS [e,c,f,g,e,p,f,q,v]<|a8 b5 E)) (λJ34=>Fo 0 D λb6=>Ld b6 k λb7=>Fo 0 g λb8=>Ld b8 k λb9=>Bp .eql b7 b9 λc0=>Vif c0 (KS [e,c,f,g,e,p,f,q,v,t]<|J34 (.bool true) k) (Fo 1 D λc1=>Ld c1 k λc2=>Fo 1 g λc3=>Ld c3 k λc4=>Bp .eql c2 c4 λc5=>KS [e,c,f,g,e,p,f,q,v,t]<|J34 c5 k))) (Bp .add f (I 1) λc6=>KS [e,c,e,p]<|Z c6 C))) (Bd P 94 #[(0,(I (-1))),(1,(I 0))] u λc7=>StA 2 c c7 u λN=>LdA 2 c N λc8=>R c8 N)))
theorem Tz36 (h:Vz36 prog a0 w R):Cl prog 36 #[a0] w R:=
 tz 52 [(.cell 2 94)] (s z (s (s z (i (s z z) z)) (s (s z (i (s z z) z)) (s (s z (b (l [17] [0,2,15,16] (s z (s (i z z) (s (b (s z (s (s z (i (s z z) z)) (s z (b (l [31] [0,2,3,4,15,16,17,29,30] (s z (s (i z z) (s (b (s z (j [46] [0,2,3,4,15,16,17,29,30,31] z (i (s z z) z)))) z))))))))) z)))))) (s z z))))) [a0] func36 h
def Vz37:VT2:=λP c e w R=>
 Bv .geq c e (Bp .leq c (I 1099511627776) λf=>R f w) (R (.bool false) w)
theorem Tz37 (h:Vz37 prog a0 a1 w R):Cl prog 37 #[a0,a1] w R:=
 tz 12 [(.tmp 4)] (s z (s z z)) [a0,a1] func37 h
def Vz38:VT2:=λP c e w R=>
 Cl P 64 #[c,e] w λf g=>Bp .geq f (I 0) λk=>R k g
theorem Tz38 (h:Vz38 prog a0 a1 w R):Cl prog 38 #[a0,a1] w R:=
 tz 9 [(.tmp 4)] (s z (s z z)) [a0,a1] func38 h
def Vz39:VT1:=λP c w R=>
 Lns c λe=>Bp .gtr e (I 65536) λf=>R f w
theorem Tz39 (h:Vz39 prog a0 w R):Cl prog 39 #[a0] w R:=
 tz 6 [(.tmp 2)] (s z (s z z)) [a0] func39 h
def Vz40:VT2:=λP m p w R=>
 New m 33 w λe f=>VJoin 1 (λ_ k c=>Fo 0 e λq=>Ld q c λg=>Bv .eql g (I 1) (Vif k (Fo 2 e λt=>Ld t c λu=>Bv .geq u (I 0) (Fo 2 e λv=>Ld v c λy=>Bp .leq y (I 65536) λC=>R C c) (R (.bool false) c)) (R (.bool false) c)) (Bp .eql g (I 2) λD=>Vif D (Fo 1 e λE=>Ld E c λF=>Bv .eql F (I 0) (Fo 2 e λG=>Ld G c λJ=>Bv .geq J (I 1) (Fo 2 e λL=>Ld L c λM=>Bp .leq M (I 65536) λN=>R N c) (R (.bool false) c)) (R (.bool false) c)) (Bp .eql g (I 3) λO=>Vif O (Vif k (Fo 2 e λQ=>Ld Q c λS=>Bp .eql S (I 0) λU=>R U c) (R (.bool false) c)) (R (.bool false) c)))) (λJ26=>Fo 1 e λW=>Ld W f λY=>Bp .geq Y (I 0) λZ=>Vif Z (Fo 1 e λa0=>Ld a0 f λa1=>Bp .lss a1 p λa2=>KS [e]<|J26 a2 f) (KS [e]<|J26 (.bool false) f))
theorem Tz40 (h:Vz40 prog a0 a1 w R):Cl prog 40 #[a0,a1] w R:=
 tz 53 [(.tmp 4)] (s z (j [5] [2] z (s (s z (b (s z (i (s z z) (s z (i (s z z) (s z (i (s z z) z)))))))) (s z z)))) [a0,a1] func40 h
def Vz43:VT1:=λP c w R=>
 Nc c<|Fo 0 c λL=>Fo 6 L λM=>Ld M w λN=>Bp .add N (I 1) λO=>Nc c<|Fo 0 c λQ=>Fo 6 Q λS=>St S O w λq=>Nc c<|Fo 8 c λU=>Fo 0 U λW=>Fo 0 W λY=>Ld Y q λk=>Lnl k λt=>VLoop 2 [(I 0),(I 0)] q λ_ Z u e m=>Bp .lss e t λa0=>Vif a0 (Ias 5 k e λa1=>LdA 5 a1 m λa2=>New (zeroP P 49) 49 m λv a3=>StA 5 v a2 a3 λy=>LdA 5 v y λa4=>Cl P 68 #[c,e,a4] y λd7 C=>Nc c<|Fo 17 c λa5=>Ld a5 C λa6=>Cl P 69 #[a6,e] C λa7 a8=>Bp .add u a7 λa9=>Bp .add e (I 1) λb0=>KS [c,k,t]<|Z a9 b0 a8) (Dr m λD=>Nc c<|Fo 0 c λb1=>Fo 4 b1 λb2=>Nc c<|Fo 8 c λb3=>Fo 0 b3 λb4=>Fo 5 b4 λb5=>Ld b5 D λb6=>Bp .gtr u b6 λb7=>Cl P 70 #[b2,b7] D λd8 E=>Nc c<|Fo 19 c λb8=>Ld b8 E λp=>Lnl p λF=>VLoop 1 [(I 0)] E λ_ b9 f g=>Bp .lss f F λc0=>Vif c0 (Ias 1 p f λc1=>Ld c1 g λc2=>Nc c<|Fo 17 c λc3=>Ld c3 g λc4=>Cl P 71 #[c4,f] g λG c5=>Dr c5 λc6=>Nc c<|Fo 0 c λc7=>Fo 5 c7 λc8=>Cl P 72 #[G,c2] c6 λc9 d0=>Up .not c9 λd1=>Cl P 70 #[c8,d1] d0 λd9 J=>Nc c<|Fo 19 c λd2=>Ld d2 J λd3=>Ias 1 d3 f λd4=>St d4 G J λd5=>Bp .add f (I 1) λd6=>KS [c,p,F]<|b9 d6 d5) (R (.tuple #[]) g))
theorem Tz43 (h:Vz43 prog a0 w R):Cl prog 43 #[a0] w R:=
 tz 88 [] (s z (s z (s (s z (b (l [2,24] [0,22,23] (s z (s (i z z) (s (b (s z (s z z))) z)))))) (s (r (.staged [0,1,3,7,0,0,32,96,224,480,992,2032,4095])) (s z (b (l [60] [0,58,59] (s z (s (i z z) (s (b (s z (s z (s (r (.staged [0,1,3,7,0,0,48,112,255])) z)))) z)))))))))) [a0] func43 h
def Vz44:VT1:=λP c w R=>
 Lnl c λu=>Bv .eql u (I 0) (R (.tuple #[(I (-1)),(I 6)]) w) (Lnl c λv=>Bv .gtr v (I 16) (R (.tuple #[(I 16),(I 2)]) w) (Lnl c λk=>VLoop 1 [(I 0)] w λ_ y e f=>Bv .lss e k (Ias 5 c e λC=>LdA 5 C f λD=>New (zeroP P 49) 49 f λg E=>StA 5 g D E λm=>LdA 5 g m λF=>Cl P 73 #[F] m λG p=>Up .not G λJ=>Vif J (R (.tuple #[e,(I 1)]) p) (Dr p λq=>Ssl 5 c none (some e) λL=>LdA 5 g q λM=>Cl P 74 #[L,M] q λN t=>Vif N (R (.tuple #[e,(I 8)]) t) (Bp .add e (I 1) λO=>KS [c,c,k]<|y O t))) (R (.tuple #[(I (-1)),(I 0)]) f)))
theorem Tz44 (h:Vz44 prog a0 w R):Cl prog 44 #[a0] w R:=
 tz 34 [(.tmp 2),(.tmp 3)] (s z (s (b (s z (i (s z z) (s z (i (s z z) z))))) (s (s z (b (l [16] [0,14,15] (s z (s (i z z) (s (b (s z (b (s z (i (s z z) (s (r (.staged [0,0,3,0,15,31])) (i (s z z) z))))))) z)))))) (s z z)))) [a0] func44 h
def Vz45:VT3:=λP c e f w R=>
 Bv .geq c e (Bp .leq c f λg=>R g w) (R (.bool false) w)
theorem Tz45 (h:Vz45 prog a0 a1 a2 w R):Cl prog 45 #[a0,a1,a2] w R:=
 tz 15 [(.tmp 6)] (s z (s z z)) [a0,a1,a2] func45 h
def Vz46:VT2:=λP c e w R=>
 Cl P 75 #[c,e] w λf g=>Bp .geq f (I 0) λk=>R k g
theorem Tz46 (h:Vz46 prog a0 a1 w R):Cl prog 46 #[a0,a1] w R:=
 tz 9 [(.tmp 4)] (s z (s z z)) [a0,a1] func46 h
def Vz47:VT1:=λP c w R=>
 Cl P 48 #[c] w λe f=>Up .not e λg=>R g f
theorem Tz47 (h:Vz47 prog a0 w R):Cl prog 47 #[a0] w R:=
 tz 6 [(.tmp 2)] (s z (s z z)) [a0] func47 h
def Vz48:VT1:=λP c w R=>
 Bv .geq c (I 0) (Bp .leq c (I 1099511627776) λe=>R e w) (R (.bool false) w)
theorem Tz48 (h:Vz48 prog a0 w R):Cl prog 48 #[a0] w R:=
 tz 9 [(.tmp 2)] (s z (s z z)) [a0] func48 h
def Vz49:VT1:=λP c w R=>
 Cl P 50 #[c] w λe f=>Up .not e λg=>R g f
theorem Tz49 (h:Vz49 prog a0 w R):Cl prog 49 #[a0] w R:=
 tz 6 [(.tmp 2)] (s z (s z z)) [a0] func49 h
def Vz50:VT1:=λP c w R=>
 Bv .geq c (I 0) (Bp .leq c (I 1099511627776) λe=>R e w) (R (.bool false) w)
theorem Tz50 (h:Vz50 prog a0 w R):Cl prog 50 #[a0] w R:=
 tz 9 [(.tmp 2)] (s z (s z z)) [a0] func50 h
def Vz51:VT1:=λP c w R=>
 Be P .eql 34 (.tmp 3) (.const (.slice none 0 0)) c (.slice none 0 0) w λe=>Vif e (R (.slice none 0 0) w) (Bs P 34 0 #[] w λf g=>Ap P #[34,34] 34 #[f,c] g λk m=>R k m)
theorem Tz51 (h:Vz51 prog a0 w R):Cl prog 51 #[a0] w R:=
 tz 8 [(.tmp 2)] (s z (s (s z (i (s z z) z)) (s z z))) [a0] func51 h
def Vz52:VT1:=λP c w R=>
 Bv .lss c (I 1) (R (.bool true) w) (Bp .gtr c (I 1099511627776) λe=>R e w)
theorem Tz52 (h:Vz52 prog a0 w R):Cl prog 52 #[a0] w R:=
 tz 9 [(.tmp 2)] (s z (s z z)) [a0] func52 h
def Vz53:VT0:=λP w R=>
 Cl P 76 #[(I 1099511627776)] w λc e=>Ex c 0 λf=>Ex c 1 λg=>R f e
theorem Tz53 (h:Vz53 prog w R):Cl prog 53 #[] w R:=
 tz 8 [(.tmp 0)] (s z (s z (s z z))) [] func53 h
def Vz54:VT1:=λP c w R=>
 VJoin 1 (λ_ f e=>Vif f (R (.tuple #[(.pointer none),(I 1)]) e) (Bd P 128 #[(0,c)] e λg=>New g 128 e λk m=>R (.tuple #[k,(I 0)]) m)) (λJ4=>Bv .lss c (I 9) (KS [c]<|J4 (.bool true) w) (Bp .gtr c (I 65545) λp=>KS [c]<|J4 p w))
theorem Tz54 (h:Vz54 prog a0 w R):Cl prog 54 #[a0] w R:=
 tz 13 [(.tmp 2),(.tmp 3)] (s z (s (j [9] [0] z (i (s z z) z)) (s z z))) [a0] func54 h
def Vz55:VT1:=λP c w R=>
 Cl P 44 #[c] w λe f=>Ex e 0 λy=>Ex e 1 λg=>Bv .neq g (I 0) (R (.tuple #[(.pointer none),g]) f) (Cl P 77 #[c] f λm p=>Mm P 156 none p λq k=>Bd P 158 #[(0,m),(1,(I (-1))),(2,q)] k λt=>New t 158 k λu v=>R (.tuple #[u,(I 0)]) v)
theorem Tz55 (h:Vz55 prog a0 w R):Cl prog 55 #[a0] w R:=
 tz 19 [(.tmp 2),(.tmp 3)] (s z (s (s z (s z (i (s z z) z))) (s z z))) [a0] func55 h
def Vz56:VT1:=λP c w R=>
 New (zeroP P 130) 130 w λe f=>Bn P 128 false c (.pointer none) λQ=>Vif Q (Bd P 130 #[] f λS=>StA 3 e S f λC=>LdA 3 e C λU=>R (.tuple #[U,(.bool false),(I 7)]) C) (Nc c<|Fo 2 c λW=>Ld W f λY=>Bv .neq Y (I 0) (Dr f λp=>Bd P 130 #[] p λZ=>Nc c<|Fo 2 c λD=>Ld D p λE=>StA 3 e Z p λq=>Rk (λw K=>Ld D w λa0=>K a0) E q<|LdA 3 e q λa1=>R (.tuple #[a1,(.bool false),E]) q) (Nc c<|Fo 1 c λa2=>Ld a2 f λa3=>Cl P 78 #[a3] f λt a4=>Ex t 0 λa5=>Ex t 1 λu=>Ex t 2 λg=>New (zeroP P 130) 130 a4 λm a6=>StA 3 m a5 a6 λF=>VJoin 1 (λ_ a7 G=>Vif a7 (Cl P 79 #[c,g] G λv a8=>Ex v 0 λa9=>Ex v 1 λb0=>Ex v 2 λb1=>StA 3 e a9 a8 λJ=>LdA 3 e J λb2=>R (.tuple #[b2,b0,b1]) J) (Cl P 80 #[c] G λb3 k=>Vif b3 (Cl P 79 #[c,(I 2)] k λy b4=>Ex y 0 λb5=>Ex y 1 λb6=>Ex y 2 λb7=>StA 3 e b5 b4 λL=>LdA 3 e L λb8=>R (.tuple #[b8,b6,b7]) L) (Bv .eql g (I 3) (Bd P 130 #[] k λb9=>StA 3 e b9 k λM=>LdA 3 e M λc0=>R (.tuple #[c0,(.bool false),(I 0)]) M) (Nc c<|Fo 1 c λc1=>Ld c1 k λc2=>Sst c2 (some u) none λc3=>Nc c<|Fo 1 c λc4=>St c4 c3 k λN=>LdA 3 m N λc5=>StA 3 e c5 N λO=>LdA 3 e O λc6=>R (.tuple #[c6,(.bool true),(I 0)]) O)))) (λJ42=>Bv .eql g (I 35) (KS [c,e,m,u,g]<|J42 (.bool true) F) (Bp .eql g (I 2) λc7=>KS [c,e,m,u,g]<|J42 c7 F))))
theorem Tz56 (h:Vz56 prog a0 w R):Cl prog 56 #[a0] w R:=
 tz 67 [(.cell 2 130),(.tmp 3),(.tmp 4)] (s z (s (b (s z (i (s z z) (s z (i (s (r (.staged [0,0,2,6,14,1,33,127])) z) z))))) (s z (s (b (j [32] [0,2,5,6,7] z (i (s z z) (s z (i (s z z) (s z (i (s z z) z))))))) (s z (s z z)))))) [a0] func56 h
def Vz57:VT3:=λP c e f w R=>
 Bd P 164 #[(0,(I 69)),(1,e),(3,f)] w λg=>Cl P 81 #[c,g] w λm k=>R (.tuple #[]) k
theorem Tz57 (h:Vz57 prog a0 a1 a2 w R):Cl prog 57 #[a0,a1,a2] w R:=
 tz 11 [] z [a0,a1,a2] func57 h
def Vz58:VT2:=λP c e w R=>
 Nc e<|Fo 6 e λq=>St q (.bool true) w λt=>Dr t λf=>Nc c<|Fo 9 c λu=>Ld u f λv=>Nc e<|Fo 0 e λy=>Ld y f λC=>Cl P 82 #[v,C] f λg D=>Lnl g λp=>VLoop 1 [(I 0)] D λ_ E k m=>Bv .lss k p (Ias 1 g k λF=>Ld F m λG=>Cl P 83 #[c,G] m λM J=>Bp .add k (I 1) λL=>KS [c,g,p]<|E L J) (R (.tuple #[]) m)
theorem Tz58 (h:Vz58 prog a0 a1 w R):Cl prog 58 #[a0,a1] w R:=
 tz 27 [] (s z (s (r (.staged [0,1,3,7,0,16,48,112,255,511,0])) (b (l [19] [0,17,18] (s z (s (i z z) (s (b (s z z)) z))))))) [a0,a1] func58 h
def Vz59:VT2:=λP f C w R=>
 New C 130 w λk D=>New (zeroP P 137) 137 D λc e=>Bn P 158 false f (.pointer none) λE=>Vif E (Bd P 137 #[] e λF=>StA 8 c F e λm=>LdA 8 c m λG=>R (.tuple #[G,(I 7)]) m) (Nc f<|Fo 1 f λJ=>Ld J e λL=>Bv .eql L (I (-1)) (LdA 3 k e λM=>Cl P 84 #[f,M] e λN O=>StA 8 c N O λp=>LdA 8 c p λQ=>R (.tuple #[Q,(I 0)]) p) (LdA 3 k e λS=>Cl P 85 #[S] e λq U=>Ex q 0 λW=>Ex q 1 λt=>New (zeroP P 169) 169 U λu Y=>StA 7 u W Y λg=>Bv .neq t (I 0) (Fo 1 k λZ=>Ld Z g λa0=>Cl P 86 #[a0,t] g λa1 a2=>StA 8 c a1 a2 λv=>LdA 8 c v λa3=>R (.tuple #[a3,(I 0)]) v) (LdA 7 u g λa4=>Cl P 87 #[f,a4] g λa5 a6=>StA 8 c a5 a6 λy=>LdA 8 c y λa7=>R (.tuple #[a7,(I 0)]) y)))
theorem Tz59 (h:Vz59 prog a0 a1 w R):Cl prog 59 #[a0,a1] w R:=
 tz 35 [(.cell 4 137),(.tmp 5)] (s z (s (b (s z (i (s z z) (s z (i (s z z) z))))) (s z (s (s z (i (s z z) z)) (s z z))))) [a0,a1] func59 h
def Vz60:VT3:=λP g e q w R=>
 New q 137 w λf c=>Fo 0 f λt=>Ld t c λm=>Bv .eql m (I 1) (Fo 1 f λu=>Ld u c λv=>Fo 7 f λy=>Ld y c λC=>Cl P 57 #[e,v,C] c λa7 D=>R (.tuple #[]) D) (Bv .eql m (I 2) (Dr c λk=>Nc g<|Fo 0 g λE=>Fo 0 E λF=>Ld F k λG=>Fo 2 f λJ=>Ld J k λL=>Ias 5 G L λM=>Fo 0 M λN=>Ld N k λO=>Bd P 164 #[(0,(I 65)),(2,O)] k λQ=>Cl P 81 #[e,Q] k λa8 S=>R (.tuple #[]) S) (Bv .eql m (I 8) (Nc e<|Fo 2 e λU=>Ld U c λW=>Cl P 89 #[W] c λY Z=>Cl P 88 #[g,Y] Z λa0 p=>Bd P 164 #[(0,(I 70)),(2,a0)] p λa1=>Cl P 81 #[e,a1] p λa9 a2=>R (.tuple #[]) a2) (Bv .eql m (I 3) (LdA 8 f c λa3=>Cl P 90 #[g,e,a3] c λb0 a4=>R (.tuple #[]) a4) (LdA 8 f c λa5=>Cl P 91 #[g,e,a5] c λb1 a6=>R (.tuple #[]) a6))))
theorem Tz60 (h:Vz60 prog a0 a1 a2 w R):Cl prog 60 #[a0,a1,a2] w R:=
 tz 53 [] (s z (s z (b (s z (i z (s z (i (r (.staged [0,0,2,6,14,30,0,64,254,510,1022,2046,4095])) (s z (i z (s z (i z z))))))))))) [a0,a1,a2] func60 h
def Vz61:VT3:=λP f g k w R=>
 Cl P 92 #[f,g] w λc e=>Bn P 111 false c (.pointer none) λm=>Vif m (R (I 0) e) (Nc c<|LdA 3 c e λp=>Inv P (do let d <-Deferred.ofValue k #[p];invoke d.target d.args) e λq t=>R q t)
theorem Tz61 (h:Vz61 prog a0 a1 a2 w R):Cl prog 61 #[a0,a1,a2] w R:=
 tz 18 [(.tmp 6)] (s z (s z (s (s z (i (s z z) z)) (s z z)))) [a0,a1,a2] func61 h
def Vz62:VT1:=λP e w R=>
 New e 111 w λf c=>Fo 1 f λg=>Ld g c λk=>R k c
theorem Tz62 (h:Vz62 prog a0 w R):Cl prog 62 #[a0] w R:=
 tz 5 [(.tmp 2)] (s z (s z z)) [a0] func62 h
def Vz63:VT1:=λP p w R=>
 New p 49 w λc m=>Fo 0 c λq=>Ld q m λt=>Cl P 93 #[t] m λu e=>Vif u (Fo 1 c λv=>Ld v e λy=>Cl P 93 #[y] e λC f=>Vif C (Fo 2 c λD=>Ld D f λE=>Cl P 37 #[E,(I 0)] f λF g=>Vif F (Fo 3 c λG=>Ld G g λJ=>Cl P 37 #[J,(I 1)] g λL k=>Vif L (Fo 4 c λM=>Ld M k λN=>Cl P 37 #[N,(I 1)] k λO Q=>R O Q) (R (.bool false) k)) (R (.bool false) g)) (R (.bool false) f)) (R (.bool false) e)
theorem Tz63 (h:Vz63 prog a0 w R):Cl prog 63 #[a0] w R:=
 tz 26 [(.tmp 2)] (s z (s z z)) [a0] func63 h
def Vz64:VT2:=λP e g w R=>
 Lnl e λk=>VLoop 1 [(I 0)] w λ_ p c f=>Bv .lss c k (Ias 1 e c λq=>Ld q f λt=>Inv P (do let d <-Deferred.ofValue g #[t];invoke d.target d.args) f λu m=>Vif u (R c m) (Bp .add c (I 1) λv=>KS [e,g,k]<|p v m)) (R (I (-1)) f)
theorem Tz64 (h:Vz64 prog a0 a1 w R):Cl prog 64 #[a0,a1] w R:=
 tz 19 [(.tmp 4)] (s z (s (s z (b (l [8] [0,1,7] (s z (s (i z z) (s (b (s z (s z (i (s z z) z)))) z)))))) (s z z))) [a0,a1] func64 h
def Vz67:VT2:=λP c e w R=>
 Bn P 77 false c (.pointer none) λf=>Vif f (R (I 0) w) (Nc c<|Fo 11 c λg=>Ld g w λk=>Cl P 104 #[k,e] w λm p=>R m p)
theorem Tz67 (h:Vz67 prog a0 a1 w R):Cl prog 67 #[a0,a1] w R:=
 tz 13 [(.tmp 4)] (s z (s (s z (i (s z z) z)) (s z z))) [a0,a1] func67 h
def Vz68:VT3:=λP c e S w R=>
 New S 49 w λg U=>Dr U λt=>Nc c<|Fo 17 c λW=>Ld W t λY=>Cl P 11 #[Y,e] t λf C=>Nc c<|Fo 17 c λD=>Ld D C λE=>Rk (λw K=>Ld D w λZ=>K Z) E t<|Cl P 105 #[E,e] C λk a0=>Dr a0 λq=>Nc c<|Fo 17 c λa1=>Ld a1 q λa2=>Cl P 67 #[a2,e] q λa3 u=>Nc c<|Fo 20 c λF=>Ld F u λG=>Rk (λw K=>Ld F w λa4=>K a4) G q<|Ias 1 G e λJ=>Ld J u λL=>Rk (λw K=>Ld J w λa5=>K a5) L q<|Bp .sub a3 L λm=>VJoin 0 (λ_ a6=>Dr a6 λM=>Nc c<|Fo 0 c λa7=>Fo 1 a7 λa8=>Nc c<|Fo 17 c λa9=>Ld a9 M λb0=>Cl P 106 #[b0,e] M λb1 b2=>Bp .gtr b1 f λb3=>Cl P 70 #[a8,b3] b2 λe8 b4=>VJoin 0 (λ_ b5=>Dr b5 λN=>Nc c<|Fo 0 c λb6=>Fo 3 b6 λb7=>Bp .add k m λb8=>Fo 3 g λb9=>Ld b9 N λc0=>Bp .neq b8 c0 λc1=>Cl P 70 #[b7,c1] N λe9 c2=>Dr c2 λp=>Nc c<|Fo 0 c λc3=>Fo 7 c3 λc4=>Ld c4 p λc5=>Nc c<|Fo 0 c λc6=>Fo 7 c6 λc7=>Ld c7 p λc8=>Ias 1 c8 e λc9=>Ld c9 p λd0=>Bmax P #[3,3] 3 #[d0,f] p λd1=>Ias 1 c5 e λd2=>St d2 d1 p λd3=>R (.tuple #[]) d3) (λJ54=>Dr b4 λv=>Nc c<|Fo 0 c λd4=>Fo 2 d4 λO=>Bp .lss k (I 0) λd5=>Vif d5 (Cl P 70 #[O,(.bool true)] v λf0 d6=>KS [c,e,g,f,k,m]<|J54 d6) (Fo 3 g λd7=>Ld d7 v λd8=>Bp .gtr k d8 λd9=>Cl P 70 #[O,d9] v λf1 e0=>KS [c,e,g,f,k,m]<|J54 e0))) (λJ64=>Dr u λy=>Nc c<|Fo 0 c λe1=>Fo 0 e1 λQ=>Bp .lss f (I 0) λe2=>Vif e2 (Cl P 70 #[Q,(.bool true)] y λf2 e3=>KS [c,e,g,f,k,m]<|J64 e3) (Fo 2 g λe4=>Ld e4 y λe5=>Bp .gtr f e5 λe6=>Cl P 70 #[Q,e6] y λf3 e7=>KS [c,e,g,f,k,m]<|J64 e7))
theorem Tz68 (h:Vz68 prog a0 a1 a2 w R):Cl prog 68 #[a0,a1,a2] w R:=
 tz 102 [] (s z (s (r (.staged [0,1,3,7,0,31,0,64,192,448,0,2047,4095,8191])) (s (r (.staged [0,1,3,7,0,31,0,64,192,448,0,1984,4032,8191,16383])) (j [] [0,1,5,6,7,8] (r (.staged [0,1,3,7,0,16,48,112,112,368,1008,2032,4095])) (s (r (.staged [0,1,3,7,0,16,48,112,0,496,0,2032,4095])) (j [] [0,1,5,6,7,8] (r (.staged [0,1,3,7,0,16,48,112,112,368,1008,2032,4095])) (s (r (.staged [0,1,3,7,0,0,48,0,128,496,1023])) (r (.staged [0,1,3,7,15,0,0,64,192,448,960,0,4032,8128,0,32704,65535,131071]))))))))) [a0,a1,a2] func68 h
def Vz69:VT2:=λP c e w R=>
 Bn P 77 false c (.pointer none) λf=>Vif f (R (I 0) w) (Nc c<|Fo 9 c λg=>Ld g w λk=>Cl P 107 #[k,e] w λm p=>Lnl m λq=>R q p)
theorem Tz69 (h:Vz69 prog a0 a1 w R):Cl prog 69 #[a0,a1] w R:=
 tz 14 [(.tmp 4)] (s z (s (s z (i (s z z) z)) (s z z))) [a0,a1] func69 h
def Vz70:VT2:=λP c e w R=>
 Vif e (Nc c<|Ld c w λf=>Bp .add f (I 1) λg=>Nc c<|St c g w λk=>R (.tuple #[]) k) (R (.tuple #[]) w)
theorem Tz70 (h:Vz70 prog a0 a1 w R):Cl prog 70 #[a0,a1] w R:=
 tz 10 [] (s z (i z z)) [a0,a1] func70 h
def Vz71:VT2:=λP f g w R=>
 Cl P 108 #[f,g] w λc e=>Bn P 88 false c (.pointer none) λk=>Vif k (R (.string ⟨#[]⟩) e) (Nc c<|Fo 3 c λm=>Cl P 109 #[m] e λp q=>R p q)
theorem Tz71 (h:Vz71 prog a0 a1 w R):Cl prog 71 #[a0,a1] w R:=
 tz 15 [(.tmp 4)] (s z (s z (s (s z (i (s z z) z)) (s z z)))) [a0,a1] func71 h
def Vz72:VT2:=λP c e w R=>
 Cl P 110 #[c,e] w λf g=>R f g
theorem Tz72 (h:Vz72 prog a0 a1 w R):Cl prog 72 #[a0,a1] w R:=
 tz 8 [(.tmp 4)] (s z (s z z)) [a0,a1] func72 h
def Vz73:VT1:=λP p w R=>
 New p 49 w λc m=>Fo 0 c λq=>Ld q m λt=>Cl P 111 #[t] m λu e=>Vif u (Fo 1 c λv=>Ld v e λy=>Cl P 111 #[y] e λC f=>Vif C (Fo 2 c λD=>Ld D f λE=>Cl P 45 #[E,(I 0),(I 1099511627776)] f λF g=>Vif F (Fo 3 c λG=>Ld G g λJ=>Cl P 45 #[J,(I 1),(I 1099511627776)] g λL k=>Vif L (Fo 4 c λM=>Ld M k λN=>Cl P 45 #[N,(I 1),(I 1099511627776)] k λO Q=>R O Q) (R (.bool false) k)) (R (.bool false) g)) (R (.bool false) f)) (R (.bool false) e)
theorem Tz73 (h:Vz73 prog a0 w R):Cl prog 73 #[a0] w R:=
 tz 26 [(.tmp 2)] (s z (s z z)) [a0] func73 h
def Vz74:VT2:=λP e t w R=>
 New t 49 w λf u=>Lnl e λk=>VLoop 1 [(I 0)] u λ_ v g m=>Bv .lss g k (Ias 5 e g λy=>LdA 5 y m λC=>New (zeroP P 49) 49 m λp D=>StA 5 p C D λc=>VJoin 1 (λ_ E q=>Vif E (R (.bool true) q) (Bp .add g (I 1) λF=>KS [f,e,k]<|v F q)) (λJ11=>Fo 0 p λG=>Ld G c λJ=>Fo 0 f λL=>Ld L c λM=>Bp .eql J M λN=>Vif N (KS [f,e,k,g]<|J11 (.bool true) c) (Fo 1 p λO=>Ld O c λQ=>Fo 1 f λS=>Ld S c λU=>Bp .eql Q U λW=>KS [f,e,k,g]<|J11 W c))) (R (.bool false) m)
theorem Tz74 (h:Vz74 prog a0 a1 w R):Cl prog 74 #[a0,a1] w R:=
 tz 26 [(.tmp 4)] (s z (s (s z (b (l [9] [3,7,8] (s z (s (i z z) (s (b (s z (j [24] [3,7,8,9] z (i (s z z) z)))) z)))))) (s z z))) [a0,a1] func74 h
def Vz75:VT2:=λP e g w R=>
 Lnl e λk=>VLoop 1 [(I 0)] w λ_ p c f=>Bv .lss c k (Ias 1 e c λq=>Ld q f λt=>Inv P (do let d <-Deferred.ofValue g #[t];invoke d.target d.args) f λu m=>Vif u (R c m) (Bp .add c (I 1) λv=>KS [e,g,k]<|p v m)) (R (I (-1)) f)
theorem Tz75 (h:Vz75 prog a0 a1 w R):Cl prog 75 #[a0,a1] w R:=
 tz 19 [(.tmp 4)] (s z (s (s z (b (l [8] [0,1,7] (s z (s (i z z) (s (b (s z (s z (i (s z z) z)))) z)))))) (s z z))) [a0,a1] func75 h
def Vz76:VT1:=λP c w R=>
 VJoin 1 (λ_ f e=>Vif f (R (.tuple #[(.pointer none),(I 1)]) e) (Bd P 195 #[(0,c)] e λg=>New g 195 e λk m=>R (.tuple #[k,(I 0)]) m)) (λJ4=>Bv .lss c (I 1) (KS [c]<|J4 (.bool true) w) (Bp .gtr c (I 1099511627776) λp=>KS [c]<|J4 p w))
theorem Tz76 (h:Vz76 prog a0 w R):Cl prog 76 #[a0] w R:=
 tz 13 [(.tmp 2),(.tmp 3)] (s z (s (j [9] [0] z (i (s z z) z)) (s z z))) [a0] func76 h
def Vz77:VT1:=λP c w R=>
 Be P .eql 22 (.tmp 3) (.const (.slice none 0 0)) c (.slice none 0 0) w λe=>Vif e (R (.slice none 0 0) w) (Bs P 22 0 #[] w λf g=>Ap P #[22,22] 22 #[f,c] g λk m=>R k m)
theorem Tz77 (h:Vz77 prog a0 w R):Cl prog 77 #[a0] w R:=
 tz 8 [(.tmp 2)] (s z (s (s z (i (s z z) z)) (s z z))) [a0] func77 h
def Vz78:VT1:=λP e w R=>
 New (zeroP P 130) 130 w λc m=>Bv .eql e (.string ⟨#[]⟩) (Bd P 130 #[] m λF=>StA 3 c F m λq=>LdA 3 c q λG=>R (.tuple #[G,(I 0),(I 3)]) q) (Ixs e (I 0) λJ=>Ci .i64 J λL=>Bd P 130 #[(0,L)] m λM=>New (zeroP P 130) 130 m λf N=>StA 3 f M N λt=>LdA 3 f t λO=>Cl P 112 #[O] t λQ g=>Up .not Q λS=>Vif S (Bd P 130 #[] g λU=>StA 3 c U g λu=>LdA 3 c u λW=>R (.tuple #[W,(I 0),(I 35)]) u) (Lns e λY=>Bv .lss Y (I 9) (Bd P 130 #[] g λZ=>StA 3 c Z g λv=>LdA 3 c v λa0=>R (.tuple #[a0,(I 0),(I 3)]) v) (Sst e (some (I 1)) none λa1=>Cl P 113 #[a1] g λa2 a3=>Fo 1 f λa4=>St a4 a2 a3 λa5=>Sst e (some (I 5)) none λa6=>Cl P 113 #[a6] a5 λp k=>Bv .gtr p (I 65536) (Bd P 130 #[] k λa7=>StA 3 c a7 k λy=>LdA 3 c y λa8=>R (.tuple #[a8,(I 0),(I 2)]) y) (Lns e λa9=>Bp .sub a9 (I 9) λb0=>Bp .lss b0 p λb1=>Vif b1 (Bd P 130 #[] k λb2=>StA 3 c b2 k λC=>LdA 3 c C λb3=>R (.tuple #[b3,(I 0),(I 3)]) C) (Bp .add (I 9) p λb4=>Sst e (some (I 9)) (some b4) λb5=>Fo 2 f λb6=>St b6 b5 k λD=>LdA 3 f D λb7=>Bp .add (I 9) p λb8=>StA 3 c b7 D λE=>LdA 3 c E λb9=>R (.tuple #[b9,b8,(I 0)]) E)))))
theorem Tz78 (h:Vz78 prog a0 w R):Cl prog 78 #[a0] w R:=
 tz 48 [(.cell 2 130),(.tmp 3),(.tmp 4)] (s z (s (s z (i (s z z) z)) (s z (s (s z (i (s z z) z)) (s (s z (i (s z z) z)) (s z (s z (s (b (s z (i (s z z) (s z (i (s z z) z))))) (s z (s z z)))))))))) [a0] func78 h
def Vz79:VT2:=λP c e w R=>
 New (zeroP P 130) 130 w λf m=>Nc c<|Fo 2 c λp=>St p e m λq=>Nc c<|Fo 1 c λt=>St t (.string ⟨#[]⟩) q λg=>Bd P 130 #[] g λu=>StA 3 f u g λk=>LdA 3 f k λv=>R (.tuple #[v,(.bool false),e]) k
theorem Tz79 (h:Vz79 prog a0 a1 w R):Cl prog 79 #[a0,a1] w R:=
 tz 16 [(.cell 4 130),(.tmp 5),(.tmp 6)] (s z (s z (s z (s z z)))) [a0,a1] func79 h
def Vz80:VT1:=λP c w R=>
 Nc c<|Fo 1 c λg=>Ld g w λk=>Lns k λm=>Bv .lss m (I 9) (R (.bool false) w) (Nc c<|Fo 1 c λp=>Ld p w λq=>Sst q (some (I 5)) (some (I 9)) λt=>Cl P 114 #[t] w λe f=>Ex e 0 λu=>Ex e 1 λE=>Bp .add (I 9) u λv=>Nc c<|Fo 0 c λy=>Ld y f λC=>Bp .gtr v C λD=>R D f)
theorem Tz80 (h:Vz80 prog a0 w R):Cl prog 80 #[a0] w R:=
 tz 27 [(.tmp 2)] (s z (s (s z (i (s z z) z)) (s z (s z z)))) [a0] func80 h
def Vz81:VT2:=λP c p w R=>
 New p 164 w λq e=>LdA 4 q e λt=>Cl P 115 #[t] e λf u=>Ex f 0 λv=>Ex f 1 λJ=>New (zeroP P 130) 130 u λg y=>StA 3 g v y λk=>LdA 3 g k λC=>Cl P 116 #[C] k λm D=>Ex m 0 λE=>Ex m 1 λL=>Nc c<|Fo 3 c λF=>Cl P 117 #[F,E] D λM G=>R (.tuple #[]) G
theorem Tz81 (h:Vz81 prog a0 a1 w R):Cl prog 81 #[a0,a1] w R:=
 tz 23 [] (s z (s z (s z z))) [a0,a1] func81 h
def Vz82:VT2:=λP e f w R=>
 New f 3 w λg c=>Mf P (.func 119) #[] #[g] c λk=>Cl P 118 #[e,k] c λm p=>R m p
theorem Tz82 (h:Vz82 prog a0 a1 w R):Cl prog 82 #[a0,a1] w R:=
 tz 8 [(.tmp 4)] (s z (s z z)) [a0,a1] func82 h
def Vz83:VT2:=λP c f w R=>
 Nc c<|Fo 9 c λu=>Ld u w λv=>Cl P 120 #[v,f] w λp y=>Ex p 0 λC=>Ex p 1 λa6=>New (zeroP P 182) 182 y λg D=>StA 4 g C D λq=>Nc c<|Fo 12 c λE=>Ld E q λF=>Cl P 121 #[F,f] q λa7 G=>Dr G λk=>Nc c<|Fo 10 c λJ=>Ld J k λL=>Fo 2 g λM=>Ld M k λN=>Fo 3 g λO=>Ld O k λQ=>Cl P 122 #[L,N,Q] k λa8 t=>Nc c<|Fo 8 c λS=>Ld S t λU=>Bdel P #[75,3] 0 #[U,f] t λ_ W=>Dr W λe=>Nc c<|Fo 7 c λY=>Ld Y e λZ=>Fo 0 g λa0=>Ld a0 e λa1=>Lk P 74 Z a1 false e λm=>Nc m<|Fo 5 m λa2=>Ld a2 e λa3=>Bv .eql a3 f (Nc m<|Fo 5 m λa4=>St a4 (I 0) e λa5=>R (.tuple #[]) a5) (R (.tuple #[]) e)
theorem Tz83 (h:Vz83 prog a0 a1 w R):Cl prog 83 #[a0,a1] w R:=
 tz 52 [] (s z (s z (s (r (.staged [0,1,3,7,0,16,0,64,255])) (s z (s (r (.staged [0,1,3,7,0,16,63,127])) (s z (i z z))))))) [a0,a1] func83 h
def Vz84:VT2:=λP e J w R=>
 New J 130 w λf L=>New (zeroP P 137) 137 L λc t=>LdA 3 f t λM=>Cl P 85 #[M] t λu N=>Ex u 0 λO=>Ex u 1 λQ=>New (zeroP P 169) 169 N λg S=>StA 7 g O S λk=>VJoin 1 (λ_ U m=>Vif U (Fo 1 f λW=>Ld W m λY=>Cl P 86 #[Y,(I 30)] m λZ a0=>StA 8 c Z a0 λv=>LdA 8 c v λa1=>R a1 v) (Dr m λp=>Nc e<|Fo 0 e λa2=>Ld a2 p λa3=>Fo 2 g λa4=>Ld a4 p λa5=>Cl P 123 #[a3,a5] p λy q=>Ex y 0 λC=>Ex y 1 λD=>Bv .neq D (I 0) (Fo 1 f λa6=>Ld a6 q λa7=>Cl P 86 #[a7,D] q λa8 a9=>StA 8 c a8 a9 λE=>LdA 8 c E λb0=>R b0 E) (Nc e<|Fo 1 e λb1=>St b1 C q λF=>Bd P 137 #[(0,(I 2)),(2,C)] F λb2=>StA 8 c b2 F λG=>LdA 8 c G λb3=>R b3 G))) (λJ30=>Bv .neq Q (I 0) (KS [e,f,c,g]<|J30 (.bool true) k) (Fo 0 g λb4=>Ld b4 k λb5=>Bp .neq b5 (I 1) λb6=>KS [e,f,c,g]<|J30 b6 k))
theorem Tz84 (h:Vz84 prog a0 a1 w R):Cl prog 84 #[a0,a1] w R:=
 tz 45 [(.cell 4 137)] (s z (s z (s (j [19] [0,3,4,5] z (i (s z z) z)) (s (r (.staged [0,1,3,7,0,16,63,127,255,255,511,2047])) (s (s z (i (s z z) z)) (s z (s z z))))))) [a0,a1] func84 h
def Vz85:VT1:=λP M w R=>
 New M 130 w λf N=>New (zeroP P 169) 169 N λe t=>Fo 0 f λO=>Ld O t λQ=>Fo 1 f λS=>Ld S t λU=>Bd P 169 #[(0,Q),(1,U)] t λW=>New (zeroP P 169) 169 t λc Y=>StA 7 c W Y λv=>LdA 3 f v λZ=>Cl P 124 #[Z] v λp k=>VJoin 1 (λ_ a0 u=>Up .not a0 λa1=>Vif a1 (Bd P 169 #[] u λa2=>StA 7 e a2 u λy=>LdA 7 e y λa3=>R (.tuple #[a3,(I 35)]) y) (LdA 7 c u λa4=>StA 7 e a4 u λC=>LdA 7 e C λa5=>R (.tuple #[a5,(I 0)]) C)) (λJ17=>Fo 0 f λa6=>Ld a6 k λm=>Bv .eql m (I 1) (Fo 2 f λa7=>Ld a7 k λa8=>Fo 2 c λa9=>St a9 a8 k λq=>Vif p (Fo 1 f λb0=>Ld b0 q λb1=>Bv .eql b1 (I 0) (Fo 2 f λb2=>Ld b2 q λb3=>Cl P 111 #[b3] q λb4 b5=>KS [e,c]<|J17 b4 b5) (KS [e,c]<|J17 (.bool false) q)) (KS [e,c]<|J17 (.bool false) q)) (Bv .eql m (I 2) (Fo 2 f λb6=>Ld b6 k λb7=>Cl P 125 #[b7] k λD b8=>Ex D 0 λE=>Ex D 1 λb9=>Fo 4 c λc0=>St c0 E b8 λc1=>Fo 5 c λc2=>St c2 b9 c1 λF=>Vif p (Bp .neq E (I 0) λc3=>KS [e,c]<|J17 c3 F) (KS [e,c]<|J17 (.bool false) F)) (Bp .eql m (I 3) λc4=>Vif c4 (Fo 2 f λc5=>Ld c5 k λc6=>Fo 3 c λc7=>St c7 c6 k λc8=>KS [e,c]<|J17 p c8) (VJoin 1 (λ_ c9 g=>Vif c9 (Vif p (Fo 2 f λd0=>Ld d0 g λd1=>Bp .eql d1 (.string ⟨#[]⟩) λd2=>KS [e,c]<|J17 d2 g) (KS [e,c]<|J17 (.bool false) g)) (Bp .eql m (I 6) λd3=>Vif d3 (Fo 2 f λd4=>Ld d4 g λd5=>Cl P 114 #[d5] g λG d6=>Ex G 0 λd7=>Ex G 1 λd8=>Fo 6 c λd9=>St d9 d7 d6 λJ=>Vif p (Bp .eql d8 (I 0) λe0=>KS [e,c]<|J17 e0 J) (KS [e,c]<|J17 (.bool false) J)) (Bp .eql m (I 7) λe1=>Vif e1 (Vif p (Fo 1 f λe2=>Ld e2 g λe3=>Bv .eql e3 (I 0) (Fo 2 f λe4=>Ld e4 g λe5=>Bp .eql e5 (.string ⟨#[]⟩) λe6=>KS [e,c]<|J17 e6 g) (KS [e,c]<|J17 (.bool false) g)) (KS [e,c]<|J17 (.bool false) g)) (KS [e,c]<|J17 (.bool false) g)))) (λJ62=>Bp .eql m (I 4) λL=>Vif L (KS [f,e,c,p,m]<|J62 L k) (Bp .eql m (I 5) λe7=>KS [f,e,c,p,m]<|J62 e7 k))))))
theorem Tz85 (h:Vz85 prog a0 w R):Cl prog 85 #[a0] w R:=
 tz 98 [(.cell 2 169),(.tmp 3)] (s z (s z (s z (j [5] [2,4] (s z (b (s z (i (s z z) (s z (i (s z (s z (s z z))) (s z (i z (j [57] [1,2,4,5,18] (s z (i z z)) (i z (s z (i (s z (s z z)) (s z (i z z)))))))))))))) (s (s z (i (s z z) z)) (s z z)))))) [a0] func85 h
def Vz86:VT2:=λP g k w R=>
 New (zeroP P 137) 137 w λc e=>Bd P 137 #[(0,(I 1)),(1,g),(7,k)] e λm=>StA 8 c m e λf=>LdA 8 c f λp=>R p f
theorem Tz86 (h:Vz86 prog a0 a1 w R):Cl prog 86 #[a0,a1] w R:=
 tz 8 [(.cell 4 137)] (s z (s z z)) [a0,a1] func86 h
def Vz87:VT2:=λP k C w R=>
 New C 169 w λe D=>New (zeroP P 137) 137 D λc f=>Fo 0 e λE=>Ld E f λF=>Bv .eql F (I 1) (Fo 1 e λG=>Ld G f λJ=>Cl P 86 #[J,(I 8)] f λL M=>StA 8 c L M λp=>LdA 8 c p λN=>R N p) (Fo 0 e λO=>Ld O f λQ=>Bv .eql Q (I 2) (LdA 7 e f λS=>Cl P 126 #[k,S] f λU W=>StA 8 c U W λq=>LdA 8 c q λY=>R Y q) (Fo 0 e λZ=>Ld Z f λa0=>Bv .eql a0 (I 7) (Bd P 137 #[(0,(I 8))] f λa1=>StA 8 c a1 f λt=>LdA 8 c t λa2=>R a2 t) (Dr f λg=>Nc k<|Fo 2 k λa3=>Ld a3 g λa4=>Fo 1 e λa5=>Ld a5 g λa6=>Lk P 156 a4 a6 false g λa7=>Bv .eql a7 (I 0) (Fo 1 e λa8=>Ld a8 g λa9=>Cl P 86 #[a9,(I 31)] g λb0 b1=>StA 8 c b0 b1 λu=>LdA 8 c u λb2=>R b2 u) (LdA 7 e g λb3=>Cl P 127 #[k,b3] g λb4 m=>Vif b4 (Fo 1 e λb5=>Ld b5 m λb6=>Cl P 86 #[b6,(I 32)] m λb7 b8=>StA 8 c b7 b8 λv=>LdA 8 c v λb9=>R b9 v) (LdA 7 e m λc0=>Cl P 128 #[k,c0] m λc1 c2=>StA 8 c c1 c2 λy=>LdA 8 c y λc3=>R c3 y)))))
theorem Tz87 (h:Vz87 prog a0 a1 w R):Cl prog 87 #[a0,a1] w R:=
 tz 46 [(.cell 4 137)] (s z (s (b (s z (i (s z z) (s z (i (s z z) (s z (i (s z z) (s (r (.staged [0,1,3,7,0,16,63,127,255])) (i (s z z) (s z (i (s z z) z))))))))))) (s z z))) [a0,a1] func87 h
def Vz88:VT2:=λP c p w R=>
 Dr w λe=>Nc c<|Fo 11 c λM=>Ld M e λN=>Cl P 103 #[N] e λO f=>Nc c<|Fo 9 c λG=>Ld G f λJ=>Rk (λw K=>Ld G w λQ=>K Q) J e<|Cl P 107 #[J,p] f λq t=>Lnl q λu=>Nc c<|Fo 10 c λD=>Ld D t λE=>Rk (λw K=>Ld D w λS=>K S) E f<|Rk (λw K=>Ld D w λU=>K U) E e<|Cl P 35 #[E,p] t λW v=>Rk (λw K=>Lnl q λg=>K g) u v<|Nc c<|Fo 10 c λy=>Ld y v λC=>Rk (λw K=>Ld y w λY=>K Y) C t<|Rk (λw K=>Ld y w λZ=>K Z) C f<|Rk (λw K=>Ld y w λa0=>K a0) C e<|Cl P 130 #[C,p] v λa1 F=>Rk (λw K=>Lnl q λg=>K g) u F<|Nc c<|Fo 11 c λk=>Ld k F λm=>Rk (λw K=>Ld k w λa2=>K a2) m v<|Rk (λw K=>Ld k w λa3=>K a3) m t<|Rk (λw K=>Ld k w λa4=>K a4) m f<|Rk (λw K=>Ld k w λa5=>K a5) m e<|Cl P 131 #[m,p] F λa6 L=>Rk (λw K=>Lnl q λg=>K g) u L<|Bs P 34 5 #[(0,O),(1,u),(2,W),(3,a1),(4,a6)] L λa7 a8=>Cl P 129 #[a7] a8 λa9 b0=>R a9 b0
theorem Tz88 (h:Vz88 prog a0 a1 w R):Cl prog 88 #[a0,a1] w R:=
 tz 37 [(.tmp 4)] (s z (s (r (.staged [0,1,3,7,15,0,32,96,224,0,1023,2047,0,4096,12288,28672,0,129023,0,262144,786432,1835008,0,8386559,0,16777216,50331648,117440512,0,536868863,1073741823,2147483647,4294967295])) z)) [a0,a1] func88 h
def Vz89:VT1:=λP c w R=>
 Bn P 158 false c (.pointer none) λe=>Vif e (R (I (-1)) w) (Nc c<|Fo 1 c λf=>Ld f w λg=>R g w)
theorem Tz89 (h:Vz89 prog a0 w R):Cl prog 89 #[a0] w R:=
 tz 9 [(.tmp 2)] (s z (s (s z (i (s z z) z)) (s z z))) [a0] func89 h
def Vz90:VT3:=λP c f N w R=>
 New N 137 w λe u=>Nc f<|Fo 2 f λO=>Ld O u λQ=>Cl P 89 #[Q] u λv S=>Dr S λg=>Fo 3 e λU=>Ld U g λW=>Fo 4 e λY=>Ld Y g λZ=>Nc c<|Fo 0 c λa0=>Fo 1 a0 λa1=>Ld a1 g λa2=>Nc c<|Fo 0 c λa3=>Fo 2 a3 λa4=>Ld a4 g λa5=>Cl P 132 #[W,Z,a2,a5] g λy a6=>Ex y 0 λC=>Ex y 1 λe1=>Cl P 133 #[c,v,C] a6 λD p=>Bv .neq D (I 0) (Fo 1 e λa7=>Ld a7 p λa8=>Cl P 57 #[f,a8,D] p λe2 a9=>R (.tuple #[]) a9) (Dr p λk=>Fo 3 e λb0=>Ld b0 k λb1=>Fo 4 e λb2=>Ld b2 k λb3=>Nc c<|Fo 0 c λb4=>Fo 1 b4 λb5=>Ld b5 k λb6=>Nc c<|Fo 0 c λb7=>Fo 2 b7 λb8=>Ld b8 k λb9=>Cl P 134 #[b1,b3,b6,b9] k λE c0=>Ex E 0 λq=>Ex E 1 λe3=>Cl P 135 #[q] c0 λF G=>Ex F 0 λc1=>Ex F 1 λe4=>Nc c<|Fo 0 c λc2=>Fo 6 c2 λc3=>Ld c3 G λc4=>Cl P 136 #[q,c4] G λJ c5=>Ex J 0 λc6=>Ex J 1 λe5=>Dr c5 λm=>Nc c<|Fo 9 c λc7=>Ld c7 m λc8=>Nc f<|Fo 0 f λc9=>Ld c9 m λd0=>Fo 1 e λd1=>Ld d1 m λd2=>Bd P 182 #[(0,d0),(1,d2),(2,v),(3,C)] m λd3=>Cl P 137 #[c8,d3] m λL t=>Ex L 0 λM=>Ex L 1 λe6=>Nc c<|Fo 8 c λd4=>Ld d4 t λd5=>Bd P 190 #[(0,q),(1,c1),(2,c6)] t λd6=>New d6 190 t λd7 d8=>Mu P 75 d5 M d7 d8 λd9=>Cl P 101 #[c,M] d9 λe7 e0=>R (.tuple #[]) e0)
theorem Tz90 (h:Vz90 prog a0 a1 a2 w R):Cl prog 90 #[a0,a1,a2] w R:=
 tz 115 [] (s z (s z (s (r (.staged [0,1,0,4,0,16,48,112,240,0,512,1536,3584,7680,16383,32767,65535,65535,131071,524287])) (s (s z (s z (i (s z z) z))) (s (r (.staged [0,1,0,4,0,16,48,112,240,0,512,1536,3584,7680,16383,32767,65535,65535,131071,524287])) (s z (s z (s (r (.staged [0,1,3,7,0,16,48,112,0,256,0,0,4080,8191,16383,32767,32767,65535,262143])) (s z z))))))))) [a0,a1,a2] func90 h
def Vz91:VT3:=λP e u y w R=>
 New y 137 w λk C=>Dr C λm=>Nc e<|Fo 9 e λD=>Ld D m λE=>Nc u<|Fo 0 u λF=>Ld F m λG=>Fo 1 k λJ=>Ld J m λL=>Cl P 138 #[E,G,L] m λv c=>Ex v 0 λg=>Ex v 1 λM=>Bv .neq M (I 0) (R (.tuple #[]) c) (Nc e<|Fo 8 e λN=>Ld N c λO=>Lk P 75 O g false c λf=>Fo 0 k λQ=>Ld Q c λp=>Bv .eql p (I 4) (Dr c λq=>Nc f<|Fo 1 f λS=>Ld S q λU=>Fo 6 k λW=>Ld W q λY=>Cl P 139 #[U,Y] q λb2 Z=>Cl P 101 #[e,g] Z λb3 a0=>R (.tuple #[]) a0) (Bv .eql p (I 5) (Nc f<|Fo 1 f λa1=>Ld a1 c λa2=>Cl P 140 #[a2] c λb4 a3=>Cl P 101 #[e,g] a3 λb5 a4=>R (.tuple #[]) a4) (Bv .eql p (I 7) (Dr c λt=>Nc f<|Fo 2 f λa5=>Ld a5 t λa6=>Fo 5 k λa7=>Ld a7 t λa8=>Cl P 141 #[a6,a8] t λb6 a9=>Cl P 101 #[e,g] a9 λb7 b0=>R (.tuple #[]) b0) (Cl P 83 #[e,g] c λb8 b1=>R (.tuple #[]) b1))))
theorem Tz91 (h:Vz91 prog a0 a1 a2 w R):Cl prog 91 #[a0,a1,a2] w R:=
 tz 64 [] (s z (s (r (.staged [0,1,3,7,0,16,48,112,0,256,1023,2047,4095,4095,8191,32767])) (s (s z (i z z)) (s z (s (s z (b (s z (i (r (.staged [0,1,3,7,0,16,63])) (s z (i z (s z (i (r (.staged [0,1,3,7,0,16,63])) (s z z))))))))) z))))) [a0,a1,a2] func91 h
def Vz92:VT2:=λP c e w R=>
 VJoin 1 (λ_ g f=>Vif g (R (.pointer none) f) (Nc c<|Fo 0 c λk=>Ld k f λm=>Ias 3 m e λp=>R p f)) (λJ5=>Bn P 109 false c (.pointer none) λq=>Vif q (KS [c,e]<|J5 (.bool true) w) (Bv .lss e (I 0) (KS [c,e]<|J5 (.bool true) w) (Nc c<|Fo 0 c λt=>Ld t w λu=>Lnl u λv=>Bp .geq e v λy=>KS [c,e]<|J5 y w)))
theorem Tz92 (h:Vz92 prog a0 a1 w R):Cl prog 92 #[a0,a1] w R:=
 tz 26 [(.tmp 4)] (s z (s (j [19] [0,1] z (i (s z z) z)) (s z z))) [a0,a1] func92 h
def Vz93:VT1:=λP q w R=>
 Cl P 142 #[q] w λc t=>Lnl c λg=>VLoop 1 [(I 0)] t λ_ u f e=>Bv .lss f g (Ias 2 c f λv=>LdA 2 v e λy=>New (zeroP P 230) 230 e λk C=>StA 2 k y C λm=>Fo 0 k λD=>Ld D m λE=>Cl P 143 #[E] m λF p=>Up .not F λG=>Vif G (R (.bool false) p) (Bp .add f (I 1) λJ=>KS [c,c,g]<|u J p)) (Lnl c λL=>Bp .gtr L (I 0) λM=>Vif M (Lnl c λN=>Bp .leq N (I 32) λO=>R O e) (R (.bool false) e))
theorem Tz93 (h:Vz93 prog a0 w R):Cl prog 93 #[a0] w R:=
 tz 27 [(.tmp 2)] (s z (s z (s (s z (b (l [10] [3,8,9] (s z (s (i z z) (s (b (s z (s z (i (s z z) z)))) z)))))) (s z z)))) [a0] func93 h
def Vz96:VT2:=λP f t w R=>
 New t 3 w λu v=>New (zeroP P 182) 182 v λc g=>Bn P 105 false f (.pointer none) λy=>Vif y (Bd P 182 #[] g λC=>StA 4 c C g λk=>LdA 4 c k λD=>R (.tuple #[D,(I 7)]) k) (Mf P (.func 148) #[] #[u] g λE=>Cl P 147 #[f,E] g λm e=>Bv .lss m (I 0) (Bd P 182 #[] e λF=>StA 4 c F e λp=>LdA 4 c p λG=>R (.tuple #[G,(I 6)]) p) (Nc f<|Fo 2 f λJ=>Ld J e λL=>Ias 5 L m λM=>Fo 0 M λN=>LdA 4 N e λO=>StA 4 c O e λq=>LdA 4 c q λQ=>R (.tuple #[Q,(I 0)]) q))
theorem Tz96 (h:Vz96 prog a0 a1 w R):Cl prog 96 #[a0,a1] w R:=
 tz 24 [(.cell 4 182),(.tmp 5)] (s z (s (s z (i (s z z) z)) (s z (s (s z (i (s z z) z)) (s z z))))) [a0,a1] func96 h
def Vz100:VT1:=λP c w R=>
 Bn P 236 false c (.pointer none) λe=>Vif e (R (.bool true) w) (Nc c<|Fo 1 c λf=>Ld f w λg=>Inv P (invoke (.fn (.method "Stopped") #[]) (#[g] ++ #[])) w λk m=>R k m)
theorem Tz100 (h:Vz100 prog a0 w R):Cl prog 100 #[a0] w R:=
 tz 12 [(.tmp 2)] (s z (s z z)) [a0] func100 h
def Vz101:VT2:=λP e g w R=>
 Nc e<|Fo 9 e λO=>Ld O w λQ=>Cl P 96 #[Q,g] w λE S=>Ex E 0 λU=>Ex E 1 λg1=>New (zeroP P 182) 182 S λk W=>StA 4 k U W λY=>Dr Y λm=>Nc e<|Fo 8 e λZ=>Ld Z m λa0=>Lk P 75 a0 g false m λc=>Nc e<|Fo 7 e λa1=>Ld a1 m λa2=>Fo 0 k λa3=>Ld a3 m λa4=>Lk P 74 a2 a4 false m λf=>Nc c<|Fo 1 c λa5=>Ld a5 m λa6=>Cl P 153 #[a6] m λg2 F=>VJoin 0 (λ_ a7=>VLoop 0 [] a7 λ_ a8 G=>Nc c<|Fo 2 c λa9=>Ld a9 G λb0=>Cl P 155 #[b0] G λJ p=>Ex J 0 λb1=>Ex J 1 λb2=>Up .not b2 λb3=>Vif b3 (VJoin 1 (λ_ b4 u=>Vif b4 (Dr u λv=>Fo 1 k λL=>Ld L v λM=>Nc c<|Fo 0 c λb5=>Ld b5 v λb6=>Cl P 157 #[b6] v λb7 y=>Rk (λw K=>Ld L w λb8=>K b8) M y<|Bd P 164 #[(0,(I 68)),(1,M),(3,b7)] y λb9=>Cl P 81 #[f,b9] y λg3 c0=>Cl P 83 #[e,g] c0 λg4 c1=>R (.tuple #[]) c1) (Nc c<|Fo 0 c λc2=>Ld c2 u λc3=>Cl P 156 #[c3] u λc4 q=>Vif c4 (Fo 1 k λc5=>Ld c5 q λc6=>Bd P 164 #[(0,(I 67)),(1,c6)] q λc7=>Cl P 81 #[f,c7] q λg5 c8=>Cl P 83 #[e,g] c8 λg6 c9=>R (.tuple #[]) c9) (Nc c<|Fo 0 c λd0=>Ld d0 q λd1=>Cl P 100 #[d1] q λd2 N=>Up .not d2 λd3=>Vif d3 (Dr N λC=>Nc e<|Fo 12 e λd4=>Ld d4 C λd5=>Fo 2 k λd6=>Ld d6 C λd7=>Cl P 158 #[d5,d7,g] C λg7 d8=>R (.tuple #[]) d8) (R (.tuple #[]) N)))) (λJ61=>Nc c<|Fo 0 c λd9=>Ld d9 p λe0=>Cl P 156 #[e0] p λe1 D=>Vif e1 (Nc c<|Fo 0 c λe2=>Ld e2 D λe3=>Cl P 157 #[e3] D λe4 e5=>Bp .neq e4 (I 0) λe6=>KS [e,g,k,c,f]<|J61 e6 e5) (KS [e,g,k,c,f]<|J61 (.bool false) D))) (Fo 1 k λe7=>Ld e7 p λe8=>Bd P 164 #[(0,(I 66)),(1,e8),(2,b1)] p λe9=>Cl P 81 #[f,e9] p λg8 f0=>KS [e,g,k,c,f]<|a8 f0)) (λJ73=>Nc c<|Fo 1 c λf1=>Ld f1 F λf2=>Cl P 154 #[f2] F λf3 t=>Bp .gtr f3 (I 0) λf4=>Vif f4 (Nc f<|Fo 5 f λf5=>St f5 g t λf6=>KS [e,g,k,c,f]<|J73 f6) (Nc f<|Fo 5 f λf7=>Ld f7 t λf8=>Bv .eql f8 g (Nc f<|Fo 5 f λf9=>St f9 (I 0) t λg0=>KS [e,g,k,c,f]<|J73 g0) (KS [e,g,k,c,f]<|J73 t)))
theorem Tz101 (h:Vz101 prog a0 a1 w R):Cl prog 101 #[a0,a1] w R:=
 tz 128 [] (s z (s (r (.staged [0,1,3,7,0,31,0,64,192,448,0,1024,4032,63,16383])) (s z (j [] [0,1,4,6,7] (s z (i z (s z (i z z)))) (s (b (l [] [0,1,4,6,7] (b (s z (s (s z (i z z)) z))))) (b (j [72] [0,1,4,6,7] z (i (s (r (.staged [0,0,2,0,8,24,56,120,254,511])) z) (s z (i (s z z) (s z (i (r (.staged [0,1,3,7,0,16,0,127])) z)))))))))))) [a0,a1] func101 h
def Vz103:VT1:=λP c w R=>
 Bn P 114 false c (.pointer none) λe=>Vif e (R (I 0) w) (Nc c<|Fo 1 c λf=>Ld f w λg=>R g w)
theorem Tz103 (h:Vz103 prog a0 w R):Cl prog 103 #[a0] w R:=
 tz 9 [(.tmp 2)] (s z (s (s z (i (s z z) z)) (s z z))) [a0] func103 h
def Vz104:VT2:=λP e f w R=>
 Cl P 149 #[e,f] w λg c=>Up .not g λk=>Vif k (R (I 0) c) (Nc e<|Fo 4 e λm=>Ld m c λp=>Ias 1 p f λq=>Ld q c λt=>R t c)
theorem Tz104 (h:Vz104 prog a0 a1 w R):Cl prog 104 #[a0,a1] w R:=
 tz 16 [(.tmp 4)] (s z (s (s z (i (s z z) z)) (s z z))) [a0,a1] func104 h
def Vz105:VT2:=λP c e w R=>
 Bn P 77 false c (.pointer none) λf=>Vif f (R (I 0) w) (Nc c<|Fo 11 c λg=>Ld g w λk=>Cl P 131 #[k,e] w λm p=>R m p)
theorem Tz105 (h:Vz105 prog a0 a1 w R):Cl prog 105 #[a0,a1] w R:=
 tz 13 [(.tmp 4)] (s z (s (s z (i (s z z) z)) (s z z))) [a0,a1] func105 h
def Vz106:VT2:=λP c q w R=>
 Bn P 77 false c (.pointer none) λt=>Vif t (R (I 0) w) (Nc c<|Fo 9 c λu=>Ld u w λv=>Cl P 107 #[v,q] w λf y=>Lnl f λk=>VLoop 2 [(I 0),(I 0)] y λ_ C m g e=>Bv .lss g k (Ias 1 f g λD=>Ld D e λE=>Nc c<|Fo 8 c λF=>Ld F e λG=>Lk P 75 G E false e λp=>Nc p<|Fo 0 p λJ=>Ld J e λL=>Cl P 160 #[L] e λM N=>Bp .add m M λO=>Bp .add g (I 1) λQ=>KS [c,f,k]<|C O Q N) (R m e))
theorem Tz106 (h:Vz106 prog a0 a1 w R):Cl prog 106 #[a0,a1] w R:=
 tz 35 [(.tmp 4)] (s z (s (s z (i (s z z) z)) (s z (s (s z (b (l [5,17] [0,15,16] (s z (s (i z z) (s (b (s z z)) z)))))) (s z z))))) [a0,a1] func106 h
def Vz107:VT2:=λP e f w R=>
 New f 3 w λg c=>Mf P (.func 161) #[] #[g] c λk=>Cl P 118 #[e,k] c λm p=>R m p
theorem Tz107 (h:Vz107 prog a0 a1 w R):Cl prog 107 #[a0,a1] w R:=
 tz 8 [(.tmp 4)] (s z (s z z)) [a0,a1] func107 h
def Vz108:VT2:=λP c e w R=>
 Bn P 77 false c (.pointer none) λf=>Vif f (R (.pointer none) w) (Nc c<|Fo 7 c λg=>Ld g w λk=>Lk P 74 k e false w λm=>R m w)
theorem Tz108 (h:Vz108 prog a0 a1 w R):Cl prog 108 #[a0,a1] w R:=
 tz 13 [(.tmp 4)] (s z (s (s z (i (s z z) z)) (s z z))) [a0,a1] func108 h
def Vz109:VT1:=λP c w R=>
 Dr w λe=>Nc c<|Fo 1 c λp=>Ld p e λq=>Usd P #[84] 241 #[q] e λt g=>Nc c<|Fo 1 c λk=>Ld k g λf=>Rk (λw K=>Ld k w λu=>K u) f e<|Lnl f λm=>Rk (λw K=>Lnl f λv=>K v) m e<|Ust P #[241,3] 9 #[t,m] g λy C=>R y C
theorem Tz109 (h:Vz109 prog a0 w R):Cl prog 109 #[a0] w R:=
 tz 14 [(.tmp 2)] (s z (s (r (.staged [0,1,3,7,15,0,32,96,224,480,1023,2047])) z)) [a0] func109 h
def Vz110:VT2:=λP e c w R=>
 Lns e λf=>Lns c λg=>Bv .geq f g (Lns c λk=>Sst e none (some k) λm=>Bp .eql m c λp=>R p w) (R (.bool false) w)
theorem Tz110 (h:Vz110 prog a0 a1 w R):Cl prog 110 #[a0,a1] w R:=
 tz 18 [(.tmp 4)] (s z (s z z)) [a0,a1] func110 h
def Vz111:VT1:=λP c w R=>
 Cl P 162 #[c] w λf e=>Ex f 0 λq=>Ex f 1 λg=>Bv .lss g (I 0) (Bv .neq c (.string ⟨#[]⟩) (Cl P 163 #[c] e λk m=>Bp .leq k (I 32) λp=>R p m) (R (.bool false) e)) (R (.bool false) e)
theorem Tz111 (h:Vz111 prog a0 w R):Cl prog 111 #[a0] w R:=
 tz 21 [(.tmp 2)] (s z (s z (s z z))) [a0] func111 h
def Vz112:VT1:=λP g w R=>
 New g 130 w λe f=>LdA 3 e f λk=>Cl P 164 #[k] f λm c=>Vif m (R (.bool true) c) (LdA 3 e c λp=>Cl P 165 #[p] c λq t=>R q t)
theorem Tz112 (h:Vz112 prog a0 w R):Cl prog 112 #[a0] w R:=
 tz 9 [(.tmp 2)] (s z (s z z)) [a0] func112 h
def Vz113:VT1:=λP e w R=>
 VLoop 2 [(I 0),(I 0)] w λ_ k f c g=>Bv .lss c (I 4) (Bp .shl f (.int .u64 8) λm=>Ixs e c λp=>Ci .i64 p λq=>Bp .or m q λt=>Bp .add c (I 1) λu=>KS [e]<|k t u g) (R f g)
theorem Tz113 (h:Vz113 prog a0 w R):Cl prog 113 #[a0] w R:=
 tz 17 [(.tmp 2)] (s z (s z (s (s z (b (l [3,5] [0] (s z (s (i z z) (s (b (s z z)) z)))))) (s z z)))) [a0] func113 h
def Vz114:VT1:=λP c w R=>
 Lns c λe=>Bv .neq e (I 4) (R (.tuple #[(I 0),(I 1)]) w) (Cl P 113 #[c] w λf g=>R (.tuple #[f,(I 0)]) g)
theorem Tz114 (h:Vz114 prog a0 w R):Cl prog 114 #[a0] w R:=
 tz 9 [(.tmp 2),(.tmp 3)] (s z (s (s z (i (s z z) z)) (s z z))) [a0] func114 h
def Vz115:VT1:=λP D w R=>
 New D 164 w λc E=>New (zeroP P 130) 130 E λf g=>Fo 0 c λF=>Ld F g λG=>Fo 1 c λJ=>Ld J g λL=>Fo 2 c λM=>Ld M g λN=>Bd P 130 #[(0,G),(1,L),(2,N)] g λO=>New (zeroP P 130) 130 g λe Q=>StA 3 e O Q λm=>VJoin 0 (λ_ t=>LdA 3 e t λS=>Cl P 166 #[S] t λu U=>Ex u 0 λW=>Ex u 1 λY=>New (zeroP P 164) 164 U λv Z=>StA 4 v W Z λk=>VJoin 1 (λ_ a0 p=>Vif a0 (Bd P 130 #[] p λa1=>StA 3 f a1 p λy=>LdA 3 f y λa2=>R (.tuple #[a2,(I 35)]) y) (LdA 3 e p λa3=>StA 3 f a3 p λC=>LdA 3 f C λa4=>R (.tuple #[a4,(I 0)]) C)) (λJ21=>Bv .neq Y (I 0) (KS [f,e]<|J21 (.bool true) k) (LdA 4 v k λa5=>LdA 4 c k λa6=>Be P .neq 164 (.tmp 39) (.tmp 40) a5 a6 k λa7=>KS [f,e]<|J21 a7 k))) (λJ26=>VJoin 1 (λ_ a8 q=>Vif a8 (Fo 2 e λa9=>Ld a9 q λb0=>Fo 3 c λb1=>Ld b1 q λb2=>Ci .u8 b2 λb3=>Bs P 84 1 #[(0,b3)] q λb4 b5=>Cw P 84 9 b4 b5 λb6 b7=>Bp .add b0 b6 λb8=>Fo 2 e λb9=>St b9 b8 b7 λc0=>KS [c,f,e]<|J26 c0) (KS [c,f,e]<|J26 q)) (λJ37=>Fo 3 c λc1=>Ld c1 m λc2=>Bp .geq c2 (I 1) λc3=>Vif c3 (Fo 3 c λc4=>Ld c4 m λc5=>Bp .leq c5 (I 255) λc6=>KS [c,f,e]<|J37 c6 m) (KS [c,f,e]<|J37 (.bool false) m)))
theorem Tz115 (h:Vz115 prog a0 w R):Cl prog 115 #[a0] w R:=
 tz 45 [(.cell 2 130),(.tmp 3)] (s z (s z (j [] [1,2,4] (j [21] [1,2,4] z (i z z)) (s (s z (j [42] [2,4] z (i (s z z) z))) (s z z))))) [a0] func115 h
def Vz116:VT1:=λP a6 w R=>
 New a6 130 w λg a2=>LdA 3 g a2 λa7=>Cl P 112 #[a7] a2 λa8 L=>Up .not a8 λa9=>Vif a9 (R (.tuple #[(.string ⟨#[]⟩),(I 35)]) L) (VJoin 1 (λ_ b0 O=>Vif b0 (R (.tuple #[(.string ⟨#[]⟩),(I 1)]) O) (Fo 2 g λb1=>Ld b1 O λb2=>Lns b2 λb3=>Bv .gtr b3 (I 65536) (R (.tuple #[(.string ⟨#[]⟩),(I 2)]) O) (Dr O λu=>Fo 0 g λv=>Ld v u λy=>Ci .u8 y λW=>Fo 1 g λQ=>Ld Q u λM=>Fo 2 g λC=>Ld C u λe=>Lns e λt=>Fo 2 g λk=>Ld k u λf=>(Bs P 84 1 #[(0,W)] u λY D=>Rk (λw K=>Ld k w λc=>K c) f D<|Rk (λw K=>Lns e λm=>K m) t D<|Rk (λw K=>Ld C w λp=>K p) e D<|Rk (λw K=>Ld Q w λN=>K N) M D<|Cv P 84 9 Y D λZ=>Cl P 167 #[M] D λb4 E=>Rk (λw K=>Cv P 84 9 Y w λa0=>K a0) Z E<|Rk (λw K=>Ld k w λc=>K c) f E<|Rk (λw K=>Lns e λm=>K m) t E<|Rk (λw K=>Ld C w λp=>K p) e E<|Rk (λw K=>Ld v w λq=>K q) y E<|Bp .add Z b4 λb5=>Cl P 167 #[t] E λb6 S=>Rk (λw K=>Cv P 84 9 Y w λa0=>K a0) Z S<|Rk (λw K=>Ld k w λc=>K c) f S<|Rk (λw K=>Ld v w λq=>K q) y S<|Bp .add b5 b6 λb7=>Bp .add b7 f λb8=>R (.tuple #[b8,(I 0)]) S)/\(Cl P 167 #[M] u λa3 F=>Rk (λw K=>Ld k w λc=>K c) f F<|Rk (λw K=>Lns e λm=>K m) t F<|Rk (λw K=>Ld C w λp=>K p) e F<|Rk (λw K=>Ld v w λq=>K q) y F<|(Bs P 84 1 #[(0,W)] F λa4 G=>Rk (λw K=>Ld k w λc=>K c) f G<|Rk (λw K=>Lns e λm=>K m) t G<|Rk (λw K=>Ld C w λp=>K p) e G<|Rk (λw K=>Ld Q w λN=>K N) M G<|Cv P 84 9 a4 G λa5=>Bp .add a5 a3 λb9=>Cl P 167 #[t] G λc0 U=>Rk (λw K=>Cv P 84 9 a4 w λc1=>K c1) a5 U<|Rk (λw K=>Ld k w λc=>K c) f U<|Rk (λw K=>Ld v w λq=>K q) y U<|Bp .add b9 c0 λc2=>Bp .add c2 f λc3=>R (.tuple #[c3,(I 0)]) U)/\(Cl P 167 #[t] F λc4 a1=>Rk (λw K=>Ld k w λc=>K c) f a1<|Rk (λw K=>Ld v w λq=>K q) y a1<|Bs P 84 1 #[(0,W)] a1 λc5 J=>Rk (λw K=>Ld k w λc=>K c) f J<|Rk (λw K=>Lns e λm=>K m) t J<|Rk (λw K=>Ld C w λp=>K p) e J<|Rk (λw K=>Ld Q w λN=>K N) M J<|Cv P 84 9 c5 J λc6=>Bp .add c6 a3 λc7=>Bp .add c7 c4 λc8=>Bp .add c8 f λc9=>R (.tuple #[c9,(I 0)]) J))))) (λJ48=>Fo 1 g λd0=>Ld d0 L λd1=>Bp .lss d1 (I 0) λd2=>Vif d2 (KS [g]<|J48 (.bool true) L) (Fo 1 g λd3=>Ld d3 L λd4=>Bp .gtr d4 (I 4294967295) λd5=>KS [g]<|J48 d5 L)))
theorem Tz116 (h:Vz116 prog a0 w R):Cl prog 116 #[a0] w R:=
 tz 39 [(.tmp 2),(.tmp 3)] (s z (s (b (s z (i (s z z) (j [8] [1] z (i (s z z) (s z (i (s z z) z))))))) (s (r (.tree [0,1,3,7,15,0,32,96,255,0,512,1536,3808,8191,0,16384,65535,131071,262143] (.op 0 (.op 1 (.op 2 (.op 5 (.op 6 (.op 9 (.op 10 (.op 11 (.op 14 (.op 15 (.fk (.op 3 (.op 4 (.op 7 (.op 8 (.op 12 (.op 13 (.op 16 (.op 17 (.op 18 .dn))))))))) (.op 7 (.fk (.op 3 (.op 4 (.op 8 (.op 12 (.op 13 (.op 16 (.op 17 (.op 18 .dn)))))))) (.op 12 (.op 3 (.op 4 (.op 8 (.op 13 (.op 16 (.op 17 (.op 18 .dn))))))))))))))))))))))) z))) [a0] func116 h
def Vz117:VT2:=λP c e w R=>
 Cl P 168 #[c] w λv f=>Nc c<|Fo 1 c λg=>Ld g f λk=>Ap P #[84,9] 84 #[k,e] f λm p=>Nc c<|Fo 1 c λq=>St q m p λt=>Lns e λu=>R (.tuple #[u,.nilIface]) t
theorem Tz117 (h:Vz117 prog a0 a1 w R):Cl prog 117 #[a0,a1] w R:=
 tz 19 [(.tmp 4),(.tmp 5)] (s z (s z (s z (s z z)))) [a0,a1] func117 h
def Vz118:VT2:=λP v f w R=>
 Cl P 169 #[v] w λc y=>Lnl c λg=>VLoop 2 [(.slice none 0 0),(I 0)] y λ_ t k e m=>Bv .lss e g (Ias 5 c e λC=>LdA 5 C m λD=>New (zeroP P 208) 208 m λp E=>StA 5 p D E λu=>LdA 5 p u λF=>Inv P (do let d <-Deferred.ofValue f #[F];invoke d.target d.args) u λG q=>Vif G (Fo 4 p λJ=>Ld J q λL=>Bs P 34 1 #[(0,L)] q λM N=>Ap P #[34,34] 34 #[k,M] N λO Q=>Bp .add e (I 1) λS=>KS [f,c,g]<|t O S Q) (Bp .add e (I 1) λU=>KS [f,c,g]<|t k U q)) (R k m)
theorem Tz118 (h:Vz118 prog a0 a1 w R):Cl prog 118 #[a0,a1] w R:=
 tz 25 [(.tmp 4)] (s z (s z (s (s z (b (l [5,11] [1,9,10] (s z (s (i z z) (s (b (s z (s z (i z z)))) z)))))) (s z z)))) [a0,a1] func118 h
def Vz119:VT2:=λP e f w R=>
 New e 208 w λg c=>Fo 0 g λk=>Fo 0 k λm=>Ld m c λp=>Ld f c λq=>Bp .eql p q λt=>R t c
theorem Tz119 (h:Vz119 prog a0 a1 w R):Cl prog 119 #[a0,a1] w R:=
 tz 9 [(.tmp 3)] (s z (s z z)) [a0,a1] func119 h
def Vz120:VT2:=λP c C w R=>
 New C 3 w λm D=>New (zeroP P 182) 182 D λe p=>Ld m p λE=>Cl P 96 #[c,E] p λq F=>Ex q 0 λG=>Ex q 1 λg=>New (zeroP P 182) 182 F λk J=>StA 4 k G J λf=>Bv .eql g (I 0) (Nc c<|Fo 2 c λL=>Ld L f λM=>Cl P 171 #[M] f λN t=>Mf P (.func 172) #[] #[m] t λO=>Cl P 170 #[N,O] t λQ S=>Nc c<|Fo 2 c λU=>St U Q S λu=>LdA 4 k u λW=>StA 4 e W u λv=>LdA 4 e v λY=>R (.tuple #[Y,g]) v) (LdA 4 k f λZ=>StA 4 e Z f λy=>LdA 4 e y λa0=>R (.tuple #[a0,g]) y)
theorem Tz120 (h:Vz120 prog a0 a1 w R):Cl prog 120 #[a0,a1] w R:=
 tz 28 [(.cell 4 182),(.tmp 5)] (s z (s z (s (s z (i z z)) (s z z)))) [a0,a1] func120 h
def Vz121:VT2:=λP c e w R=>
 Bn P 119 false c (.pointer none) λk=>Vif k (R (I 7) w) (Cl P 173 #[c,e] w λf g=>Bv .lss f (I 0) (R (I 6) g) (Cl P 152 #[c,f,e] g λp m=>R (I 0) m))
theorem Tz121 (h:Vz121 prog a0 a1 w R):Cl prog 121 #[a0,a1] w R:=
 tz 17 [(.tmp 4)] (s z (s (s z (i (s z z) z)) (s z (s (s z (i (s z z) z)) (s z (s z z)))))) [a0,a1] func121 h
def Vz122:VT3:=λP k m e w R=>
 Cl P 92 #[k,m] w λc f=>Bn P 109 false k (.pointer none) λp=>Vif p (R (I 7) f) (Bn P 111 false c (.pointer none) λq=>Vif q (R (I 6) f) (VJoin 1 (λ_ t g=>Vif t (R (I 1) g) (Nc c<|Fo 1 c λu=>Ld u g λv=>Bp .sub v e λy=>Nc c<|Fo 1 c λC=>St C y g λD=>R (I 0) D)) (λJ9=>Bp .lss e (I 0) λE=>Vif E (KS [e,c]<|J9 (.bool true) f) (Nc c<|Fo 1 c λF=>Ld F f λG=>Bp .gtr e G λJ=>KS [e,c]<|J9 J f))))
theorem Tz122 (h:Vz122 prog a0 a1 a2 w R):Cl prog 122 #[a0,a1,a2] w R:=
 tz 36 [(.tmp 6)] (s z (s z (s (b (s z (i (s z z) (s z (i (s z z) (j [17] [2,7] z (i (s z z) z))))))) (s z (s z z))))) [a0,a1,a2] func122 h
def Vz123:VT2:=λP e g w R=>
 Lnl e λk=>VLoop 2 [(I (-1)),(I 0)] w λ_ p f c m=>Bv .lss c k (Ias 5 e c λy=>LdA 5 y m λC=>New (zeroP P 49) 49 m λq D=>StA 5 q C D λt=>VJoin 1 (λ_ E u=>Vif E (Bp .add c (I 1) λF=>KS [g,e,k]<|p c F u) (Bp .add c (I 1) λG=>KS [g,e,k]<|p f G u)) (λJ12=>Fo 1 q λJ=>Ld J t λL=>Cl P 174 #[L,g] t λM v=>Vif M (Bp .eql f (I (-1)) λN=>KS [g,f,c,e,k,c]<|J12 N v) (KS [g,f,c,e,k,c]<|J12 (.bool false) v))) (Bp .eql f (I (-1)) λO=>Vif O (R (.tuple #[(I 0),(I 30)]) m) (R (.tuple #[f,(I 0)]) m))
theorem Tz123 (h:Vz123 prog a0 a1 w R):Cl prog 123 #[a0,a1] w R:=
 tz 29 [(.tmp 4),(.tmp 5)] (s z (s z (s (s z (b (l [6,11] [1,9,10] (s z (s (i z z) (s (b (s z (j [23] [1,6,7,9,10,11] z (i z z)))) z)))))) (s (s z (i (s z z) z)) (s z z))))) [a0,a1] func123 h
def Vz124:VT1:=λP f w R=>
 New f 130 w λe c=>Fo 1 e λg=>Ld g c λk=>Bv .geq k (I 0) (Fo 1 e λm=>Ld m c λp=>Bv .leq p (I 4294967295) (Fo 2 e λq=>Ld q c λt=>Lns t λu=>Bp .leq u (I 65536) λv=>R v c) (R (.bool false) c)) (R (.bool false) c)
theorem Tz124 (h:Vz124 prog a0 w R):Cl prog 124 #[a0] w R:=
 tz 17 [(.tmp 2)] (s z (s z z)) [a0] func124 h
def Vz125:VT1:=λP c w R=>
 Bv .eql c (.string ⟨#[120]⟩) (R (.tuple #[(I 2),(I 0)]) w) (Bv .eql c (.string ⟨#[116]⟩) (R (.tuple #[(I 3),(I 0)]) w) (VJoin 1 (λ_ f e=>Vif f (Dr e λg=>Ixs c (I 1) λk=>Bp .sub k (.int .u8 48) λm=>Ci .i64 m λp=>R (.tuple #[(I 1),p]) g) (R (.tuple #[(I 0),(I 0)]) e)) (λJ7=>Lns c λq=>Bp .eql q (I 2) λt=>Vif t (Ixs c (I 0) λu=>Bv .eql u (.int .u8 99) (Ixs c (I 1) λv=>Bv .geq v (.int .u8 49) (Ixs c (I 1) λy=>Bp .leq y (.int .u8 57) λC=>KS [c]<|J7 C w) (KS [c]<|J7 (.bool false) w)) (KS [c]<|J7 (.bool false) w)) (KS [c]<|J7 (.bool false) w))))
theorem Tz125 (h:Vz125 prog a0 w R):Cl prog 125 #[a0] w R:=
 tz 33 [(.tmp 2),(.tmp 3)] (s z (s (b (s z (i (s z z) (s z (i (s z z) (j [10] [0] z (i (s (r (.staged [0,1,3,7,0,31])) z) z))))))) (s z z))) [a0] func125 h
def Vz126:VT2:=λP f u w R=>
 New u 169 w λe v=>New (zeroP P 137) 137 v λg y=>Dr y λc=>Nc f<|Fo 2 f λC=>Ld C c λD=>Fo 1 e λE=>Ld E c λF=>Lk P 156 D F false c λG=>Bv .neq G (I 0) (Fo 1 e λJ=>Ld J c λL=>Cl P 86 #[L,(I 8)] c λM N=>StA 8 g M N λp=>LdA 8 g p λO=>R O p) (Nc f<|Fo 2 f λQ=>Ld Q c λS=>Ln P #[156] 3 #[S] c λU=>Bv .eql U (I 1024) (Fo 1 e λW=>Ld W c λY=>Cl P 86 #[Y,(I 5)] c λZ a0=>StA 8 g Z a0 λq=>LdA 8 g q λa1=>R a1 q) (Dr c λm=>Nc f<|Fo 2 f λa2=>Ld a2 m λa3=>Fo 1 e λa4=>Ld a4 m λa5=>Mu P 156 a3 a5 (I 1) m λk=>Fo 1 e λa6=>Ld a6 k λa7=>Fo 4 e λa8=>Ld a8 k λa9=>Fo 5 e λb0=>Ld b0 k λb1=>Bd P 137 #[(0,(I 3)),(1,a7),(3,a9),(4,b1)] k λb2=>StA 8 g b2 k λt=>LdA 8 g t λb3=>R b3 t))
theorem Tz126 (h:Vz126 prog a0 a1 w R):Cl prog 126 #[a0,a1] w R:=
 tz 40 [(.cell 4 137)] (s z (s (b (s (r (.staged [0,1,3,7,0,16,63,127,255])) (i (s z z) (s z (i (s z z) z))))) (s (r (.staged [0,1,3,7,0,16,63])) (s z z)))) [a0,a1] func126 h
def Vz127:VT2:=λP k m w R=>
 New m 169 w λf p=>Dr p λc=>Nc k<|Fo 2 k λq=>Ld q c λt=>Fo 1 f λu=>Ld u c λv=>Lk P 156 t v false c λe=>VJoin 1 (λ_ y g=>Bp .and e (I 4) λC=>Bp .neq C (I 0) λD=>Vif D (R (.bool true) g) (Vif y (Bp .and e (I 2) λE=>Bp .neq E (I 0) λF=>R F g) (R (.bool false) g))) (λJ15=>Fo 0 f λG=>Ld G c λJ=>Bp .eql J (I 3) λL=>Vif L (KS [e]<|J15 (.bool true) c) (Fo 0 f λM=>Ld M c λN=>Bp .eql N (I 4) λO=>KS [e]<|J15 O c))
theorem Tz127 (h:Vz127 prog a0 a1 w R):Cl prog 127 #[a0,a1] w R:=
 tz 33 [(.tmp 4)] (s z (s (r (.staged [0,1,3,7,0,16,63,127])) (j [6] [5] z (s z z)))) [a0,a1] func127 h
def Vz128:VT2:=λP g J w R=>
 New J 169 w λe L=>New (zeroP P 137) 137 L λf c=>Fo 0 e λM=>Ld M c λp=>Bv .eql p (I 3) (Fo 1 e λN=>Ld N c λO=>Fo 3 e λQ=>Ld Q c λS=>Bd P 137 #[(0,(I 4)),(1,O),(6,S)] c λU=>StA 8 f U c λu=>LdA 8 f u λW=>R W u) (Bv .eql p (I 4) (Dr c λk=>Nc g<|Fo 2 g λY=>Ld Y k λv=>Fo 1 e λZ=>Ld Z k λy=>Lk P 156 v y false k λa0=>Bp .or a0 (I 2) λa1=>Mu P 156 v y a1 k λq=>Fo 1 e λa2=>Ld a2 q λa3=>Bd P 137 #[(0,(I 5)),(1,a3)] q λa4=>StA 8 f a4 q λC=>LdA 8 f C λa5=>R a5 C) (Bp .eql p (I 5) λa6=>Vif a6 (Dr c λm=>Nc g<|Fo 2 g λa7=>Ld a7 m λD=>Fo 1 e λa8=>Ld a8 m λE=>Lk P 156 D E false m λa9=>Bp .or a9 (I 4) λb0=>Mu P 156 D E b0 m λt=>Fo 1 e λb1=>Ld b1 t λb2=>Bd P 137 #[(0,(I 6)),(1,b2)] t λb3=>StA 8 f b3 t λF=>LdA 8 f F λb4=>R b4 F) (Fo 1 e λb5=>Ld b5 c λb6=>Fo 6 e λb7=>Ld b7 c λb8=>Bd P 137 #[(0,(I 7)),(1,b6),(5,b8)] c λb9=>StA 8 f b9 c λG=>LdA 8 f G λc0=>R c0 G)))
theorem Tz128 (h:Vz128 prog a0 a1 w R):Cl prog 128 #[a0,a1] w R:=
 tz 45 [(.cell 4 137)] (s z (s (s z (b (s z (i (s z z) (s z (i (s (r (.staged [0,1,3,7,0,16,63,127,255])) (s z z)) (s z (i (s (r (.staged [0,1,3,7,0,16,63,127,255])) (s z z)) z)))))))) (s z z))) [a0,a1] func128 h
def Vz129:VT1:=λP c w R=>
 Lnl c λg=>VLoop 2 [(.slice none 0 0),(I 0)] w λ_ m k e f=>Bv .lss e g (Ias 1 c e λp=>Ld p f λq=>Cl P 175 #[q] f λt u=>Bs P 25 1 #[(0,t)] u λv y=>Ap P #[25,25] 25 #[k,v] y λC D=>Bp .add e (I 1) λE=>KS [c,g]<|m C E D) (Cl P 176 #[k,(.string ⟨#[32]⟩)] f λF G=>R F G)
theorem Tz129 (h:Vz129 prog a0 w R):Cl prog 129 #[a0] w R:=
 tz 20 [(.tmp 2)] (s z (s z (s (s z (b (l [3,8] [6,7] (s z (s (i z z) (s (b (s z z)) z)))))) (s z z)))) [a0] func129 h
def Vz130:VT2:=λP c e w R=>
 Cl P 61 #[c,e,(.func (.func 177) #[] #[])] w λf g=>R f g
theorem Tz130 (h:Vz130 prog a0 a1 w R):Cl prog 130 #[a0,a1] w R:=
 tz 8 [(.tmp 4)] (s z (s z z)) [a0,a1] func130 h
def Vz131:VT2:=λP c f w R=>
 Cl P 149 #[c,f] w λk g=>Up .not k λm=>Vif m (R (I 0) g) (Dr g λe=>Nc c<|Fo 2 c λp=>Ld p e λq=>Ias 1 q f λt=>Ld t e λu=>Nc c<|Fo 3 c λv=>Ld v e λy=>Ias 1 y f λC=>Ld C e λD=>Bp .sub u D λE=>R E e)
theorem Tz131 (h:Vz131 prog a0 a1 w R):Cl prog 131 #[a0,a1] w R:=
 tz 24 [(.tmp 4)] (s z (s (s z (i (s z z) z)) (s (r (.staged [0,1,3,7,0,31,63,0,128,384,896,0,3968,8064,16383,32767])) z))) [a0,a1] func131 h
def Vz132:VT4:=λP c p e f w R=>
 Bv .eql c (I 1) (Cl P 178 #[p,e,f] w λg q=>Ex g 0 λt=>Ex g 1 λu=>R (.tuple #[t,u]) q) (Bv .eql c (I 2) (Cl P 179 #[e,f,(I 4096)] w λk v=>Ex k 0 λy=>Ex k 1 λC=>R (.tuple #[y,C]) v) (Bv .eql c (I 3) (Cl P 180 #[e,f] w λm D=>Ex m 0 λE=>Ex m 1 λF=>R (.tuple #[E,F]) D) (R (.tuple #[(I 0),(I 1)]) w)))
theorem Tz132 (h:Vz132 prog a0 a1 a2 a3 w R):Cl prog 132 #[a0,a1,a2,a3] w R:=
 tz 33 [(.tmp 8),(.tmp 9)] (s z (s (s z (b (s z (i (s z z) (s z (i (s z z) (s z (i (s z z) z)))))))) (s z z))) [a0,a1,a2,a3] func132 h
def Vz133:VT3:=λP c g k w R=>
 Nc c<|Fo 10 c λt=>Ld t w λu=>Cl P 130 #[u,g] w λv m=>Bv .gtr k v (R (I 33) m) (Dr m λf=>Nc c<|Fo 9 c λy=>Ld y f λC=>Cl P 181 #[C] f λD e=>Nc c<|Fo 0 c λE=>Fo 5 E λp=>Ld p e λq=>Rk (λw K=>Ld p w λF=>K F) q f<|Bv .eql D q (R (I 34) e) (Nc c<|Fo 10 c λG=>Ld G e λJ=>Cl P 182 #[J,g,k] e λL M=>R L M))
theorem Tz133 (h:Vz133 prog a0 a1 a2 w R):Cl prog 133 #[a0,a1,a2] w R:=
 tz 35 [(.tmp 6)] (s z (s (b (s z (i (s z z) (s (r (.staged [0,1,3,7,15,0,32,96,224,480,1023,2047])) (i (s z z) z))))) (s z z))) [a0,a1,a2] func133 h
def Vz134:VT4:=λP e k m p w R=>
 Cl P 183 #[e,k,m,p] w λf c=>Ex f 0 λq=>Ex f 1 λg=>Bv .neq g (I 0) (R (.tuple #[(.pointer none),g]) c) (Bd P 236 #[(0,e),(1,q)] c λt=>New t 236 c λu v=>R (.tuple #[u,(I 0)]) v)
theorem Tz134 (h:Vz134 prog a0 a1 a2 a3 w R):Cl prog 134 #[a0,a1,a2,a3] w R:=
 tz 27 [(.tmp 8),(.tmp 9)] (s z (s z (s (s z (i (s z z) z)) (s z z)))) [a0,a1,a2,a3] func134 h
def Vz135:VT1:=λP c w R=>
 Bn P 236 false c (.pointer none) λe=>Vif e (R (.tuple #[(.pointer none),(I 7)]) w) (Bd P 255 #[(0,c)] w λf=>New f 255 w λg k=>R (.tuple #[g,(I 0)]) k)
theorem Tz135 (h:Vz135 prog a0 w R):Cl prog 135 #[a0] w R:=
 tz 9 [(.tmp 2),(.tmp 3)] (s z (s (s z (i (s z z) z)) (s z z))) [a0] func135 h
def Vz136:VT2:=λP e c w R=>
 Bn P 236 false e (.pointer none) λg=>Vif g (R (.tuple #[(.pointer none),(I 7)]) w) (VJoin 1 (λ_ k f=>Vif k (R (.tuple #[(.pointer none),(I 1)]) f) (Bd P 257 #[(0,e),(1,c)] f λm=>New m 257 f λp q=>R (.tuple #[p,(I 0)]) q)) (λJ5=>Bv .lss c (I 1) (KS [e,c]<|J5 (.bool true) w) (Bp .gtr c (I 4096) λt=>KS [e,c]<|J5 t w)))
theorem Tz136 (h:Vz136 prog a0 a1 w R):Cl prog 136 #[a0,a1] w R:=
 tz 20 [(.tmp 4),(.tmp 5)] (s z (s (b (s z (i (s z z) (j [9] [0,1] z (i (s z z) z))))) (s z z))) [a0,a1] func136 h
def Vz137:VT2:=λP c y w R=>
 New y 182 w λk g=>Bn P 105 false c (.pointer none) λC=>Vif C (R (.tuple #[(I 0),(I 7)]) g) (Fo 0 k λD=>Ld D g λE=>Fo 1 k λF=>Ld F g λG=>Cl P 138 #[c,E,G] g λm p=>Ex m 0 λb1=>Ex m 1 λJ=>Bv .eql J (I 0) (R (.tuple #[(I 0),(I 8)]) p) (Dr p λe=>Nc c<|Fo 2 c λL=>Ld L e λM=>Lnl M λN=>Nc c<|Fo 0 c λO=>Ld O e λQ=>Bv .eql N Q (R (.tuple #[(I 0),(I 5)]) e) (Nc c<|Fo 1 c λS=>Ld S e λU=>Bp .add U (I 1) λW=>Nc c<|Fo 1 c λY=>St Y W e λZ=>Dr Z λf=>Nc c<|Fo 2 c λq=>Ld q f λt=>LdA 4 k f λa0=>Nc c<|Fo 1 c λa1=>Ld a1 f λa2=>Bd P 208 #[(0,a0),(1,a2)] f λa3=>Bs P 103 1 #[(0,a3)] f λa4 u=>Rk (λw K=>Ld q w λa5=>K a5) t u<|Ap P #[103,103] 103 #[t,a4] u λa6 a7=>Nc c<|Fo 2 c λa8=>St a8 a6 a7 λv=>Nc c<|Fo 1 c λa9=>Ld a9 v λb0=>R (.tuple #[b0,(I 0)]) v)))
theorem Tz137 (h:Vz137 prog a0 a1 w R):Cl prog 137 #[a0,a1] w R:=
 tz 57 [(.tmp 4),(.tmp 5)] (s z (s (s z (i (s z z) z)) (s (s z (s z (i (s z z) z))) (s (s (r (.staged [0,1,3,7,15,0,32,96,224,511])) (i (s z z) z)) (s z (s (r (.staged [0,0,2,6,14,0,0,64,192,448,992,2016,4094,8191,16383,32767])) (s z z))))))) [a0,a1] func137 h
def Vz138:VT3:=λP c k m w R=>
 New k 3 w λp q=>New m 3 q λt f=>Bn P 105 false c (.pointer none) λu=>Vif u (R (.tuple #[(I 0),(I 7)]) f) (Mf P (.func 184) #[] #[p,t] f λv=>Cl P 147 #[c,v] f λg e=>Bv .lss g (I 0) (R (.tuple #[(I 0),(I 6)]) e) (Nc c<|Fo 2 c λy=>Ld y e λC=>Ias 5 C g λD=>Fo 4 D λE=>Ld E e λF=>R (.tuple #[F,(I 0)]) e))
theorem Tz138 (h:Vz138 prog a0 a1 a2 w R):Cl prog 138 #[a0,a1,a2] w R:=
 tz 24 [(.tmp 6),(.tmp 7)] (s z (s (s z (i (s z z) z)) (s z (s (s z (i (s z z) z)) (s z z))))) [a0,a1,a2] func138 h
def Vz139:VT2:=λP c e w R=>
 Bn P 255 false c (.pointer none) λf=>Vif f (R (I 7) w) (Nc c<|Fo 2 c λg=>Ld g w λk=>Vif k (R (I 32) w) (Nc c<|Fo 1 c λm=>Ld m w λp=>Bv .neq p (.string ⟨#[]⟩) (R (I 34) w) (Lns e λq=>Bv .gtr q (I 65536) (R (I 2) w) (Nc c<|Fo 1 c λt=>St t e w λu=>Cl P 153 #[c] u λy v=>R (I 0) v))))
theorem Tz139 (h:Vz139 prog a0 a1 w R):Cl prog 139 #[a0,a1] w R:=
 tz 29 [(.tmp 4)] (s z (s (b (s z (i (s z z) (s z (i (s z z) (s z (i (s z z) (s z (i (s z z) z))))))))) (s z (s z (s z z))))) [a0,a1] func139 h
def Vz140:VT1:=λP c w R=>
 Bn P 255 false c (.pointer none) λe=>Vif e (R (I 7) w) (Nc c<|Fo 2 c λf=>Ld f w λg=>Vif g (R (I 32) w) (Nc c<|Fo 2 c λk=>St k (.bool true) w λm=>Cl P 153 #[c] m λq p=>R (I 0) p))
theorem Tz140 (h:Vz140 prog a0 w R):Cl prog 140 #[a0] w R:=
 tz 16 [(.tmp 2)] (s z (s (b (s z (i (s z z) (s z (i (s z z) z))))) (s z (s z (s z z))))) [a0] func140 h
def Vz141:VT2:=λP c e w R=>
 Bn P 257 false c (.pointer none) λg=>Vif g (R (I 7) w) (VJoin 1 (λ_ k f=>Vif k (R (I 1) f) (Nc c<|Fo 2 c λm=>Ld m f λp=>Bp .add p e λq=>Bs P 34 1 #[(0,(I 1099511627776))] f λt u=>Cl P 185 #[q,t] u λv y=>Nc c<|Fo 2 c λC=>St C v y λD=>R (I 0) D)) (λJ9=>Bp .lss e (I 0) λE=>Vif E (KS [c,e]<|J9 (.bool true) w) (Bp .gtr e (I 1099511627776) λF=>KS [c,e]<|J9 F w)))
theorem Tz141 (h:Vz141 prog a0 a1 w R):Cl prog 141 #[a0,a1] w R:=
 tz 26 [(.tmp 4)] (s z (s (b (s z (i (s z z) (j [8] [0,1] z (i (s z z) z))))) (s z (s z z)))) [a0,a1] func141 h
def Vz142:VT1:=λP p w R=>
 VLoop 2 [p,(.slice none 0 0)] w λ_ q c f g=>Lns c λt=>Bv .gtr t (I 0) (Cl P 186 #[c] g λu v=>New (zeroP P 230) 230 v λe y=>StA 2 e u y λk=>LdA 2 e k λC=>Bs P 227 1 #[(0,C)] k λD E=>Ap P #[227,227] 227 #[f,D] E λF m=>Fo 1 e λG=>Ld G m λJ=>Sst c (some J) none λL=>KS []<|q L F m) (R f g)
theorem Tz142 (h:Vz142 prog a0 w R):Cl prog 142 #[a0] w R:=
 tz 19 [(.tmp 2)] (s z (s z (s (b (l [0,3] [] (s (s z (i z z)) (b (s z (s z z)))))) (s z z)))) [a0] func142 h
def Vz143:VT1:=λP c w R=>
 Bv .gtr c (I 32) (Bv .lss c (I 127) (Bv .neq c (I 58) (Bp .neq c (I 35) λe=>R e w) (R (.bool false) w)) (Bp .gtr c (I 160) λf=>Vif f (Bv .neq c (I 58) (Bp .neq c (I 35) λg=>R g w) (R (.bool false) w)) (R (.bool false) w))) (R (.bool false) w)
theorem Tz143 (h:Vz143 prog a0 w R):Cl prog 143 #[a0] w R:=
 tz 21 [(.tmp 2)] (s z (s z z)) [a0] func143 h
def Vz144:VT1:=λP c w R=>
 Bn P 195 false c (.pointer none) λe=>Vif e (R (I 0) w) (Nc c<|Fo 1 c λf=>Ld f w λg=>Lnl g λk=>R k w)
theorem Tz144 (h:Vz144 prog a0 w R):Cl prog 144 #[a0] w R:=
 tz 10 [(.tmp 2)] (s z (s (s z (i (s z z) z)) (s z z))) [a0] func144 h
def Vz147:VT2:=λP c e w R=>
 Cl P 169 #[c] w λf g=>Cl P 188 #[f,e] g λk m=>R k m
theorem Tz147 (h:Vz147 prog a0 a1 w R):Cl prog 147 #[a0,a1] w R:=
 tz 9 [(.tmp 4)] (s z (s z z)) [a0,a1] func147 h
def Vz148:VT2:=λP e f w R=>
 New e 208 w λg c=>Fo 4 g λk=>Ld k c λm=>Ld f c λp=>Bp .eql m p λq=>R q c
theorem Tz148 (h:Vz148 prog a0 a1 w R):Cl prog 148 #[a0,a1] w R:=
 tz 8 [(.tmp 3)] (s z (s z z)) [a0,a1] func148 h
def Vz149:VT2:=λP c e w R=>
 Bn P 114 true c (.pointer none) λf=>Vif f (Bv .geq e (I 0) (Nc c<|Fo 2 c λg=>Ld g w λk=>Lnl k λm=>Bp .lss e m λp=>R p w) (R (.bool false) w)) (R (.bool false) w)
theorem Tz149 (h:Vz149 prog a0 a1 w R):Cl prog 149 #[a0,a1] w R:=
 tz 20 [(.tmp 4)] (s z (s z z)) [a0,a1] func149 h
def Vz151:VT2:=λP c e w R=>
 VJoin 1 (λ_ g f=>Vif g (R (.pointer none) f) (Nc c<|Fo 0 c λk=>Ld k f λm=>Ias 1 m e λp=>Ld p f λq=>R q f)) (λJ6=>Bn P 119 false c (.pointer none) λt=>Vif t (KS [c,e]<|J6 (.bool true) w) (Bv .lss e (I 0) (KS [c,e]<|J6 (.bool true) w) (Nc c<|Fo 0 c λu=>Ld u w λv=>Lnl v λy=>Bp .geq e y λC=>KS [c,e]<|J6 C w)))
theorem Tz151 (h:Vz151 prog a0 a1 w R):Cl prog 151 #[a0,a1] w R:=
 tz 27 [(.tmp 4)] (s z (s (j [19] [0,1] z (i (s z z) z)) (s z z))) [a0,a1] func151 h
def Vz152:VT3:=λP e f p w R=>
 Nc e<|Fo 0 e λq=>Ld q w λt=>Ias 1 t f λu=>Ld u w λc=>Nc c<|Fo 0 c λv=>Ld v w λy=>Cl P 189 #[y,p] w λM g=>Nc c<|Fo 0 c λC=>Ld C g λD=>Cl P 144 #[D] g λE k=>Bv .eql E (I 0) (Nc c<|Fo 2 c λF=>St F (I 0) k λm=>Nc e<|Fo 1 e λG=>Ld G m λJ=>Cl P 189 #[J,f] m λN L=>R (.tuple #[]) L) (R (.tuple #[]) k)
theorem Tz152 (h:Vz152 prog a0 a1 a2 w R):Cl prog 152 #[a0,a1,a2] w R:=
 tz 35 [] (s z (s z (s z (i (s z z) z)))) [a0,a1,a2] func152 h
def Vz153:VT1:=λP c w R=>
 Bn P 255 false c (.pointer none) λt=>Vif t (R (I 0) w) (Nc c<|Fo 1 c λu=>Ld u w λv=>Lns v λy=>Nc c<|Fo 0 c λC=>Ld C w λD=>Cl P 190 #[D] w λE m=>Vif E (Nc c<|Fo 1 c λF=>St F (.string ⟨#[]⟩) m λG=>R y G) (Dr m λg=>Nc c<|Fo 0 c λJ=>Ld J g λL=>Nc c<|Fo 1 c λM=>Ld M g λN=>Cl P 191 #[L,N] g λe p=>Nc c<|Fo 1 c λO=>Ld O p λQ=>Sst Q (some e) none λS=>Nc c<|Fo 1 c λU=>St U S p λq=>Nc c<|Fo 3 c λW=>Ld W q λY=>Bp .add Y e λZ=>Nc c<|Fo 3 c λa0=>St a0 Z q λf=>VJoin 1 (λ_ a1 k=>Vif a1 (Nc c<|Fo 0 c λa2=>Ld a2 k λa3=>Cl P 192 #[a3] k λb0 a4=>R e a4) (R e k)) (λJ28=>Nc c<|Fo 2 c λa5=>Ld a5 f λa6=>Vif a6 (Nc c<|Fo 1 c λa7=>Ld a7 f λa8=>Bp .eql a8 (.string ⟨#[]⟩) λa9=>KS [c,e]<|J28 a9 f) (KS [c,e]<|J28 (.bool false) f))))
theorem Tz153 (h:Vz153 prog a0 w R):Cl prog 153 #[a0] w R:=
 tz 64 [(.tmp 2)] (s z (s (s z (i (s z z) z)) (s z (s (s z (i (s z (s z z)) z)) (s (r (.staged [0,1,3,7,0,16,48,112,255,511])) (s z (s z (s (j [57] [0,4] z (i z z)) (s z z))))))))) [a0] func153 h
def Vz154:VT1:=λP c w R=>
 Bn P 255 false c (.pointer none) λe=>Vif e (R (I 0) w) (Nc c<|Fo 1 c λf=>Ld f w λg=>Lns g λk=>R k w)
theorem Tz154 (h:Vz154 prog a0 w R):Cl prog 154 #[a0] w R:=
 tz 10 [(.tmp 2)] (s z (s (s z (i (s z z) z)) (s z z))) [a0] func154 h
def Vz155:VT1:=λP c w R=>
 Cl P 193 #[c] w λe f=>Bv .eql e (I 0) (R (.tuple #[(.string ⟨#[]⟩),(.bool false)]) f) (Nc c<|Fo 2 c λm=>Ld m f λp=>Bp .sub p e λq=>Nc c<|Fo 2 c λt=>St t q f λg=>Nc c<|Fo 3 c λu=>Ld u g λv=>Bp .add v e λy=>Nc c<|Fo 3 c λC=>St C y g λk=>Nc c<|Fo 0 c λD=>Ld D k λE=>Cl P 194 #[E,e] k λF G=>R (.tuple #[F,(.bool true)]) G)
theorem Tz155 (h:Vz155 prog a0 w R):Cl prog 155 #[a0] w R:=
 tz 31 [(.tmp 2),(.tmp 3)] (s z (s z (s (s z (i (s z z) z)) (s z (s z (s z z)))))) [a0] func155 h
def Vz156:VT1:=λP c w R=>
 Cl P 190 #[c] w λf e=>Vif f (Cl P 195 #[c] e λg k=>Bp .eql g (I 0) λm=>R m k) (R (.bool false) e)
theorem Tz156 (h:Vz156 prog a0 w R):Cl prog 156 #[a0] w R:=
 tz 10 [(.tmp 2)] (s z (s z z)) [a0] func156 h
def Vz157:VT1:=λP c w R=>
 Bn P 236 false c (.pointer none) λf=>Vif f (R (I 0) w) (Nc c<|Fo 1 c λg=>Ld g w λk=>Ta P k 234 262 true w λe=>Ex e 0 λm=>Ex e 1 λp=>Vif p (Inv P (invoke (.fn (.method "Err") #[]) (#[m] ++ #[])) w λq t=>R q t) (R (I 0) w))
theorem Tz157 (h:Vz157 prog a0 w R):Cl prog 157 #[a0] w R:=
 tz 18 [(.tmp 2)] (s z (s (s z (i (s z z) z)) (s (s z (s z (i (s z z) z))) (s z z)))) [a0] func157 h
def Vz158:VT3:=λP c k m w R=>
 Cl P 151 #[c,k] w λe f=>Bn P 119 false c (.pointer none) λq=>Vif q (R (I 7) f) (Bn P 122 false e (.pointer none) λt=>Vif t (R (I 6) f) (Cl P 173 #[c,m] f λu g=>Bv .geq u (I 0) (R (I 8) g) (Nc e<|Fo 0 e λv=>Ld v g λy=>Cl P 196 #[y,m] g λF p=>Nc c<|Fo 1 c λC=>Ld C p λD=>Cl P 196 #[D,k] p λG E=>R (I 0) E)))
theorem Tz158 (h:Vz158 prog a0 a1 a2 w R):Cl prog 158 #[a0,a1,a2] w R:=
 tz 34 [(.tmp 6)] (s z (s z (s (b (s z (i (s z z) (s z (i (s z z) (s z (i (s z z) z))))))) (s z (s z (s z z)))))) [a0,a1,a2] func158 h
def Vz160:VT1:=λP c w R=>
 VJoin 1 (λ_ f e=>Vif f (R (I 0) e) (Nc c<|Fo 1 c λg=>Ld g e λk=>Inv P (invoke (.fn (.method "Held") #[]) (#[k] ++ #[])) e λm p=>R m p)) (λJ5=>Bn P 236 false c (.pointer none) λq=>Vif q (KS [c]<|J5 (.bool true) w) (Cl P 197 #[c] w λt u=>KS [c]<|J5 t u))
theorem Tz160 (h:Vz160 prog a0 w R):Cl prog 160 #[a0] w R:=
 tz 14 [(.tmp 2)] (s z (s (j [8] [0] z (i (s z z) z)) (s z z))) [a0] func160 h
def Vz161:VT2:=λP e f w R=>
 New e 208 w λg c=>Fo 0 g λk=>Fo 2 k λm=>Ld m c λp=>Ld f c λq=>Bp .eql p q λt=>R t c
theorem Tz161 (h:Vz161 prog a0 a1 w R):Cl prog 161 #[a0,a1] w R:=
 tz 9 [(.tmp 3)] (s z (s z z)) [a0,a1] func161 h
def Vz162:VT1:=λP c w R=>
 Rg P 9 c w λf q=>VLoop 0 [] q λ_ t u=>Nx P f true 0 u λe g=>Ex e 0 λv=>Vif v (Ex e 1 λk=>Ex e 2 λy=>Cl P 198 #[c,k,y] g λm C=>Cl P 199 #[m] C λD p=>Up .not D λE=>Vif E (R (.tuple #[m,k]) p) (KS [c,f]<|t p)) (R (.tuple #[(I 0),(I (-1))]) g)
theorem Tz162 (h:Vz162 prog a0 w R):Cl prog 162 #[a0] w R:=
 tz 22 [(.tmp 2),(.tmp 3)] (s z (s (s z (b (l [] [0,8] (s z (s (i z z) (b (s z (s z (s z (i (s z z) z)))))))))) (s z z))) [a0] func162 h
def Vz163:VT1:=λP g w R=>
 Rg P 9 g w λc k=>VLoop 1 [(I 0)] k λ_ m e p=>Nx P c true 0 p λq f=>Ex q 0 λt=>Vif t (Bp .add e (I 1) λu=>KS [c]<|m u f) (R e f)
theorem Tz163 (h:Vz163 prog a0 w R):Cl prog 163 #[a0] w R:=
 tz 11 [(.tmp 2)] (s z (s z (s (s z (b (l [3] [5] (s z (s (i z z) (b z)))))) (s z z)))) [a0] func163 h
def Vz164:VT1:=λP f w R=>
 New f 130 w λe c=>Fo 0 e λg=>Ld g c λk=>Bv .geq k (I 1) (Fo 0 e λm=>Ld m c λp=>Bp .leq p (I 7) λq=>R q c) (R (.bool false) c)
theorem Tz164 (h:Vz164 prog a0 w R):Cl prog 164 #[a0] w R:=
 tz 11 [(.tmp 2)] (s z (s z z)) [a0] func164 h
def Vz165:VT1:=λP f w R=>
 New f 130 w λe c=>Fo 0 e λg=>Ld g c λk=>Bv .geq k (I 65) (Fo 0 e λm=>Ld m c λp=>Bp .leq p (I 70) λq=>R q c) (R (.bool false) c)
theorem Tz165 (h:Vz165 prog a0 w R):Cl prog 165 #[a0] w R:=
 tz 11 [(.tmp 2)] (s z (s z z)) [a0] func165 h
def Vz166:VT1:=λP L w R=>
 New L 130 w λf M=>New (zeroP P 164) 164 M λe q=>Fo 0 f λN=>Ld N q λO=>Fo 1 f λQ=>Ld Q q λS=>Bd P 164 #[(0,O),(1,S)] q λU=>New (zeroP P 164) 164 q λc W=>StA 4 c U W λD=>LdA 3 f D λY=>Cl P 124 #[Y] D λk u=>VJoin 1 (λ_ Z t=>Up .not Z λa0=>Vif a0 (Bd P 164 #[] t λa1=>StA 4 e a1 t λE=>LdA 4 e E λa2=>R (.tuple #[a2,(I 35)]) E) (LdA 4 c t λa3=>StA 4 e a3 t λF=>LdA 4 e F λa4=>R (.tuple #[a4,(I 0)]) F)) (λJ17=>Fo 0 f λa5=>Ld a5 u λm=>VJoin 1 (λ_ a6 g=>Vif a6 (Fo 2 f λa7=>Ld a7 g λa8=>Fo 2 c λa9=>St a9 a8 g λv=>Vif k (Fo 1 f λb0=>Ld b0 v λb1=>Bp .eql b1 (I 0) λb2=>KS [e,c]<|J17 b2 v) (KS [e,c]<|J17 (.bool false) v)) (Bp .eql m (I 66) λb3=>Vif b3 (Fo 2 f λb4=>Ld b4 g λb5=>Fo 2 c λb6=>St b6 b5 g λb7=>KS [e,c]<|J17 k b7) (Bv .eql m (I 67) (Vif k (Fo 2 f λb8=>Ld b8 g λb9=>Bp .eql b9 (.string ⟨#[]⟩) λc0=>KS [e,c]<|J17 c0 g) (KS [e,c]<|J17 (.bool false) g)) (VJoin 1 (λ_ c1 p=>Vif c1 (VJoin 1 (λ_ y C=>Vif y (Fo 2 f λc2=>Ld c2 C λc3=>Ixs c3 (I 0) λc4=>Ci .i64 c4 λc5=>Fo 3 c λc6=>St c6 c5 C λc7=>KS [e,c]<|J17 y c7) (KS [e,c]<|J17 y C)) (λJ42=>Vif k (Fo 2 f λc8=>Ld c8 p λc9=>Lns c9 λd0=>Bp .eql d0 (I 1) λd1=>Vif d1 (Fo 2 f λd2=>Ld d2 p λd3=>Ixs d3 (I 0) λd4=>Bp .gtr d4 (.int .u8 0) λd5=>KS [f,e,c]<|J42 d5 p) (KS [f,e,c]<|J42 (.bool false) p)) (KS [f,e,c]<|J42 (.bool false) p))) (KS [e,c]<|J17 (.bool false) p)) (λJ51=>Bp .eql m (I 68) λG=>Vif G (KS [f,e,c,k]<|J51 G g) (Bp .eql m (I 69) λd6=>KS [f,e,c,k]<|J51 d6 g)))))) (λJ54=>Bp .eql m (I 65) λJ=>Vif J (KS [f,e,c,k,m]<|J54 J u) (Bp .eql m (I 70) λd7=>KS [f,e,c,k,m]<|J54 d7 u)))
theorem Tz166 (h:Vz166 prog a0 w R):Cl prog 166 #[a0] w R:=
 tz 66 [(.cell 2 164),(.tmp 3)] (s z (s z (s z (j [5] [2,4] (s z (b (j [15] [1,2,4,5,14] (s z (i z z)) (i (s z z) (s z (i z (s z (i z (j [40] [1,2,4,5] (s z (i z z)) (i (j [5] [1,2,4] z (s z (i z z))) z)))))))))) (s (s z (i (s z z) z)) (s z z)))))) [a0] func166 h
def Vz167:VT1:=λP g w R=>
 New (zeroP P 265) 265 w λe k=>VLoop 1 [(I 0)] k λ_ m c f=>Bv .lss c (I 4) (Bp .sub (I 3) c λp=>Bp .mul (I 8) p λq=>Bp .shr g q λt=>Ci .u8 t λu=>Iaa 4 1 e c λv=>St v u f λy=>Bp .add c (I 1) λC=>KS [g,e]<|m C y) (Sl P 265 e none none none f λD=>Cw P 84 9 D f λE F=>R E F)
theorem Tz167 (h:Vz167 prog a0 w R):Cl prog 167 #[a0] w R:=
 tz 19 [(.tmp 2)] (s z (s z (s (s z (b (l [5] [0,3] (s z (s (i z z) (s (b (s z z)) z)))))) (s z z)))) [a0] func167 h
def Vz168:VT1:=λP c w R=>
 Nc c<|Fo 0 c λe=>Ld e w λf=>Bn P 86 false f (.pointer none) λg=>Vif g (Cw P 83 266 c w λk m=>Cx P 200 #[k] m λp q=>Cw P 266 83 p q λt u=>Nc c<|Fo 0 c λv=>St v t u λy=>R (.tuple #[]) y) (Nc c<|Fo 0 c λC=>Ld C w λD=>Bn P 86 true D c λE=>Vif E (False) (R (.tuple #[]) w))
theorem Tz168 (h:Vz168 prog a0 w R):Cl prog 168 #[a0] w R:=
 tz 20 [] (s z (i z (s z (i z z)))) [a0] func168 h
def Vz169:VT1:=λP c w R=>
 Bn P 105 false c (.pointer none) λe=>Vif e (R (.slice none 0 0) w) (Nc c<|Fo 2 c λf=>Ld f w λg=>R g w)
theorem Tz169 (h:Vz169 prog a0 w R):Cl prog 169 #[a0] w R:=
 tz 9 [(.tmp 2)] (s z (s (s z (i (s z z) z)) (s z z))) [a0] func169 h
def Vz170:VT2:=λP c f w R=>
 Cl P 188 #[c,f] w λk t=>Bv .eql k (I (-1)) (R c t) (Bp .add k (I 1) λy=>VLoop 2 [k,y] t λ_ u e g m=>Lnl c λC=>Bp .lss g C λD=>Vif D (Ias 5 c g λE=>LdA 5 E m λF=>New (zeroP P 208) 208 m λp G=>StA 5 p F G λv=>LdA 5 p v λJ=>Inv P (do let d <-Deferred.ofValue f #[J];invoke d.target d.args) v λL q=>Up .not L λM=>Vif M (LdA 5 p q λN=>Ias 5 c e λO=>StA 5 O N q λQ=>Bp .add e (I 1) λS=>Bp .add g (I 1) λU=>KS [c,f]<|u S U Q) (Bp .add g (I 1) λW=>KS [c,f]<|u e W q)) (Ssl 5 c (some e) none λY=>Bclr P #[103] 0 #[Y] m λ_ Z=>Ssl 5 c none (some e) λa0=>R a0 Z))
theorem Tz170 (h:Vz170 prog a0 a1 w R):Cl prog 170 #[a0,a1] w R:=
 tz 42 [(.tmp 4)] (s z (s z (s (s z (i (s z z) z)) (s (s z (b (l [5,6] [0,1] (s (s z (i z z)) (s (b (s z (s z (i (s z z) z)))) z))))) (s z (s z z)))))) [a0,a1] func170 h
def Vz171:VT1:=λP c w R=>
 Be P .eql 103 (.tmp 3) (.const (.slice none 0 0)) c (.slice none 0 0) w λe=>Vif e (R (.slice none 0 0) w) (Bs P 103 0 #[] w λf g=>Ap P #[103,103] 103 #[f,c] g λk m=>R k m)
theorem Tz171 (h:Vz171 prog a0 w R):Cl prog 171 #[a0] w R:=
 tz 8 [(.tmp 2)] (s z (s (s z (i (s z z) z)) (s z z))) [a0] func171 h
def Vz172:VT2:=λP e f w R=>
 New e 208 w λg c=>Fo 4 g λk=>Ld k c λm=>Ld f c λp=>Bp .eql m p λq=>R q c
theorem Tz172 (h:Vz172 prog a0 a1 w R):Cl prog 172 #[a0,a1] w R:=
 tz 8 [(.tmp 3)] (s z (s z z)) [a0,a1] func172 h
def Vz173:VT2:=λP e f w R=>
 New f 3 w λg c=>Nc e<|Fo 0 e λk=>Ld k c λm=>Mf P (.func 202) #[] #[g] c λp=>Cl P 201 #[m,p] c λq t=>R q t
theorem Tz173 (h:Vz173 prog a0 a1 w R):Cl prog 173 #[a0,a1] w R:=
 tz 11 [(.tmp 4)] (s z (s z z)) [a0,a1] func173 h
def Vz174:VT2:=λP c e w R=>
 Lns c λp=>Lns e λq=>Bmin P #[3,3] 3 #[p,q] w λk=>VLoop 2 [(.int .u8 0),(I 0)] w λ_ t m f g=>Bv .lss f k (Dr g λu=>Ixs c f λv=>Ixs e f λy=>Bp .xor v y λC=>Bp .or m C λD=>Bp .add f (I 1) λE=>KS [c,e,k]<|t D E u) (Bp .eql m (.int .u8 0) λF=>Vif F (Lns c λG=>Lns e λJ=>Bp .eql G J λL=>R L g) (R (.bool false) g))
theorem Tz174 (h:Vz174 prog a0 a1 w R):Cl prog 174 #[a0,a1] w R:=
 tz 34 [(.tmp 4)] (s z (s z (s (s z (b (l [5,12] [0,1,11] (s z (s (i z z) (s (b (s z (r (.staged [0,0,0,6,0,0,48,126,255,511])))) z)))))) (s z z)))) [a0,a1] func174 h
def Vz175:VT1:=λP c w R=>
 Bv .lss c (I 10) (Bmax P #[3,3] 3 #[c,(I 0)] w λu=>Bp .add (I 48) u λv=>Ci .u8 v λy=>Bs P 84 1 #[(0,y)] w λC D=>Cw P 84 9 C D λE F=>R E F) (Dr w λe=>Bp .quo c (I 10) λf=>Bp .rem c (I 10) λG=>Bp .add (I 48) G λJ=>Ci .u8 J λg=>(Cl P 175 #[f] e λL M=>Bs P 84 1 #[(0,g)] M λN k=>Cv P 84 9 N k λO=>Bp .add L O λQ=>R Q k)/\(Bs P 84 1 #[(0,g)] e λm p=>Cv P 84 9 m p λq=>Cl P 175 #[f] p λS t=>Rk (λw K=>Cv P 84 9 m w λU=>K U) q t<|Bp .add S q λW=>R W t))
theorem Tz175 (h:Vz175 prog a0 w R):Cl prog 175 #[a0] w R:=
 tz 21 [(.tmp 2)] (s z (s (s z (i (s z z) z)) (s (r (.tree [0,1,3,0,8,24,56,120,248,511,1023] (.op 0 (.op 1 (.op 3 (.op 4 (.op 5 (.op 6 (.fk (.op 2 (.op 7 (.op 8 (.op 9 (.op 10 .dn))))) (.op 7 (.op 8 (.op 2 (.op 9 (.op 10 .dn)))))))))))))) z))) [a0] func175 h
def Vz177:VT1:=λP e w R=>
 New e 111 w λf c=>Fo 0 f λg=>Ld g c λk=>R k c
theorem Tz177 (h:Vz177 prog a0 w R):Cl prog 177 #[a0] w R:=
 tz 5 [(.tmp 2)] (s z (s z z)) [a0] func177 h
def Vz178:VT3:=λP m p c w R=>
 Cl P 205 #[m,p] w λf g=>Ex f 0 λe=>Ex f 1 λq=>VJoin 1 (λ_ t k=>Vif t (R (.tuple #[(I 0),(I 1)]) k) (Bp .mul (I 8) e λu=>Bp .add c u λv=>Cl P 207 #[e] k λy C=>Bp .add v y λD=>Bp .add D (I 1024) λE=>R (.tuple #[E,(I 0)]) C)) (λJ10=>Bp .neq q (I 0) λF=>Vif F (KS [c,e]<|J10 (.bool true) g) (Cl P 206 #[c] g λG J=>Up .not G λL=>KS [c,e]<|J10 L J))
theorem Tz178 (h:Vz178 prog a0 a1 a2 w R):Cl prog 178 #[a0,a1,a2] w R:=
 tz 31 [(.tmp 6),(.tmp 7)] (s z (s z (s (j [22] [2,8] z (i (s z z) z)) (s z z)))) [a0,a1,a2] func178 h
def Vz179:VT3:=λP c e f w R=>
 Cl P 208 #[c] w λg k=>Ex g 0 λG=>Ex g 1 λp=>VJoin 1 (λ_ q m=>Vif q (R (.tuple #[(I 0),(I 1)]) m) (Bp .add e f λt=>Bp .mul (I 36) c λu=>Bp .add t u λv=>Bp .add v (I 40960) λy=>R (.tuple #[y,(I 0)]) m)) (λJ9=>Bp .neq p (I 0) λC=>Vif C (KS [c,e,f]<|J9 (.bool true) k) (Cl P 209 #[e,f] k λD E=>Up .not D λF=>KS [c,e,f]<|J9 F E))
theorem Tz179 (h:Vz179 prog a0 a1 a2 w R):Cl prog 179 #[a0,a1,a2] w R:=
 tz 30 [(.tmp 6),(.tmp 7)] (s z (s (s z (j [22] [0,1,2] z (i (s z z) z))) (s z z))) [a0,a1,a2] func179 h
def Vz180:VT2:=λP g k w R=>
 Cl P 179 #[g,k,(I 4096)] w λc e=>Ex c 0 λm=>Ex c 1 λf=>Bv .neq f (I 0) (R (.tuple #[(I 0),f]) e) (Bp .add m (I 32) λp=>R (.tuple #[p,(I 0)]) e)
theorem Tz180 (h:Vz180 prog a0 a1 w R):Cl prog 180 #[a0,a1] w R:=
 tz 19 [(.tmp 4),(.tmp 5)] (s z (s z (s (s z (i (s z z) z)) (s z z)))) [a0,a1] func180 h
def Vz181:VT1:=λP c w R=>
 Cl P 169 #[c] w λe f=>Lnl e λg=>R g f
theorem Tz181 (h:Vz181 prog a0 w R):Cl prog 181 #[a0] w R:=
 tz 6 [(.tmp 2)] (s z (s z z)) [a0] func181 h
def Vz182:VT3:=λP p q f w R=>
 Cl P 92 #[p,q] w λc m=>Bn P 109 false p (.pointer none) λt=>Vif t (R (I 7) m) (Bn P 111 false c (.pointer none) λu=>Vif u (R (I 6) m) (Cl P 48 #[f] m λv g=>Up .not v λy=>Vif y (R (I 1) g) (Nc c<|Fo 0 c λC=>Ld C g λD=>Bv .gtr f D (R (I 33) g) (Dr g λe=>Nc c<|Fo 0 c λE=>Ld E e λF=>Nc c<|Fo 1 c λG=>Ld G e λJ=>Bp .sub F J λL=>Bp .gtr f L λM=>Vif M (R (I 34) e) (Nc c<|Fo 1 c λN=>Ld N e λO=>Bp .add O f λQ=>Nc c<|Fo 1 c λS=>St S Q e λU=>Dr U λk=>Nc c<|Fo 2 c λW=>Ld W k λY=>Nc c<|Fo 1 c λZ=>Ld Z k λa0=>Bmax P #[3,3] 3 #[Y,a0] k λa1=>Nc c<|Fo 2 c λa2=>St a2 a1 k λa3=>R (I 0) a3)))))
theorem Tz182 (h:Vz182 prog a0 a1 a2 w R):Cl prog 182 #[a0,a1,a2] w R:=
 tz 60 [(.tmp 6)] (s z (s z (s (b (s z (i (s z z) (s z (i (s z z) (s z (i (s z z) (s z (i (s z z) (s (r (.staged [0,0,2,6,14,0,32,96,224,510,1023,2047])) (i (s z z) z))))))))))) (s z (s (r (.staged [0,0,2,6,14,0,32,96,224,510,1023,2047,4095])) (s z z)))))) [a0,a1,a2] func182 h
def Vz183:VT4:=λP c p e f w R=>
 Bv .eql c (I 1) (Cl P 210 #[p,e,f] w λg q=>Ex g 0 λt=>Ex g 1 λu=>R (.tuple #[(.iface 273 t),u]) q) (Bv .eql c (I 2) (Cl P 211 #[e,f,(I 4096)] w λk v=>Ex k 0 λy=>Ex k 1 λC=>R (.tuple #[(.iface 276 y),C]) v) (Bv .eql c (I 3) (Cl P 212 #[e,f] w λm D=>Ex m 0 λE=>Ex m 1 λF=>R (.tuple #[(.iface 279 E),F]) D) (R (.tuple #[.nilIface,(I 1)]) w)))
theorem Tz183 (h:Vz183 prog a0 a1 a2 a3 w R):Cl prog 183 #[a0,a1,a2,a3] w R:=
 tz 51 [(.tmp 8),(.tmp 9)] (s z (s (s z (b (s z (i (s z (s z z)) (s z (i (s z (s z z)) (s z (i (s z (s z z)) z)))))))) (s z z))) [a0,a1,a2,a3] func183 h
def Vz184:VT3:=λP f g k w R=>
 New f 208 w λe c=>Fo 0 e λm=>Fo 0 m λp=>Ld p c λq=>Ld g c λt=>Bv .eql q t (Fo 0 e λu=>Fo 1 u λv=>Ld v c λy=>Ld k c λC=>Bp .eql y C λD=>R D c) (R (.bool false) c)
theorem Tz184 (h:Vz184 prog a0 a1 a2 w R):Cl prog 184 #[a0,a1,a2] w R:=
 tz 17 [(.tmp 4)] (s z (s z z)) [a0,a1,a2] func184 h
def Vz185:VT2:=λP m e w R=>
 Lnl e λg=>VLoop 2 [m,(I 0)] w λ_ p k f c=>Bv .lss f g (Ias 1 e f λq=>Ld q c λt=>Bmin P #[3,3] 3 #[k,t] c λu=>Bp .add f (I 1) λv=>KS [e,g]<|p u v c) (R k c)
theorem Tz185 (h:Vz185 prog a0 a1 w R):Cl prog 185 #[a0,a1] w R:=
 tz 18 [(.tmp 4)] (s z (s (s z (b (l [0,9] [7,8] (s z (s (i z z) (s (b (s z z)) z)))))) (s z z))) [a0,a1] func185 h
def Vz186:VT1:=λP g w R=>
 New (zeroP P 230) 230 w λc m=>Ixs g (I 0) λf=>Bv .lss f (.int .u8 128) (Ci .i64 f λF=>Bd P 230 #[(0,F),(1,(I 1))] m λG=>StA 2 c G m λp=>LdA 2 c p λJ=>R J p) (Bd P 230 #[] m λL=>New (zeroP P 230) 230 m λe M=>StA 2 e L M λq=>VJoin 0 (λ_ t=>VJoin 0 (λ_ u=>VJoin 0 (λ_ k=>Fo 1 e λN=>Ld N k λO=>Bv .eql O (I 0) (Bd P 230 #[(0,(I (-1))),(1,(I 1))] k λQ=>StA 2 c Q k λv=>LdA 2 c v λS=>R S v) (LdA 2 e k λU=>StA 2 c U k λy=>LdA 2 c y λW=>R W y)) (λJ16=>VJoin 1 (λ_ Y C=>Vif Y (Cl P 213 #[g,(I 4)] C λZ a0=>StA 2 e Z a0 λa1=>KS [c,e]<|J16 a1) (KS [c,e]<|J16 C)) (λJ19=>Bv .geq f (.int .u8 240) (Bp .lss f (.int .u8 248) λa2=>KS [g,c,e]<|J19 a2 u) (KS [g,c,e]<|J19 (.bool false) u)))) (λJ22=>VJoin 1 (λ_ a3 D=>Vif a3 (Cl P 213 #[g,(I 3)] D λa4 a5=>StA 2 e a4 a5 λa6=>KS [g,c,f,e]<|J22 a6) (KS [g,c,f,e]<|J22 D)) (λJ25=>Bp .geq f (.int .u8 224) λa7=>Vif a7 (Bp .lss f (.int .u8 240) λa8=>KS [g,c,f,e]<|J25 a8 t) (KS [g,c,f,e]<|J25 (.bool false) t)))) (λJ28=>VJoin 1 (λ_ a9 E=>Vif a9 (Cl P 213 #[g,(I 2)] E λb0 b1=>StA 2 e b0 b1 λb2=>KS [g,c,f,e]<|J28 b2) (KS [g,c,f,e]<|J28 E)) (λJ31=>Bp .geq f (.int .u8 192) λb3=>Vif b3 (Bp .lss f (.int .u8 224) λb4=>KS [g,c,f,e]<|J31 b4 q) (KS [g,c,f,e]<|J31 (.bool false) q))))
theorem Tz186 (h:Vz186 prog a0 w R):Cl prog 186 #[a0] w R:=
 tz 42 [(.cell 2 230)] (s z (s z (s (s z (i (s z z) z)) (s z (j [] [0,2,3,4] (j [18] [0,2,3,4] z (i z z)) (j [] [0,2,3,4] (j [26] [0,2,3,4] z (i z z)) (j [] [2,4] (j [34] [0,2,4] z (i z z)) (s (s z (i (s z z) z)) (s z z))))))))) [a0] func186 h
def Vz188:VT2:=λP e g w R=>
 Lnl e λk=>VLoop 1 [(I 0)] w λ_ p c f=>Bv .lss c k (Ias 5 e c λq=>LdA 5 q f λt=>Inv P (do let d <-Deferred.ofValue g #[t];invoke d.target d.args) f λu m=>Vif u (R c m) (Bp .add c (I 1) λv=>KS [e,g,k]<|p v m)) (R (I (-1)) f)
theorem Tz188 (h:Vz188 prog a0 a1 w R):Cl prog 188 #[a0,a1] w R:=
 tz 19 [(.tmp 4)] (s z (s (s z (b (l [8] [0,1,7] (s z (s (i z z) (s (b (s z (s z (i (s z z) z)))) z)))))) (s z z))) [a0,a1] func188 h
def Vz189:VT2:=λP c g w R=>
 Bn P 195 false c (.pointer none) λk=>Vif k (R (I 7) w) (Nc c<|Fo 1 c λm=>Ld m w λp=>Cl P 215 #[p,g] w λf e=>Bv .lss f (I 0) (R (I 6) e) (Nc c<|Fo 1 c λq=>Ld q e λt=>Cl P 214 #[t,f] e λu v=>Nc c<|Fo 1 c λy=>St y u v λC=>R (I 0) C))
theorem Tz189 (h:Vz189 prog a0 a1 w R):Cl prog 189 #[a0,a1] w R:=
 tz 25 [(.tmp 4)] (s z (s (s z (i (s z z) z)) (s z (s (s z (i (s z z) z)) (s z (s z z)))))) [a0,a1] func189 h
def Vz190:VT1:=λP c w R=>
 Bn P 236 true c (.pointer none) λe=>Vif e (Nc c<|Fo 1 c λf=>Ld f w λg=>Inv P (invoke (.fn (.method "Done") #[]) (#[g] ++ #[])) w λk m=>R k m) (R (.bool false) w)
theorem Tz190 (h:Vz190 prog a0 w R):Cl prog 190 #[a0] w R:=
 tz 12 [(.tmp 2)] (s z (s z z)) [a0] func190 h
def Vz191:VT2:=λP c e w R=>
 VJoin 1 (λ_ g f=>Vif g (R (I 0) f) (Nc c<|Fo 1 c λk=>Ld k f λm=>Inv P (invoke (.fn (.method "Feed") #[]) (#[m] ++ #[e])) f λp q=>R p q)) (λJ5=>Bn P 236 false c (.pointer none) λt=>Vif t (KS [c, e]<|J5 (.bool true) w) (Cl P 190 #[c] w λu v=>KS [c, e]<|J5 u v))
theorem Tz191 (h:Vz191 prog a0 a1 w R):Cl prog 191 #[a0,a1] w R:=
 tz 17 [(.tmp 4)] (s z (s (j [10] [0,1] z (i (s z z) z)) (s z z))) [a0,a1] func191 h
def Vz192:VT1:=λP c w R=>
 Bn P 236 false c (.pointer none) λe=>Vif e (R (I 7) w) (Nc c<|Fo 1 c λf=>Ld f w λg=>Inv P (invoke (.fn (.method "End") #[]) (#[g] ++ #[])) w λk m=>R k m)
theorem Tz192 (h:Vz192 prog a0 w R):Cl prog 192 #[a0] w R:=
 tz 10 [(.tmp 2)] (s z (s (s z (i (s z z) z)) (s z z))) [a0] func192 h
def Vz193:VT1:=λP c w R=>
 Bn P 257 false c (.pointer none) λL=>Vif L (R (I 0) w) (Dr w λe=>(Nc c<|Fo 0 c λk=>Ld k e λm=>Cl P 195 #[m] e λM f=>Nc c<|Fo 2 c λp=>Ld p f λq=>Rk (λw K=>Ld p w λN=>K N) q e<|Nc c<|Fo 1 c λt=>Ld t f λu=>Rk (λw K=>Ld t w λO=>K O) u e<|Bs P 34 2 #[(0,q),(1,u)] f λQ v=>Rk (λw K=>Ld k w λS=>K S) m v<|Cl P 185 #[M,Q] v λU W=>R U W)/\(Nc c<|Fo 0 c λy=>Ld y e λC=>Nc c<|Fo 2 c λD=>Ld D e λE=>Nc c<|Fo 1 c λF=>Ld F e λG=>Bs P 34 2 #[(0,E),(1,G)] e λY J=>Rk (λw K=>Ld y w λZ=>K Z) C J<|Cl P 195 #[C] J λa0 g=>Rk (λw K=>Ld F w λa1=>K a1) G g<|Rk (λw K=>Ld D w λa2=>K a2) E g<|Cl P 185 #[a0,Y] g λa3 a4=>R a3 a4))
theorem Tz193 (h:Vz193 prog a0 w R):Cl prog 193 #[a0] w R:=
 tz 20 [(.tmp 2)] (s z (s (s z (i (s z z) z)) (s (r (.two [0,1,3,7,15,0,32,96,224,0,512,1536,3584,8160,16383,32767] 4 13 [0,1,2,3,4,5,6,7,8,9,10,11,12,13,14,15] [0,1,2,3,5,6,7,8,9,10,11,12,13,4,14,15])) z))) [a0] func193 h
def Vz194:VT2:=λP c e w R=>
 VJoin 1 (λ_ g f=>Vif g (R (.string ⟨#[]⟩) f) (Nc c<|Fo 1 c λk=>Ld k f λm=>Inv P (invoke (.fn (.method "Take") #[]) (#[m] ++ #[e])) f λp q=>R p q)) (λJ5=>Bn P 236 false c (.pointer none) λt=>Vif t (KS [c, e]<|J5 (.bool true) w) (Cl P 197 #[c] w λu v=>KS [c, e]<|J5 u v))
theorem Tz194 (h:Vz194 prog a0 a1 w R):Cl prog 194 #[a0,a1] w R:=
 tz 17 [(.tmp 4)] (s z (s (j [10] [0,1] z (i (s z z) z)) (s z z))) [a0,a1] func194 h
def Vz195:VT1:=λP c w R=>
 VJoin 1 (λ_ f e=>Vif f (R (I 0) e) (Nc c<|Fo 1 c λg=>Ld g e λk=>Inv P (invoke (.fn (.method "Waiting") #[]) (#[k] ++ #[])) e λm p=>R m p)) (λJ5=>Bn P 236 false c (.pointer none) λq=>Vif q (KS [c]<|J5 (.bool true) w) (Cl P 197 #[c] w λt u=>KS [c]<|J5 t u))
theorem Tz195 (h:Vz195 prog a0 w R):Cl prog 195 #[a0] w R:=
 tz 14 [(.tmp 2)] (s z (s (j [8] [0] z (i (s z z) z)) (s z z))) [a0] func195 h
def Vz196:VT2:=λP c f w R=>
 Bn P 195 false c (.pointer none) λk=>Vif k (R (I 7) w) (Cl P 203 #[c,f] w λm g=>Vif m (R (I 8) g) (Dr g λe=>Nc c<|Fo 1 c λp=>Ld p e λq=>Lnl q λt=>Nc c<|Fo 0 c λu=>Ld u e λv=>Bv .eql t v (R (I 5) e) (Nc c<|Fo 1 c λy=>Ld y e λC=>Bs P 34 1 #[(0,f)] e λD E=>Ap P #[34,34] 34 #[C,D] E λF G=>Nc c<|Fo 1 c λJ=>St J F G λL=>R (I 0) L)))
theorem Tz196 (h:Vz196 prog a0 a1 w R):Cl prog 196 #[a0,a1] w R:=
 tz 33 [(.tmp 4)] (s z (s (b (s z (i (s z z) (s z (i (s z z) (s (r (.staged [0,1,3,7,15,0,32,96,224,511,1023])) (i (s z z) z))))))) (s z (s z z)))) [a0,a1] func196 h
def Vz197:VT1:=λP c w R=>
 Cl P 157 #[c] w λe f=>Bp .neq e (I 0) λg=>R g f
theorem Tz197 (h:Vz197 prog a0 w R):Cl prog 197 #[a0] w R:=
 tz 6 [(.tmp 2)] (s z (s z z)) [a0] func197 h
def Vz198:VT3:=λP g k c w R=>
 Bv .eql c (.int .i32 65533) (Sst g (some k) none λm=>Cl P 216 #[m] w λe f=>Ex e 0 λu=>Ex e 1 λp=>Bv .eql p (I 1) (R (I (-1)) f) (Ci .i64 c λq=>R q f)) (Ci .i64 c λt=>R t w)
theorem Tz198 (h:Vz198 prog a0 a1 a2 w R):Cl prog 198 #[a0,a1,a2] w R:=
 tz 22 [(.tmp 6)] (s z (s (s z (i (s z (s z (i (s z z) z))) z)) (s z z))) [a0,a1,a2] func198 h
def Vz199:VT1:=λP c w R=>
 Bv .gtr c (I 32) (Bv .lss c (I 127) (Bv .neq c (I 58) (Bp .neq c (I 35) λe=>R e w) (R (.bool false) w)) (Bp .gtr c (I 160) λf=>Vif f (Bv .neq c (I 58) (Bp .neq c (I 35) λg=>R g w) (R (.bool false) w)) (R (.bool false) w))) (R (.bool false) w)
theorem Tz199 (h:Vz199 prog a0 w R):Cl prog 199 #[a0] w R:=
 tz 21 [(.tmp 2)] (s z (s z z)) [a0] func199 h
def Vz201:VT2:=λP e g w R=>
 Lnl e λk=>VLoop 1 [(I 0)] w λ_ p c f=>Bv .lss c k (Ias 1 e c λq=>Ld q f λt=>Inv P (do let d <-Deferred.ofValue g #[t];invoke d.target d.args) f λu m=>Vif u (R c m) (Bp .add c (I 1) λv=>KS [e,g,k]<|p v m)) (R (I (-1)) f)
theorem Tz201 (h:Vz201 prog a0 a1 w R):Cl prog 201 #[a0,a1] w R:=
 tz 19 [(.tmp 4)] (s z (s (s z (b (l [8] [0,1,7] (s z (s (i z z) (s (b (s z (s z (i (s z z) z)))) z)))))) (s z z))) [a0,a1] func201 h
def Vz202:VT2:=λP e f w R=>
 Dr w λc=>Nc e<|Fo 0 e λg=>Ld g c λk=>Ld f c λm=>Cl P 203 #[k,m] c λp q=>R p q
theorem Tz202 (h:Vz202 prog a0 a1 w R):Cl prog 202 #[a0,a1] w R:=
 tz 10 [(.tmp 3)] (s z (s (r (.staged [0,1,3,7,0,31,63])) z)) [a0,a1] func202 h
def Vz203:VT2:=λP c e w R=>
 Bn P 195 true c (.pointer none) λf=>Vif f (Nc c<|Fo 1 c λg=>Ld g w λk=>Cl P 217 #[k,e] w λm p=>R m p) (R (.bool false) w)
theorem Tz203 (h:Vz203 prog a0 a1 w R):Cl prog 203 #[a0,a1] w R:=
 tz 15 [(.tmp 4)] (s z (s z z)) [a0,a1] func203 h
def Vz205:VT2:=λP c e w R=>
 VJoin 1 (λ_ g f=>Vif g (R (.tuple #[(I 0),(I 1)]) f) (Bp .mul c e λk=>Bp .sub k (I 19) λm=>R (.tuple #[m,(I 0)]) f)) (λJ4=>Bp .lss c (I 1) λp=>Vif p (KS [c,e]<|J4 (.bool true) w) (Bv .gtr c (I 9) (KS [c,e]<|J4 (.bool true) w) (Bv .lss e (I 24) (KS [c,e]<|J4 (.bool true) w) (Bp .gtr e (I 100000) λq=>KS [c,e]<|J4 q w))))
theorem Tz205 (h:Vz205 prog a0 a1 w R):Cl prog 205 #[a0,a1] w R:=
 tz 24 [(.tmp 4),(.tmp 5)] (s z (s (j [19] [0,1] z (i (s z z) z)) (s z z))) [a0,a1] func205 h
def Vz206:VT1:=λP c w R=>
 Bv .geq c (I 64) (Bp .leq c (I 1048576) λe=>R e w) (R (.bool false) w)
theorem Tz206 (h:Vz206 prog a0 w R):Cl prog 206 #[a0] w R:=
 tz 9 [(.tmp 2)] (s z (s z z)) [a0] func206 h
def Vz207:VT1:=λP c w R=>
 VJoin 1 (λ_ f e=>Vif f (R (I 0) e) (Bp .mul (I 3) c λg=>Bp .add (I 12000) g λk=>R k e)) (λJ4=>Bp .lss c (I 5) λm=>Vif m (KS [c]<|J4 (.bool true) w) (Bp .gtr c (I 900000) λp=>KS [c]<|J4 p w))
theorem Tz207 (h:Vz207 prog a0 w R):Cl prog 207 #[a0] w R:=
 tz 12 [(.tmp 2)] (s z (s (j [8] [0] z (i (s z z) z)) (s z z))) [a0] func207 h
def Vz208:VT1:=λP e w R=>
 Cl P 205 #[(I 1),e] w λf c=>Ex f 0 λq=>Ex f 1 λg=>Bv .neq g (I 0) (R (.tuple #[(.pointer none),g]) c) (Bd P 294 #[(0,e)] c λk=>New k 294 c λm p=>R (.tuple #[m,(I 0)]) p)
theorem Tz208 (h:Vz208 prog a0 w R):Cl prog 208 #[a0] w R:=
 tz 17 [(.tmp 2),(.tmp 3)] (s z (s (s z (s z (i (s z z) z))) (s z z))) [a0] func208 h
def Vz209:VT2:=λP c e w R=>
 Bv .geq c (I 64) (Bv .leq c (I 1048576) (Bv .geq e (I 1) (Bp .leq e (I 65536) λf=>R f w) (R (.bool false) w)) (R (.bool false) w)) (R (.bool false) w)
theorem Tz209 (h:Vz209 prog a0 a1 w R):Cl prog 209 #[a0,a1] w R:=
 tz 19 [(.tmp 4)] (s z (s z z)) [a0,a1] func209 h
def Vz210:VT3:=λP c v e w R=>
 Cl P 205 #[c,v] w λg k=>Ex g 0 λf=>Ex g 1 λy=>VJoin 1 (λ_ C m=>Vif C (R (.tuple #[(.pointer none),(I 1)]) m) (Cl P 219 #[f] m λp D=>Ex p 0 λE=>Ex p 1 λS=>Cl P 220 #[c] D λq F=>Ex q 0 λt=>Ex q 1 λU=>Cl P 221 #[t] F λG u=>Bd P 304 #[(0,e),(3,E),(8,t),(9,G)] u λJ=>New J 304 u λL M=>R (.tuple #[L,(I 0)]) M)) (λJ14=>Bv .neq y (I 0) (KS [c,e,f]<|J14 (.bool true) k) (Cl P 206 #[e] k λN O=>Up .not N λQ=>KS [c,e,f]<|J14 Q O))
theorem Tz210 (h:Vz210 prog a0 a1 a2 w R):Cl prog 210 #[a0,a1,a2] w R:=
 tz 44 [(.tmp 6),(.tmp 7)] (s z (s z (s (j [26] [0,2,8] z (i (s z z) z)) (s z (s z (s z z)))))) [a0,a1,a2] func210 h
def Vz211:VT3:=λP q c e w R=>
 Cl P 208 #[q] w λg k=>Ex g 0 λf=>Ex g 1 λt=>VJoin 1 (λ_ u m=>Vif u (R (.tuple #[(.pointer none),(I 1)]) m) (Cl P 222 #[(.string ⟨#[]⟩)] m λv p=>Bd P 309 #[(0,c),(1,e),(3,v),(4,f)] p λy=>New y 309 p λC D=>R (.tuple #[C,(I 0)]) D)) (λJ8=>Bv .neq t (I 0) (KS [c,e,f]<|J8 (.bool true) k) (Cl P 209 #[c,e] k λE F=>Up .not E λG=>KS [c,e,f]<|J8 G F))
theorem Tz211 (h:Vz211 prog a0 a1 a2 w R):Cl prog 211 #[a0,a1,a2] w R:=
 tz 29 [(.tmp 6),(.tmp 7)] (s z (s z (s (j [22] [1,2,8] z (i (s z z) z)) (s z z)))) [a0,a1,a2] func211 h
def Vz212:VT2:=λP g k w R=>
 Cl P 211 #[g,k,(I 4096)] w λe c=>Ex e 0 λm=>Ex e 1 λf=>Bv .neq f (I 0) (R (.tuple #[(.pointer none),f]) c) (Bd P 311 #[(0,m)] c λp=>Bd P 313 #[(0,p)] c λq=>New q 313 c λt u=>R (.tuple #[t,(I 0)]) u)
theorem Tz212 (h:Vz212 prog a0 a1 w R):Cl prog 212 #[a0,a1] w R:=
 tz 21 [(.tmp 4),(.tmp 5)] (s z (s z (s (s z (i (s z z) z)) (s z z)))) [a0,a1] func212 h
def Vz213:VT2:=λP f e w R=>
 New (zeroP P 230) 230 w λc t=>Ixs f (I 0) λL=>Ci .i64 L λu=>VJoin 1 (λ_ v y=>VJoin 2 (λ_ C M D=>VJoin 2 (λ_ N E O=>VLoop 2 [N,(I 1)] O λ_ Q g m k=>Bv .lss m e (Cl P 223 #[f,m] k λS q=>Up .not S λU=>Vif U (Bd P 230 #[] q λW=>StA 2 c W q λF=>LdA 2 c F λY=>R Y F) (Bp .mul (I 64) g λZ=>Ixs f m λa0=>Ci .i64 a0 λa1=>Bp .add Z a1 λa2=>Bp .sub a2 (I 128) λa3=>Bp .add m (I 1) λa4=>KS [f,e,c,E]<|Q a3 a4 q)) (VJoin 1 (λ_ a5 p=>Vif a5 (Bd P 230 #[] p λa6=>StA 2 c a6 p λG=>LdA 2 c G λa7=>R a7 G) (Bd P 230 #[(0,g),(1,e)] p λa8=>StA 2 c a8 p λJ=>LdA 2 c J λa9=>R a9 J)) (λJ28=>Bp .lss g E λb0=>Vif b0 (KS [e,c,g]<|J28 (.bool true) k) (Bv .gtr g (I 1114111) (KS [e,c,g]<|J28 (.bool true) k) (Bv .geq g (I 55296) (Bp .leq g (I 57343) λb1=>KS [e,c,g]<|J28 b1 k) (KS [e,c,g]<|J28 (.bool false) k)))))) (λJ33=>Bp .eql e (I 4) λb2=>Vif b2 (Bp .sub C (I 240) λb3=>KS [f,e,c]<|J33 b3 (I 65536) D) (KS [f,e,c]<|J33 C M D))) (λJ36=>Bp .eql e (I 3) λb4=>Vif b4 (Bp .sub v (I 224) λb5=>KS [f,e,c]<|J36 b5 (I 2048) y) (KS [f,e,c]<|J36 v (I 128) y))) (λJ39=>Bp .eql e (I 2) λb6=>Vif b6 (Bp .sub u (I 192) λb7=>KS [f,e,c,(I 128)]<|J39 b7 t) (KS [f,e,c,(I 128)]<|J39 u t))
theorem Tz213 (h:Vz213 prog a0 a1 w R):Cl prog 213 #[a0,a1] w R:=
 tz 60 [(.cell 4 230)] (s z (s z (s z (j [5] [0,1,4,6] (s z (i z z)) (j [5,6] [0,1,4] (s z (i (s z z) z)) (j [5,6] [0,1,4] (s z (i (s z z) z)) (s (s z (b (l [5,7] [0,1,4,6] (s (s z (i z z)) (s (b (s (s z (i (s z z) z)) z)) z))))) (s (j [55] [1,4,5] z (i (s z z) z)) (s z z))))))))) [a0,a1] func213 h
def Vz214:VT2:=λP c e w R=>
 Lnl c λf=>Bp .sub f (I 1) λg=>Ms P 34 (I 0) g w λk m=>Ssl 1 c none (some e) λp=>Ap P #[34,34] 34 #[k,p] m λq t=>Bp .add e (I 1) λu=>Ssl 1 c (some u) none λv=>Ap P #[34,34] 34 #[q,v] t λy C=>R y C
theorem Tz214 (h:Vz214 prog a0 a1 w R):Cl prog 214 #[a0,a1] w R:=
 tz 21 [(.tmp 4)] (s z (s z (s z (s z z)))) [a0,a1] func214 h
def Vz215:VT2:=λP f g w R=>
 Lnl f λk=>VLoop 1 [(I 0)] w λ_ m c e=>Bv .lss c k (Ias 1 f c λp=>Ld p e λq=>Bv .eql g q (R c e) (Bp .add c (I 1) λt=>KS [f,g,k]<|m t e)) (R (I (-1)) e)
theorem Tz215 (h:Vz215 prog a0 a1 w R):Cl prog 215 #[a0,a1] w R:=
 tz 19 [(.tmp 4)] (s z (s (s z (b (l [8] [0,1,7] (s z (s (i z z) (s (b (s z (s z (i (s z z) z)))) z)))))) (s z z))) [a0,a1] func215 h
def Vz217:VT2:=λP c e w R=>
 Cl P 215 #[c,e] w λf g=>Bp .geq f (I 0) λk=>R k g
theorem Tz217 (h:Vz217 prog a0 a1 w R):Cl prog 217 #[a0,a1] w R:=
 tz 9 [(.tmp 4)] (s z (s z z)) [a0,a1] func217 h
def Vz219:VT1:=λP c w R=>
 VJoin 1 (λ_ k e=>Vif k (R (.tuple #[(.pointer none),(I 1)]) e) (Cl P 226 #[] e λm f=>Bd P 319 #[(1,m)] f λp=>Cl P 227 #[] f λq g=>Bd P 323 #[(0,p),(1,c),(2,q)] g λt=>New t 323 g λu v=>R (.tuple #[u,(I 0)]) v)) (λJ7=>Bv .lss c (I 5) (KS [c]<|J7 (.bool true) w) (Bp .gtr c (I 900000) λy=>KS [c]<|J7 y w))
theorem Tz219 (h:Vz219 prog a0 w R):Cl prog 219 #[a0] w R:=
 tz 16 [(.tmp 2),(.tmp 3)] (s z (s (j [9] [0] z (i (s z z) z)) (s z z))) [a0] func219 h
def Vz220:VT1:=λP c w R=>
 VJoin 1 (λ_ q k=>Vif q (R (.tuple #[(.pointer none),(I 1)]) k) (Cl P 228 #[] k λt m=>Bd P 327 #[(0,t)] m λu=>New u 327 m λe v=>VLoop 1 [(I 0)] v λ_ y f g=>Bv .lss f (I 3) (Dr g λp=>Nc e<|Fo 0 e λC=>Ld C p λD=>Ixs (.string ⟨#[66,90,104]⟩) f λE=>Ci .u32 E λF=>Cl P 229 #[D,F,(I 8)] p λW G=>Bp .add f (I 1) λJ=>KS [c,e]<|y J G) (Nc e<|Fo 0 e λL=>Ld L g λM=>Bp .add (I 48) c λN=>Ci .u32 N λO=>Cl P 229 #[M,O,(I 8)] g λY Q=>R (.tuple #[e,(I 0)]) Q))) (λJ20=>Bp .lss c (I 1) λS=>Vif S (KS [c]<|J20 (.bool true) w) (Bp .gtr c (I 9) λU=>KS [c]<|J20 U w))
theorem Tz220 (h:Vz220 prog a0 w R):Cl prog 220 #[a0] w R:=
 tz 36 [(.tmp 2),(.tmp 3)] (s z (s (j [11] [0] z (i (s z z) z)) (s z (s (s z (b (l [15] [0,4] (s z (s (i z z) (s (b (s z (r (.staged [0,1,3,7,0,16,48,127])))) z)))))) (s z (s z z)))))) [a0] func220 h
def Vz221:VT1:=λP c w R=>
 Bn P 327 false c (.pointer none) λe=>Vif e (R (.string ⟨#[]⟩) w) (Nc c<|Fo 0 c λf=>Ld f w λg=>Cl P 230 #[g] w λk m=>R k m)
theorem Tz221 (h:Vz221 prog a0 w R):Cl prog 221 #[a0] w R:=
 tz 10 [(.tmp 2)] (s z (s (s z (i (s z z) z)) (s z z))) [a0] func221 h
def Vz222:VT1:=λP c w R=>
 Bd P 330 #[(0,c)] w λe=>New e 330 w λf g=>R f g
theorem Tz222 (h:Vz222 prog a0 w R):Cl prog 222 #[a0] w R:=
 tz 6 [(.tmp 2)] (s z (s z z)) [a0] func222 h
def Vz223:VT2:=λP c e w R=>
 Lns c λf=>Bv .lss e f (Ixs c e λg=>Bv .geq g (.int .u8 128) (Ixs c e λk=>Bp .lss k (.int .u8 192) λm=>R m w) (R (.bool false) w)) (R (.bool false) w)
theorem Tz223 (h:Vz223 prog a0 a1 w R):Cl prog 223 #[a0,a1] w R:=
 tz 21 [(.tmp 4)] (s z (s z z)) [a0,a1] func223 h
def Vz226:VT0:=λP w R=>
 Cl P 231 #[] w λe c=>Bd P 338 #[(0,e),(1,(.int .u32 4294967295))] c λf=>New f 338 c λg k=>R g k
theorem Tz226 (h:Vz226 prog w R):Cl prog 226 #[] w R:=
 tz 4 [(.tmp 0)] (s z (s z z)) [] func226 h
def Vz227:VT0:=λP w R=>
 Bd P 342 #[] w λc=>New c 342 w λe f=>R e f
theorem Tz227 (h:Vz227 prog w R):Cl prog 227 #[] w R:=
 tz 3 [(.tmp 0)] (s z (s z z)) [] func227 h
def Vz228:VT0:=λP w R=>
 Bd P 344 #[] w λc=>New c 344 w λe f=>R e f
theorem Tz228 (h:Vz228 prog w R):Cl prog 228 #[] w R:=
 tz 3 [(.tmp 0)] (s z (s z z)) [] func228 h
def Vz229:VT3:=λP e f c w R=>
 Bn P 344 false e (.pointer none) λp=>Vif p (R (I 7) w) (Cl P 232 #[f,c] w λq k=>Up .not q λt=>Vif t (R (I 1) k) (VLoop 1 [(I 0)] k λ_ u g m=>Bv .lss g c (Bp .sub c (I 1) λv=>Bp .sub v g λy=>Bp .shr f y λC=>Bp .and C (.int .u32 1) λD=>Ci .u8 D λE=>Cl P 233 #[e,E] m λJ F=>Bp .add g (I 1) λG=>KS [e,f,c,c]<|u G F) (R (I 0) m)))
theorem Tz229 (h:Vz229 prog a0 a1 a2 w R):Cl prog 229 #[a0,a1,a2] w R:=
 tz 31 [(.tmp 6)] (s z (s (b (s z (i (s z z) (s z (i (s z z) z))))) (s (s z (b (l [17] [0,1,2,16] (s z (s (i z z) (s (b (s z z)) z)))))) (s z z)))) [a0,a1,a2] func229 h
def Vz230:VT1:=λP c w R=>
 Bn P 344 false c (.pointer none) λe=>Vif e (R (.string ⟨#[]⟩) w) (Nc c<|Fo 0 c λf=>Ld f w λg=>Cw P 84 9 g w λk m=>Nc c<|Fo 0 c λp=>St p (.slice none 0 0) m λq=>R k q)
theorem Tz230 (h:Vz230 prog a0 w R):Cl prog 230 #[a0] w R:=
 tz 15 [(.tmp 2)] (s z (s (s z (i (s z z) z)) (s z (s z (s z z))))) [a0] func230 h
def Vz231:VT0:=λP w R=>
 New (zeroP P 335) 335 w λe t=>New (zeroP P 335) 335 t λf u=>VLoop 1 [(I 0)] u λ_ v c g=>Bv .lss c (I 256) (Ci .u32 c λy=>Bp .shl y (.int .u64 24) λC=>VLoop 2 [C,(I 0)] g λ_ D k m p=>Bp .lss m (I 8) λE=>Vif E (Bp .shr k (.int .u64 31) λF=>Bp .shl k (.int .u64 1) λG=>Bp .mul F (.int .u32 79764919) λJ=>Bp .xor G J λL=>Bp .add m (I 1) λM=>KS [e,f,c,c]<|D L M p) (Iaa 256 1 f c λN=>St N k p λO=>Bp .add c (I 1) λQ=>KS [e,f]<|v Q O)) (LdA 256 f g λS=>StA 256 e S g λq=>LdA 256 e q λU=>R U q)
theorem Tz231 (h:Vz231 prog w R):Cl prog 231 #[] w R:=
 tz 26 [(.cell 0 335)] (s z (s z (s (s z (b (l [5] [0,1] (s z (s (i z z) (s (b (s z (s z (s (s z (b (l [3,11] [0,1,2,5] (s z (s (i z z) (s (b (s z z)) z)))))) z)))) z)))))) (s z z)))) [] func231 h
def Vz232:VT2:=λP e c w R=>
 Bv .geq c (I 0) (Bv .leq c (I 32) (Ci .u64 e λf=>Bp .shr f c λg=>Bp .eql g (.int .u64 0) λk=>R k w) (R (.bool false) w)) (R (.bool false) w)
theorem Tz232 (h:Vz232 prog a0 a1 w R):Cl prog 232 #[a0,a1] w R:=
 tz 18 [(.tmp 4)] (s z (s z z)) [a0,a1] func232 h
def Vz233:VT2:=λP c u w R=>
 Nc c<|Fo 2 c λv=>Ld v w λy=>Bp .rem y (I 8) λf=>Dr w λg=>Nc c<|Fo 1 c λC=>Ld C g λD=>Bp .sub (I 7) f λE=>Bp .shl u E λF=>Bp .or D F λG=>Nc c<|Fo 1 c λJ=>St J G g λk=>Nc c<|Fo 2 c λL=>Ld L k λM=>Bp .add M (I 1) λN=>Nc c<|Fo 2 c λO=>St O N k λm=>Bp .eql f (I 7) λQ=>Vif Q (Dr m λe=>Nc c<|Fo 0 c λp=>Ld p e λq=>Nc c<|Fo 1 c λS=>Ld S e λU=>Bs P 84 1 #[(0,U)] e λW t=>Rk (λw K=>Ld p w λY=>K Y) q t<|Ap P #[84,84] 84 #[q,W] t λZ a0=>Nc c<|Fo 0 c λa1=>St a1 Z a0 λa2=>Nc c<|Fo 1 c λa3=>St a3 (.int .u8 0) a2 λa4=>R (.tuple #[]) a4) (R (.tuple #[]) m)
theorem Tz233 (h:Vz233 prog a0 a1 w R):Cl prog 233 #[a0,a1] w R:=
 tz 46 [] (s z (s (r (.staged [0,1,3,7,0,0,32,112,255,511,1023,2047])) (s z (s z (i (s (r (.staged [0,0,2,6,14,0,32,96,224,480,1022,2047,4095,8191])) z) z))))) [a0,a1] func233 h
def Vz257:VT1:=λP c w R=>
 Bn P 294 false c (.pointer none) λe=>Vif e (R (I 0) w) (Nc c<|Fo 4 c λf=>Ld f w λg=>Cl P 259 #[g] w λk m=>R k m)
theorem Tz257 (h:Vz257 prog a0 w R):Cl prog 257 #[a0] w R:=
 tz 10 [(.tmp 2)] (s z (s (s z (i (s z z) z)) (s z z))) [a0] func257 h
def Vz259:VT1:=λP c w R=>
 Bn P 365 false c (.pointer none) λq=>Vif q (R (I 0) w) (Nc c<|Fo 0 c λt=>Ld t w λu=>Bn P 370 false u (.pointer none) λv=>Vif v (Nc c<|Fo 5 c λy=>Ld y w λC=>Lnl C λD=>R D w) (Dr w λe=>Nc c<|Fo 0 c λE=>Ld E e λg=>Nc g<|Fo 0 g λF=>Ld F e λG=>Cl P 261 #[G] e λJ k=>Nc c<|Fo 5 c λm=>Ld m k λf=>Rk (λw K=>Ld m w λL=>K L) f e<|Lnl f λp=>Rk (λw K=>Lnl f λM=>K M) p e<|Bp .add J p λN=>R N k))
theorem Tz259 (h:Vz259 prog a0 w R):Cl prog 259 #[a0] w R:=
 tz 31 [(.tmp 2)] (s z (s (b (s z (i (s z z) (s z (i (s z z) z))))) (s (r (.staged [0,1,3,7,15,31,63,127,0,256,768,1792,3840,8191,16383])) z))) [a0] func259 h
def Vz332:VT1:=λP c w R=>
 Bn P 304 true c (.pointer none) λe=>Vif e (Nc c<|Fo 10 c λf=>Ld f w λg=>R g w) (R (.bool false) w)
theorem Tz332 (h:Vz332 prog a0 w R):Cl prog 332 #[a0] w R:=
 tz 11 [(.tmp 2)] (s z (s z z)) [a0] func332 h
def Vz333:VT1:=λP c w R=>
 VJoin 1 (λ_ f e=>Vif f (R (I 7) e) (Nc c<|Fo 2 c λg=>St g (.bool true) e λk=>Cl P 341 #[c] k λu m=>R (I 0) m)) (λJ4=>Bn P 304 false c (.pointer none) λp=>Vif p (KS [c]<|J4 (.bool true) w) (Nc c<|Fo 2 c λq=>Ld q w λt=>KS [c]<|J4 t w))
theorem Tz333 (h:Vz333 prog a0 w R):Cl prog 333 #[a0] w R:=
 tz 16 [(.tmp 2)] (s z (s (j [10] [0] z (i (s z z) z)) (s z (s z (s z z))))) [a0] func333 h
def Vz334:VT2:=λP c e w R=>
 VJoin 1 (λ_ p g=>Vif p (R (I 0) g) (Dr g λf=>Lns e λq=>Nc c<|Fo 0 c λt=>Ld t f λu=>Nc c<|Fo 1 c λv=>Ld v f λy=>Lns y λC=>Bp .sub u C λD=>Bmin P #[3,3] 3 #[q,D] f λk=>Dr f λm=>Nc c<|Fo 1 c λE=>Ld E m λF=>Sst e none (some k) λG=>Bp .add F G λJ=>Nc c<|Fo 1 c λL=>St L J m λM=>R k M)) (λJ22=>Bn P 304 false c (.pointer none) λN=>Vif N (KS [c,e]<|J22 (.bool true) w) (Nc c<|Fo 2 c λO=>Ld O w λQ=>KS [c,e]<|J22 Q w))
theorem Tz334 (h:Vz334 prog a0 a1 w R):Cl prog 334 #[a0,a1] w R:=
 tz 38 [(.tmp 4)] (s z (s (j [13] [0,1] z (i (s z z) z)) (s (r (.staged [0,1,0,4,12,28,0,64,192,448,960,2044,4095,8191])) (s (r (.staged [0,1,3,7,0,0,48,127,255,511,1023])) (s z z))))) [a0,a1] func334 h
def Vz335:VT1:=λP c w R=>
 Bn P 304 false c (.pointer none) λO=>Vif O (R (I 0) w) (Dr w λe=>Nc c<|Fo 1 c λp=>Ld p e λg=>Lns g λq=>Nc c<|Fo 3 c λQ=>Ld Q e λS=>Cl P 342 #[S] e λU f=>Rk (λw K=>Lns g λt=>K t) q f<|Rk (λw K=>Ld p w λu=>K u) g f<|Bp .add q U λW=>Nc c<|Fo 6 c λF=>Ld F f λG=>Rk (λw K=>Ld F w λY=>K Y) G e<|Cl P 343 #[G] f λZ k=>Rk (λw K=>Lns g λt=>K t) q k<|Rk (λw K=>Ld p w λu=>K u) g k<|Bp .add W Z λa0=>Nc c<|Fo 9 c λv=>Ld v k λm=>Rk (λw K=>Ld v w λa1=>K a1) m f<|Rk (λw K=>Ld v w λa2=>K a2) m e<|Lns m λy=>Rk (λw K=>Lns m λa3=>K a3) y f<|Rk (λw K=>Lns m λa4=>K a4) y e<|Bp .add a0 y λa5=>Nc c<|Fo 5 c λa6=>Ld a6 k λC=>Lnl C λJ=>VLoop 2 [a5,(I 0)] k λ_ a7 L D E=>Bp .lss D J λa8=>Vif a8 (Ias 3 C D λa9=>LdA 3 a9 E λb0=>New (zeroP P 429) 429 E λM b1=>StA 3 M b0 b1 λN=>Fo 0 M λb2=>Ld b2 N λb3=>Lns b3 λb4=>Bp .add L b4 λb5=>Bp .add D (I 1) λb6=>KS [C,J]<|a7 b5 b6 N) (R L E))
theorem Tz335 (h:Vz335 prog a0 w R):Cl prog 335 #[a0] w R:=
 tz 47 [(.tmp 2)] (s z (s (s z (i (s z z) z)) (s (r (.staged [0,1,3,7,15,0,32,96,224,480,1023,0,2048,6144,14336,31712,65535,0,131072,393216,917504,1966080,4194303,8388607])) (s (s z (b (l [3,36] [34,35] (s z (s (i z z) (s (b (s z z)) z)))))) (s z z))))) [a0] func335 h
def Vz338:VT1:=λP c w R=>
 VJoin 1 (λ_ k g=>Vif k (R (.bool true) g) (Cl P 345 #[c] g λm e=>Vif m (Nc c<|Fo 9 c λp=>Ld p e λq=>Bp .neq q (.string ⟨#[]⟩) λt=>R t e) (Cl P 346 #[c] e λu f=>Up .not u λv=>Vif v (Nc c<|Fo 1 c λy=>Ld y f λC=>Bp .eql C (.string ⟨#[]⟩) λD=>R D f) (R (.bool false) f)))) (λJ11=>Bn P 304 false c (.pointer none) λE=>Vif E (KS [c]<|J11 (.bool true) w) (Nc c<|Fo 10 c λF=>Ld F w λG=>KS [c]<|J11 G w))
theorem Tz338 (h:Vz338 prog a0 w R):Cl prog 338 #[a0] w R:=
 tz 30 [(.tmp 2)] (s z (s (b (j [3] [0] z (i (s z z) (s z (i (s z z) z))))) (s z z))) [a0] func338 h
def Vz339:VT2:=λP c f w R=>
 VJoin 1 (λ_ k e=>Vif k (R (.string ⟨#[]⟩) e) (Nc c<|Fo 9 c λm=>Ld m e λp=>Lns p λq=>Bmin P #[3,3] 3 #[f,q] e λg=>Nc c<|Fo 9 c λt=>Ld t e λu=>Sst u none (some g) λv=>Nc c<|Fo 9 c λy=>Ld y e λC=>Sst C (some g) none λD=>Nc c<|Fo 9 c λE=>St E D e λF=>R v F)) (λJ13=>Bn P 304 false c (.pointer none) λG=>Vif G (KS [c,f]<|J13 (.bool true) w) (Bp .lss f (I 1) λJ=>KS [c,f]<|J13 J w))
theorem Tz339 (h:Vz339 prog a0 a1 w R):Cl prog 339 #[a0,a1] w R:=
 tz 36 [(.tmp 4)] (s z (s (j [12] [0,1] z (i (s z z) z)) (s z (s z (s z (s z z)))))) [a0,a1] func339 h
def Vz340:VT1:=λP c w R=>
 Bn P 304 false c (.pointer none) λe=>Vif e (R (I 0) w) (Nc c<|Fo 9 c λf=>Ld f w λg=>Lns g λk=>R k w)
theorem Tz340 (h:Vz340 prog a0 w R):Cl prog 340 #[a0] w R:=
 tz 10 [(.tmp 2)] (s z (s (s z (i (s z z) z)) (s z z))) [a0] func340 h
def Vz341:VT1:=λP c w R=>
 VJoin 1 (λ_ p f=>Vif p (Dr f λe=>Nc c<|Fo 5 c λg=>Ld g e λk=>Nc c<|Fo 3 c λq=>Ld q e λt=>Cl P 347 #[t] e λu m=>Rk (λw K=>Ld g w λv=>K v) k m<|Ap P #[301,301] 301 #[k,u] m λy C=>Nc c<|Fo 5 c λD=>St D y C λE=>Nc c<|Fo 4 c λF=>St F (.bool true) E λG=>R (.tuple #[]) G) (R (.tuple #[]) f)) (λJ12=>Nc c<|Fo 2 c λJ=>Ld J w λL=>Vif L (Nc c<|Fo 1 c λM=>Ld M w λN=>Bv .eql N (.string ⟨#[]⟩) (Nc c<|Fo 4 c λO=>Ld O w λQ=>Up .not Q λS=>KS [c]<|J12 S w) (KS [c]<|J12 (.bool false) w)) (KS [c]<|J12 (.bool false) w))
theorem Tz341 (h:Vz341 prog a0 w R):Cl prog 341 #[a0] w R:=
 tz 36 [] (j [19] [0] z (i (s (r (.staged [0,0,2,6,14,0,32,96,224,480,1022,2047,4095,8191])) z) z)) [a0] func341 h
def Vz342:VT1:=λP c w R=>
 Bn P 323 false c (.pointer none) λp=>Vif p (R (I 0) w) (Dr w λf=>Nc c<|Fo 0 c λq=>Fo 0 q λk=>Ld k f λg=>Lnl g λm=>Nc c<|Fo 4 c λt=>Ld t f λu=>Cl P 348 #[u] f λv e=>Rk (λw K=>Lnl g λy=>K y) m e<|Rk (λw K=>Ld k w λC=>K C) g e<|Vc.Fd 1 v λD=>Bmin P #[3,3] 3 #[D,(I 1)] e λE=>Bp .add m E λF=>R F e)
theorem Tz342 (h:Vz342 prog a0 w R):Cl prog 342 #[a0] w R:=
 tz 19 [(.tmp 2)] (s z (s (s z (i (s z z) z)) (s (r (.staged [0,1,3,7,15,31,0,64,192,448,960,1984,4032,8191,16383])) z))) [a0] func342 h
def Vz343:VT1:=λP c w R=>
 Bn P 434 false c (.pointer none) λp=>Vif p (R (I 0) w) (Dr w λe=>Nc c<|Fo 1 c λq=>Ld q e λt=>Cl P 349 #[t] e λu g=>Nc c<|Fo 3 c λk=>Ld k g λf=>Rk (λw K=>Ld k w λv=>K v) f e<|Lnl f λm=>Rk (λw K=>Lnl f λy=>K y) m e<|Bp .add u m λC=>R C g)
theorem Tz343 (h:Vz343 prog a0 w R):Cl prog 343 #[a0] w R:=
 tz 16 [(.tmp 2)] (s z (s (s z (i (s z z) z)) (s (r (.staged [0,1,3,7,15,0,32,96,224,480,1023,2047])) z))) [a0] func343 h
def Vz345:VT1:=λP c w R=>
 Cl P 346 #[c] w λk g=>Vif k (Dr g λf=>Nc c<|Fo 6 c λm=>Ld m f λp=>Bn P 434 true p (.pointer none) λq=>Vif q (Nc c<|Fo 6 c λt=>Ld t f λu=>Cl P 351 #[u] f λv e=>Vif v (Nc c<|Fo 7 c λy=>Ld y e λC=>Nc c<|Fo 5 c λD=>Ld D e λE=>Ias 3 E (I 0) λF=>Fo 0 F λG=>Ld G e λJ=>Lns J λL=>Bp .sub L (I 1) λM=>Bp .eql C M λN=>R N e) (R (.bool false) e)) (R (.bool false) f)) (Nc c<|Fo 4 c λO=>Ld O g λQ=>R Q g)
theorem Tz345 (h:Vz345 prog a0 w R):Cl prog 345 #[a0] w R:=
 tz 37 [(.tmp 2)] (s z (s (s z (i (s (r (.staged [0,1,3,7,15,31,63,127,255,511,1023,2047,4095,8191,16383,32767,65535,8191,139263,401407,925695,1974271,4071423,8265727,16654335,33431551,67108863,134217727,268435455])) z) z)) (s z z))) [a0] func345 h
def Vz346:VT1:=λP c w R=>
 Nc c<|Fo 5 c λe=>Ld e w λf=>Lnl f λg=>Bp .gtr g (I 0) λk=>R k w
theorem Tz346 (h:Vz346 prog a0 w R):Cl prog 346 #[a0] w R:=
 tz 9 [(.tmp 2)] (s z (s z z)) [a0] func346 h
def Vz347:VT1:=λP c w R=>
 Bn P 323 false c (.pointer none) λC=>Vif C (R (.slice none 0 0) w) (Nc c<|Fo 4 c λD=>Ld D w λE=>Cl P 348 #[E] w λF G=>New (zeroP P 340) 340 G λk J=>StA 2 k F J λm=>VJoin 1 (λ_ p L=>Nc c<|Fo 0 c λM=>Cl P 358 #[M] L λq N=>Ex q 0 λO=>Ex q 1 λQ=>New (zeroP P 429) 429 N λt S=>StA 3 t O S λe=>Vif Q (LdA 3 t e λU=>Bs P 301 1 #[(0,U)] e λW Y=>Ap P #[301,301] 301 #[p,W] Y λZ a0=>R Z a0) (R p e)) (λJ15=>Nc c<|Fo 4 c λa1=>Ld a1 m λa2=>Cl P 356 #[a2] m λu f=>Bv .neq u (.string ⟨#[]⟩) (LdA 2 k f λa3=>Lns u λa4=>Cl P 357 #[c,a3,a4] f λv a5=>Ex v 0 λa6=>Ex v 1 λa7=>New (zeroP P 429) 429 a5 λy a8=>StA 3 y a6 a8 λg=>Vif a7 (LdA 3 y g λa9=>Bs P 301 1 #[(0,a9)] g λb0 b1=>Ap P #[301,301] 301 #[(.slice none 0 0),b0] b1 λb2 b3=>KS [c]<|J15 b2 b3) (KS [c]<|J15 (.slice none 0 0) g)) (KS [c]<|J15 (.slice none 0 0) f)))
theorem Tz347 (h:Vz347 prog a0 w R):Cl prog 347 #[a0] w R:=
 tz 50 [(.tmp 2)] (s z (s (s z (i (s z z) z)) (s z (s z (j [3] [0] (s z (s z (i (s z (s z (i z z))) z))) (s (s z (s z (i z z))) (s z z))))))) [a0] func347 h
def Vz348:VT1:=λP f w R=>
 New (zeroP P 340) 340 w λc e=>Bn P 342 false f (.pointer none) λm=>Vif m (Bd P 340 #[] e λp=>StA 2 c p e λg=>LdA 2 c g λq=>R q g) (Nc f<|Fo 0 f λt=>LdA 2 t e λu=>StA 2 c u e λk=>LdA 2 c k λv=>R v k)
theorem Tz348 (h:Vz348 prog a0 w R):Cl prog 348 #[a0] w R:=
 tz 10 [(.cell 2 340)] (s z (s (s z (i (s z z) z)) (s z z))) [a0] func348 h
def Vz356:VT1:=λP c w R=>
 Bn P 342 false c (.pointer none) λe=>Vif e (R (.string ⟨#[]⟩) w) (Cl P 369 #[c] w λf g=>R f g)
theorem Tz356 (h:Vz356 prog a0 w R):Cl prog 356 #[a0] w R:=
 tz 7 [(.tmp 2)] (s z (s (s z (i (s z z) z)) (s z z))) [a0] func356 h
def Vz358:VT1:=λP c w R=>
 New (zeroP P 429) 429 w λq F=>Nc c<|Fo 0 c λZ=>Ld Z F λa0=>Lnl a0 λa1=>Bv .eql a1 (I 0) (Bd P 429 #[] F λa2=>StA 3 q a2 F λM=>LdA 3 q M λa3=>R (.tuple #[a3,(.bool false)]) M) (VJoin 1 (λ_ a4 a5=>Nc c<|Fo 0 c λa6=>St a6 (.slice none 0 0) a5 λa7=>Nc c<|Fo 2 c λa8=>St a8 (I 0) a7 λN=>Nc c<|Fo 1 c λa9=>Ld a9 N λb0=>Cl P 372 #[b0] N λb8 O=>LdA 3 a4 O λb1=>StA 3 q b1 O λQ=>LdA 3 q Q λb2=>R (.tuple #[b2,(.bool true)]) Q) (λJ16=>Dr F λt=>Nc c<|Fo 0 c λv=>Ld v t λe=>Cv P 84 9 e t λf=>Nc c<|Fo 1 c λJ=>Ld J t λG=>Nc c<|Fo 2 c λy=>Ld y t λg=>(Cl P 371 #[G] t λS C=>Rk (λw K=>Ld y w λk=>K k) g C<|Rk (λw K=>Cv P 84 9 e w λm=>K m) f C<|Rk (λw K=>Ld v w λp=>K p) e C<|Bd P 429 #[(0,f),(1,S),(2,g)] C λU=>New (zeroP P 429) 429 C λW u=>Rk (λw K=>Bd P 429 #[(0,f),(1,S),(2,g)] w λb3=>K b3) U u<|Rk (λw K=>Ld y w λk=>K k) g u<|Rk (λw K=>Ld J w λL=>K L) G u<|Rk (λw K=>Cv P 84 9 e w λm=>K m) f u<|Rk (λw K=>Ld v w λp=>K p) e u<|StA 3 W U u λb4=>KS [c,q]<|J16 W b4)/\(New (zeroP P 429) 429 t λY D=>Rk (λw K=>Ld y w λk=>K k) g D<|Rk (λw K=>Ld J w λL=>K L) G D<|Rk (λw K=>Cv P 84 9 e w λm=>K m) f D<|Rk (λw K=>Ld v w λp=>K p) e D<|Cl P 371 #[G] D λb5 E=>Rk (λw K=>Ld y w λk=>K k) g E<|Rk (λw K=>Cv P 84 9 e w λm=>K m) f E<|Rk (λw K=>Ld v w λp=>K p) e E<|Bd P 429 #[(0,f),(1,b5),(2,g)] E λb6=>StA 3 Y b6 E λb7=>KS [c,q]<|J16 Y b7)))
theorem Tz358 (h:Vz358 prog a0 w R):Cl prog 358 #[a0] w R:=
 tz 39 [(.cell 2 429),(.tmp 3)] (s z (s (s z (i (s z z) z)) (j [4] [0,2] (r (.tree [0,1,3,7,15,0,32,96,224,480,0,1024,3072,7168,16383,0,65535] (.op 0 (.op 1 (.op 2 (.op 3 (.op 4 (.op 5 (.op 6 (.op 7 (.op 8 (.op 10 (.op 11 (.op 12 (.op 13 (.fk (.op 9 (.op 14 (.op 15 (.op 16 .dn)))) (.op 15 (.op 9 (.op 14 (.op 16 .dn)))))))))))))))))))) (s z (s z (s z (s z z))))))) [a0] func358 h
def Vz369:VT1:=λP c w R=>
 Nc c<|Fo 0 c λg=>LdA 2 g w λk=>Cl P 377 #[k] w λe f=>Ex e 0 λm=>Ex e 1 λu=>Bd P 340 #[] f λp=>Nc c<|Fo 0 c λq=>StA 2 q p f λt=>R m t
theorem Tz369 (h:Vz369 prog a0 w R):Cl prog 369 #[a0] w R:=
 tz 18 [(.tmp 2)] (s z (s z (s z (s z z)))) [a0] func369 h
def Vz377:VT1:=λP g w R=>
 New g 340 w λc e=>VJoin 1 (λ_ k f=>Vif k (R (.tuple #[(.string ⟨#[]⟩),(I 1)]) f) (LdA 2 c f λm=>Cl P 390 #[m] f λp q=>R (.tuple #[p,(I 0)]) q)) (λJ5=>Fo 1 c λt=>Ld t e λu=>Bv .lss u (I 1) (KS [c]<|J5 (.bool true) e) (Fo 1 c λv=>Ld v e λy=>Bp .gtr y (I 255) λC=>KS [c]<|J5 C e))
theorem Tz377 (h:Vz377 prog a0 w R):Cl prog 377 #[a0] w R:=
 tz 14 [(.tmp 2),(.tmp 3)] (s z (s (j [11] [1] z (i (s z z) z)) (s z z))) [a0] func377 h
def Vz454:VT1:=λP c w R=>
 Bn P 309 true c (.pointer none) λe=>Vif e (Nc c<|Fo 8 c λf=>Ld f w λg=>R g w) (R (.bool false) w)
theorem Tz454 (h:Vz454 prog a0 w R):Cl prog 454 #[a0] w R:=
 tz 11 [(.tmp 2)] (s z (s z z)) [a0] func454 h
def Vz455:VT1:=λP c w R=>
 VJoin 1 (λ_ f e=>Vif f (R (I 7) e) (Nc c<|Fo 2 c λg=>St g (.bool true) e λk=>Nc c<|Fo 6 c λm=>St m (.bool false) k λp=>R (I 0) p)) (λJ4=>Bn P 309 false c (.pointer none) λq=>Vif q (KS [c]<|J4 (.bool true) w) (Nc c<|Fo 2 c λt=>Ld t w λu=>KS [c]<|J4 u w))
theorem Tz455 (h:Vz455 prog a0 w R):Cl prog 455 #[a0] w R:=
 tz 17 [(.tmp 2)] (s z (s (j [10] [0] z (i (s z z) z)) (s z (s z (s z z))))) [a0] func455 h
def Vz456:VT1:=λP c w R=>
 Bn P 309 false c (.pointer none) λe=>Vif e (R (I 0) w) (Nc c<|Fo 9 c λf=>Ld f w λg=>R g w)
theorem Tz456 (h:Vz456 prog a0 w R):Cl prog 456 #[a0] w R:=
 tz 9 [(.tmp 2)] (s z (s (s z (i (s z z) z)) (s z z))) [a0] func456 h
def Vz457:VT2:=λP c e w R=>
 VJoin 1 (λ_ y m=>Vif y (R (I 0) m) (Dr m λk=>Lns e λp=>Nc c<|Fo 0 c λq=>Ld q k λt=>Nc c<|Fo 3 c λC=>Ld C k λD=>Cl P 465 #[D] k λE f=>Rk (λw K=>Ld q w λF=>K F) t f<|Rk (λw K=>Lns e λG=>K G) p f<|Bp .sub t E λJ=>Bmin P #[3,3] 3 #[p,J] f λg=>Dr f λu=>Nc c<|Fo 3 c λL=>Ld L u λM=>Sst e none (some g) λN=>Cl P 466 #[M,N] u λa1 v=>Bp .gtr g (I 0) λO=>Vif O (Nc c<|Fo 6 c λQ=>St Q (.bool false) v λS=>R g S) (R g v))) (λJ22=>Bn P 309 false c (.pointer none) λU=>Vif U (KS [c,e]<|J22 (.bool true) w) (Nc c<|Fo 2 c λW=>Ld W w λY=>Vif Y (KS [c,e]<|J22 (.bool true) w) (Nc c<|Fo 8 c λZ=>Ld Z w λa0=>KS [c,e]<|J22 a0 w)))
theorem Tz457 (h:Vz457 prog a0 a1 w R):Cl prog 457 #[a0,a1] w R:=
 tz 47 [(.tmp 4)] (s z (s (j [19] [0,1] z (i (s z z) z)) (s (r (.staged [0,1,0,4,12,28,0,64,192,448,960,2044,4095,8191])) (s (r (.staged [0,1,3,7,0,0,48,127])) (s (s z (i z z)) (s z z)))))) [a0,a1] func457 h
def Vz458:VT1:=λP c w R=>
 Bn P 309 false c (.pointer none) λy=>Vif y (R (I 0) w) (Dr w λf=>Nc c<|Fo 3 c λC=>Ld C f λD=>Cl P 465 #[D] f λE k=>Nc c<|Fo 4 c λq=>Ld q k λt=>Rk (λw K=>Ld q w λF=>K F) t f<|Cl P 257 #[t] k λG e=>Bp .add E G λJ=>Nc c<|Fo 7 c λm=>Ld m e λg=>Rk (λw K=>Ld m w λL=>K L) g k<|Rk (λw K=>Ld m w λM=>K M) g f<|Lnl g λp=>Rk (λw K=>Lnl g λN=>K N) p k<|Rk (λw K=>Lnl g λO=>K O) p f<|Bp .add J p λu=>Nc c<|Fo 5 c λQ=>Ld Q e λS=>Bn P 515 true S (.pointer none) λU=>Vif U (Nc c<|Fo 5 c λW=>Ld W e λv=>Nc v<|Fo 3 v λY=>Ld Y e λZ=>Cl P 467 #[Z] e λa0 a1=>Bp .add u a0 λa2=>R a2 a1) (R u e))
theorem Tz458 (h:Vz458 prog a0 w R):Cl prog 458 #[a0] w R:=
 tz 39 [(.tmp 2)] (s z (s (s z (i (s z z) z)) (s (r (.staged [0,1,3,7,15,0,32,96,224,511,1023,0,2048,6144,14336,30720,65535,131071])) (s (s z (i z z)) (s z z))))) [a0] func458 h
def Vz461:VT1:=λP c w R=>
 VJoin 1 (λ_ g e=>Vif g (R (.bool true) e) (Nc c<|Fo 5 c λk=>Ld k e λm=>Bn P 515 true m (.pointer none) λp=>Vif p (Dr e λf=>Nc c<|Fo 7 c λq=>Ld q f λt=>Lnl t λu=>Nc c<|Fo 1 c λv=>Ld v f λy=>Bp .geq u y λC=>R C f) (Nc c<|Fo 6 c λD=>Ld D e λE=>R E e))) (λJ16=>Bn P 309 false c (.pointer none) λF=>Vif F (KS [c]<|J16 (.bool true) w) (Nc c<|Fo 8 c λG=>Ld G w λJ=>KS [c]<|J16 J w))
theorem Tz461 (h:Vz461 prog a0 w R):Cl prog 461 #[a0] w R:=
 tz 32 [(.tmp 2)] (s z (s (b (j [3] [0] z (i (s z z) (s z (i (s (r (.staged [0,1,3,7,15,0,32,96,224,511,1023])) z) z))))) (s z z))) [a0] func461 h
def Vz463:VT1:=λP c w R=>
 Bn P 309 false c (.pointer none) λe=>Vif e (R (I 0) w) (Nc c<|Fo 7 c λf=>Ld f w λg=>Lnl g λk=>R k w)
theorem Tz463 (h:Vz463 prog a0 w R):Cl prog 463 #[a0] w R:=
 tz 10 [(.tmp 2)] (s z (s (s z (i (s z z) z)) (s z z))) [a0] func463 h
def Vz465:VT1:=λP c w R=>
 Bn P 330 false c (.pointer none) λe=>Vif e (R (I 0) w) (Nc c<|Fo 0 c λf=>Ld f w λg=>Lns g λk=>R k w)
theorem Tz465 (h:Vz465 prog a0 w R):Cl prog 465 #[a0] w R:=
 tz 10 [(.tmp 2)] (s z (s (s z (i (s z z) z)) (s z z))) [a0] func465 h
def Vz466:VT2:=λP c e w R=>
 Bn P 330 false c (.pointer none) λf=>Vif f (R (I 7) w) (Nc c<|Fo 0 c λg=>Ld g w λk=>Bp .add k e λm=>Nc c<|Fo 0 c λp=>St p m w λq=>R (I 0) q)
theorem Tz466 (h:Vz466 prog a0 a1 w R):Cl prog 466 #[a0,a1] w R:=
 tz 15 [(.tmp 4)] (s z (s (s z (i (s z z) z)) (s z (s z z)))) [a0,a1] func466 h
def Vz487:VT1:=λP c w R=>
 Bn P 313 true c (.pointer none) λe=>Vif e (Nc c<|Fo 0 c λf=>Fo 0 f λg=>Ld g w λk=>Cl P 454 #[k] w λm p=>R m p) (R (.bool false) w)
theorem Tz487 (h:Vz487 prog a0 w R):Cl prog 487 #[a0] w R:=
 tz 13 [(.tmp 2)] (s z (s z z)) [a0] func487 h
def Vz488:VT1:=λP c w R=>
 Bn P 313 false c (.pointer none) λe=>Vif e (R (I 7) w) (Nc c<|Fo 0 c λf=>Fo 0 f λg=>Ld g w λk=>Cl P 455 #[k] w λm p=>R m p)
theorem Tz488 (h:Vz488 prog a0 w R):Cl prog 488 #[a0] w R:=
 tz 11 [(.tmp 2)] (s z (s (s z (i (s z z) z)) (s z z))) [a0] func488 h
def Vz489:VT1:=λP c w R=>
 Bn P 313 false c (.pointer none) λe=>Vif e (R (I 0) w) (Nc c<|Fo 0 c λf=>Fo 0 f λg=>Ld g w λk=>Cl P 456 #[k] w λm p=>R m p)
theorem Tz489 (h:Vz489 prog a0 w R):Cl prog 489 #[a0] w R:=
 tz 11 [(.tmp 2)] (s z (s (s z (i (s z z) z)) (s z z))) [a0] func489 h
def Vz490:VT2:=λP c e w R=>
 Bn P 313 false c (.pointer none) λf=>Vif f (R (I 0) w) (Nc c<|Fo 0 c λg=>Fo 0 g λk=>Ld k w λm=>Cl P 457 #[m,e] w λp q=>R p q)
theorem Tz490 (h:Vz490 prog a0 a1 w R):Cl prog 490 #[a0,a1] w R:=
 tz 14 [(.tmp 4)] (s z (s (s z (i (s z z) z)) (s z z))) [a0,a1] func490 h
def Vz491:VT1:=λP c w R=>
 Bn P 313 false c (.pointer none) λp=>Vif p (R (I 0) w) (Dr w λe=>Nc c<|Fo 0 c λq=>Fo 0 q λt=>Ld t e λu=>Cl P 458 #[u] e λv g=>Nc c<|Fo 2 c λk=>Ld k g λf=>Rk (λw K=>Ld k w λy=>K y) f e<|Lns f λm=>Rk (λw K=>Lns f λC=>K C) m e<|Bp .add v m λD=>R D g)
theorem Tz491 (h:Vz491 prog a0 w R):Cl prog 491 #[a0] w R:=
 tz 17 [(.tmp 2)] (s z (s (s z (i (s z z) z)) (s (r (.staged [0,1,3,7,15,31,0,64,192,448,960,2047,4095])) z))) [a0] func491 h
def Vz494:VT1:=λP c w R=>
 Bn P 313 false c (.pointer none) λe=>Vif e (R (.bool true) w) (Nc c<|Fo 0 c λf=>Fo 0 f λg=>Ld g w λk=>Cl P 461 #[k] w λm p=>R m p)
theorem Tz494 (h:Vz494 prog a0 w R):Cl prog 494 #[a0] w R:=
 tz 13 [(.tmp 2)] (s z (s z z)) [a0] func494 h
def Vz496:VT1:=λP c w R=>
 Bn P 313 false c (.pointer none) λe=>Vif e (R (I 0) w) (Nc c<|Fo 2 c λf=>Ld f w λg=>Lns g λk=>R k w)
theorem Tz496 (h:Vz496 prog a0 w R):Cl prog 496 #[a0] w R:=
 tz 10 [(.tmp 2)] (s z (s (s z (i (s z z) z)) (s z z))) [a0] func496 h
end Go.Proofs.YtgdfganaoehokaaGreatDoor
