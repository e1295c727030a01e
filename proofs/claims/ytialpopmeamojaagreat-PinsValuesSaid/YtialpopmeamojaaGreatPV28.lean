/- My texts for this claim, in one file: part 28. -/
import Derived.Test.YtialpopmeamojaaGreatProg
import Derived.KernelRfl
import Derived.Test.YtialpopmeamojaaGreatPV27
namespace Go.Proofs.YtialpopmeamojaaGreat.K
open Go Go.Kx
set_option maxRecDepth 20000
def an3 : Ann := ⟨[(6,[0,3,4,5]),(16,[0,3,4,11])],[(10,[(0,[],[]),(1,[],[]),(2,[],[]),(3,[],[]),(4,[],[]),(5,[],[]),(6,[],[]),(7,[],[]),(8,[],[])]),(13,[(0,[],[]),(1,[],[]),(2,[],[]),(3,[],[]),(4,[],[]),(5,[],[]),(6,[],[]),(7,[],[]),(8,[],[]),(9,[],[]),(10,[],[]),(11,[],[]),(12,[],[]),(13,[],[]),(14,[],[]),(15,[],[]),(16,[],[]),(17,[],[]),(18,[],[]),(19,[],[]),(20,[],[]),(21,[],[]),(22,[],[]),(23,[],[]),(24,[],[]),(25,[],[]),(26,[],[]),(27,[],[])])],[(5,[0,3,4]),(8,[0,3,4,5,30,31]),(15,[0,3,4]),(18,[0,3,4,11,106,107]),(22,[0,3,4,11,106,107,131,132,133,134,135,136,137]),(25,[0,3,4])],[]⟩
def an4 : Ann := ⟨[],[],[],[]⟩
def an5 : Ann := ⟨[],[],[],[]⟩
def an6 : Ann := ⟨[],[],[(5,[0,1,2,7])],[]⟩
def an7 : Ann := ⟨[],[(3,[(0,[],[]),(1,[],[]),(2,[],[]),(3,[],[]),(4,[],[]),(5,[],[]),(6,[],[]),(7,[],[]),(8,[],[])]),(5,[(0,[],[]),(1,[],[]),(2,[],[]),(3,[],[]),(4,[],[]),(5,[],[]),(6,[],[]),(7,[],[]),(8,[],[]),(9,[4],[]),(10,[],[]),(11,[],[]),(12,[],[]),(13,[],[])])],[(5,[0,1,5,7])],[]⟩
def an8 : Ann := ⟨[],[],[(5,[0,6])],[]⟩
def an9 : Ann := ⟨[],[],[(5,[0,4,6])],[]⟩
def an10 : Ann := ⟨[],[],[],[]⟩
def an11 : Ann := ⟨[],[],[],[]⟩
def an12 : Ann := ⟨[],[],[],[]⟩
def an13 : Ann := ⟨[(6,[2,3])],[],[(5,[2]),(8,[2,3]),(11,[2])],[]⟩
def an14 : Ann := ⟨[],[],[],[]⟩
def an15 : Ann := ⟨[],[(11,[(0,[],[]),(1,[],[]),(2,[],[]),(3,[],[]),(4,[],[]),(5,[],[]),(6,[],[]),(7,[],[]),(8,[],[])]),(15,[(0,[],[]),(1,[],[]),(2,[],[]),(3,[],[]),(4,[],[]),(5,[],[]),(6,[],[]),(7,[],[]),(8,[],[])])],[(5,[0,1,2,7]),(8,[0,1,2,7,8]),(13,[0,1,2,7,8]),(18,[0,1,2,7,8])],[]⟩
def an16 : Ann := ⟨[],[],[],[]⟩
def an17 : Ann := ⟨[],[(11,[(0,[],[]),(1,[],[]),(2,[],[]),(3,[],[]),(4,[],[]),(5,[],[]),(6,[],[]),(7,[],[]),(8,[],[])]),(15,[(0,[],[]),(1,[],[]),(2,[],[]),(3,[],[]),(4,[],[]),(5,[],[]),(6,[],[]),(7,[],[]),(8,[],[])])],[(5,[0,1,2,7]),(8,[0,1,2,7,8]),(13,[0,1,2,7,8]),(18,[0,1,2,7,8])],[]⟩
def an18 : Ann := ⟨[],[(5,[(0,[],[]),(1,[],[]),(2,[],[]),(3,[],[]),(4,[],[]),(5,[],[]),(6,[],[]),(7,[],[])])],[(4,[0,1,2])],[]⟩
def an19 : Ann := ⟨[],[],[],[]⟩
def an20 : Ann := ⟨[],[],[],[]⟩
def an21 : Ann := ⟨[],[(4,[(0,[],[]),(1,[],[]),(2,[],[]),(3,[],[]),(4,[],[]),(5,[],[]),(6,[],[]),(7,[],[]),(8,[],[]),(9,[],[]),(10,[],[]),(11,[],[]),(12,[],[]),(13,[],[]),(14,[],[]),(15,[],[]),(16,[],[]),(17,[],[])])],[(3,[0,1,7,8,9])],[]⟩
def an22 : Ann := ⟨[],[],[],[]⟩
def an23 : Ann := ⟨[],[],[],[]⟩
def an24 : Ann := ⟨[(4,[3,5])],[],[(4,[5])],[79,86]⟩
def an25 : Ann := ⟨[(3,[0,1,2,8,9,10])],[],[(4,[0,1,2,8,9,10]),(8,[0,1,2,8,9])],[]⟩
def an26 : Ann := ⟨[],[],[],[]⟩
def an27 : Ann := ⟨[],[],[],[]⟩
def an29 : Ann := ⟨[],[],[],[]⟩
def an30 : Ann := ⟨[(3,[0,1,2,8,9,10])],[],[(4,[0,1,2,8,9,10]),(8,[0,1,2,8,9])],[]⟩
def an31 : Ann := ⟨[],[],[],[]⟩
def an33 : Ann := ⟨[],[],[],[]⟩
def an34 : Ann := ⟨[],[],[],[]⟩
def an35 : Ann := ⟨[(6,[0,3,9,10,11])],[(10,[(0,[],[]),(1,[],[]),(2,[],[]),(3,[],[]),(4,[],[]),(5,[],[]),(8,[],[]),(9,[],[]),(10,[],[]),(11,[],[]),(6,[11],[]),(7,[11],[]),(12,[],[]),(13,[],[]),(14,[],[]),(15,[],[])])],[(4,[0,1,2,3,9]),(8,[0,3,9,10,11,28,29]),(10,[0,9,10])],[]⟩
def an36 : Ann := ⟨[],[],[],[]⟩
def an37 : Ann := ⟨[],[],[],[]⟩
def an38 : Ann := ⟨[],[],[],[]⟩
def an39 : Ann := ⟨[],[(3,[(0,[],[]),(1,[],[]),(2,[],[]),(3,[],[]),(4,[],[]),(5,[],[]),(6,[],[]),(7,[],[]),(8,[],[])]),(5,[(0,[],[]),(1,[],[]),(2,[],[]),(3,[],[]),(4,[],[]),(5,[],[]),(6,[],[]),(7,[],[]),(8,[],[]),(9,[4],[]),(10,[],[]),(11,[],[]),(12,[],[]),(13,[],[])])],[(5,[0,1,5,7])],[]⟩
def an40 : Ann := ⟨[],[],[],[]⟩
def an41 : Ann := ⟨[],[],[],[]⟩
def an42 : Ann := ⟨[],[],[],[]⟩
def an43 : Ann := ⟨[],[],[],[]⟩
def an44 : Ann := ⟨[],[],[],[]⟩
def an45 : Ann := ⟨[],[],[],[]⟩
def an46 : Ann := ⟨[(25,[3,10])],[(1,[(0,[],[]),(1,[],[]),(2,[],[]),(3,[],[]),(4,[],[]),(5,[3],[]),(6,[],[]),(7,[],[])]),(4,[(0,[],[]),(1,[],[]),(2,[],[]),(3,[],[]),(4,[],[]),(5,[],[]),(6,[],[]),(8,[],[]),(9,[],[]),(10,[],[]),(11,[],[]),(12,[],[]),(7,[11,12],[]),(13,[11],[]),(14,[],[]),(15,[],[]),(16,[],[])]),(7,[(0,[],[]),(1,[],[]),(2,[],[]),(3,[],[]),(4,[],[]),(5,[3],[]),(6,[],[]),(7,[],[]),(8,[],[]),(9,[],[]),(10,[],[]),(11,[],[])]),(10,[(0,[],[]),(1,[],[]),(2,[],[]),(3,[],[]),(4,[],[]),(6,[],[]),(7,[],[]),(8,[],[]),(9,[],[]),(10,[],[]),(5,[9,10],[]),(11,[9],[]),(12,[],[]),(13,[],[]),(14,[],[])]),(14,[(0,[],[]),(1,[],[]),(2,[],[]),(3,[],[]),(4,[],[]),(5,[],[]),(6,[],[]),(7,[],[]),(8,[],[]),(9,[],[]),(10,[],[]),(11,[],[]),(14,[],[]),(15,[],[]),(16,[],[]),(17,[],[]),(12,[3,6,17],[]),(13,[3,6,17],[]),(18,[3,6],[]),(19,[],[]),(20,[],[])]),(16,[(0,[],[]),(1,[],[]),(2,[],[]),(3,[],[]),(4,[],[]),(5,[],[]),(6,[],[]),(7,[],[]),(8,[],[]),(9,[],[]),(10,[],[]),(11,[],[]),(12,[],[]),(15,[],[]),(16,[],[]),(17,[],[]),(18,[],[]),(19,[],[]),(13,[3,6,18,19],[]),(14,[3,6,18,19],[]),(20,[3,6,18],[]),(21,[3,6],[]),(22,[],[]),(23,[],[])]),(27,[(0,[],[]),(1,[],[]),(2,[],[]),(3,[],[]),(4,[],[]),(5,[],[]),(6,[],[]),(7,[],[]),(8,[],[]),(9,[],[]),(10,[],[])]),(29,[(0,[],[]),(1,[],[]),(2,[],[]),(3,[],[]),(4,[],[]),(5,[],[]),(6,[],[]),(7,[],[]),(8,[],[]),(9,[],[]),(10,[],[]),(11,[],[]),(12,[],[]),(13,[],[]),(14,[],[]),(15,[],[]),(16,[],[]),(17,[],[]),(19,[],[]),(20,[],[]),(21,[],[]),(22,[],[]),(18,[9,12,22],[]),(23,[9,12],[]),(24,[],[]),(25,[],[]),(26,[],[]),(27,[],[]),(28,[],[]),(29,[],[]),(30,[],[]),(31,[],[]),(32,[],[]),(33,[],[]),(34,[],[]),(35,[],[]),(36,[],[]),(37,[],[]),(38,[],[]),(40,[],[]),(41,[],[]),(42,[],[]),(43,[],[]),(39,[30,33,43],[]),(44,[30,33],[]),(45,[],[]),(46,[],[]),(47,[],[]),(48,[],[])]),(33,[(0,[],[]),(1,[],[]),(2,[],[]),(3,[],[]),(4,[],[]),(5,[],[]),(6,[],[]),(7,[],[]),(8,[],[]),(9,[],[]),(10,[],[]),(11,[],[]),(12,[],[]),(13,[],[]),(14,[],[]),(15,[],[]),(16,[],[]),(17,[],[]),(19,[],[]),(20,[],[]),(21,[],[]),(22,[],[]),(23,[],[]),(24,[],[]),(25,[],[]),(26,[],[]),(18,[9,12,22,26],[]),(27,[9,12],[]),(28,[],[]),(29,[],[]),(30,[],[]),(31,[],[]),(32,[],[]),(33,[],[]),(34,[],[]),(35,[],[]),(36,[],[]),(37,[],[]),(38,[],[]),(39,[],[]),(40,[],[]),(41,[],[]),(42,[],[]),(44,[],[]),(45,[],[]),(46,[],[]),(47,[],[]),(48,[],[]),(49,[],[]),(50,[],[]),(51,[],[]),(43,[34,37,47,51],[]),(52,[34,37],[]),(53,[],[]),(54,[],[]),(55,[],[]),(56,[],[])])],[(24,[0,3,10,11]),(25,[0,10]),(31,[0]),(35,[0,3,5])],[79,86]⟩
def an47 : Ann := ⟨[],[(6,[(0,[],[]),(1,[],[]),(2,[],[]),(3,[],[]),(5,[],[]),(4,[],[]),(6,[],[]),(7,[],[]),(8,[],[]),(9,[],[]),(10,[],[]),(11,[],[]),(12,[],[]),(13,[],[]),(14,[],[]),(15,[],[]),(16,[],[]),(17,[],[]),(18,[],[]),(19,[],[]),(20,[],[]),(21,[],[]),(22,[],[]),(23,[],[]),(26,[],[]),(27,[],[]),(28,[],[]),(29,[],[]),(30,[],[]),(31,[],[]),(32,[],[]),(33,[],[]),(24,[14,17,29,32],[]),(25,[14,17,29,32],[]),(34,[],[]),(35,[],[]),(36,[],[])])],[(6,[0,3,4,5,6])],[]⟩
def an48 : Ann := ⟨[(4,[0,1,2,7])],[(6,[(0,[],[]),(1,[],[]),(2,[],[]),(3,[],[]),(4,[],[]),(5,[],[]),(6,[],[]),(7,[],[]),(8,[],[]),(9,[],[]),(10,[],[]),(11,[],[])]),(8,[(0,[],[]),(1,[],[]),(2,[],[]),(3,[],[]),(4,[],[]),(5,[],[]),(6,[],[]),(7,[],[]),(8,[],[]),(9,[],[]),(10,[],[]),(11,[],[])]),(10,[(0,[],[]),(1,[],[]),(2,[],[]),(3,[],[]),(4,[],[]),(5,[],[]),(6,[],[]),(7,[],[]),(8,[],[]),(9,[],[]),(10,[],[]),(11,[],[]),(12,[],[]),(13,[],[]),(14,[],[]),(15,[],[]),(16,[],[]),(17,[],[]),(18,[],[]),(19,[],[]),(20,[],[]),(21,[],[]),(22,[],[]),(23,[],[]),(24,[],[]),(25,[],[]),(26,[],[]),(27,[],[]),(28,[],[]),(29,[],[]),(30,[],[]),(31,[],[]),(32,[],[]),(33,[],[]),(34,[],[]),(35,[],[]),(36,[],[]),(37,[],[])]),(11,[(0,[],[]),(1,[],[]),(2,[],[]),(3,[],[]),(4,[],[]),(5,[],[]),(6,[],[]),(7,[],[]),(8,[],[]),(9,[],[]),(10,[],[]),(11,[],[]),(12,[],[]),(13,[],[]),(14,[],[])])],[(3,[0,1,2]),(6,[0,1,2,7]),(9,[0,1,2,7,8]),(11,[0,1,2,7,8]),(13,[])],[]⟩
def an49 : Ann := ⟨[(7,[2,5])],[(7,[(0,[],[]),(1,[],[]),(2,[],[]),(3,[],[]),(4,[],[]),(5,[],[]),(6,[],[]),(7,[0],[]),(8,[0],[]),(9,[],[]),(10,[],[])])],[(7,[5])],[79,86]⟩
def an50 : Ann := ⟨[],[],[],[]⟩
def an51 : Ann := ⟨[],[],[],[]⟩
def an52 : Ann := ⟨[],[],[],[]⟩
def an53 : Ann := ⟨[],[(11,[(0,[],[]),(1,[],[]),(2,[],[]),(3,[],[]),(4,[],[]),(5,[],[]),(6,[],[]),(7,[],[]),(8,[],[])]),(15,[(0,[],[]),(1,[],[]),(2,[],[]),(3,[],[]),(4,[],[]),(5,[],[]),(6,[],[]),(7,[],[]),(8,[],[])])],[(5,[0,1,2,7]),(8,[0,1,2,7,8]),(13,[0,1,2,7,8]),(18,[0,1,2,7,8])],[]⟩
def an54 : Ann := ⟨[],[(5,[(0,[],[]),(1,[],[]),(2,[],[]),(3,[],[]),(4,[],[]),(5,[],[]),(6,[],[]),(7,[],[])])],[(4,[0,1,2])],[]⟩
def an55 : Ann := ⟨[],[],[],[]⟩
def an56 : Ann := ⟨[],[],[],[]⟩
def an57 : Ann := ⟨[(1,[0,2,3])],[(3,[(0,[],[]),(1,[],[]),(2,[],[]),(3,[],[]),(4,[],[]),(5,[],[]),(6,[],[]),(7,[],[]),(8,[],[]),(9,[],[]),(10,[],[]),(11,[],[]),(12,[],[]),(13,[],[]),(14,[],[]),(15,[],[])])],[(3,[0,2,3])],[]⟩
def an58 : Ann := ⟨[(1,[0,2,3])],[(3,[(0,[],[]),(1,[],[]),(2,[],[]),(3,[],[]),(4,[],[]),(5,[],[]),(6,[],[]),(7,[],[]),(8,[],[]),(9,[],[]),(10,[],[]),(11,[],[]),(12,[],[]),(13,[],[]),(14,[],[]),(15,[],[])])],[(3,[0,2,3])],[]⟩
def an59 : Ann := ⟨[],[],[],[]⟩
def an60 : Ann := ⟨[],[],[(5,[0,1,2,7])],[]⟩
def an61 : Ann := ⟨[],[(3,[(0,[],[]),(1,[],[]),(2,[],[]),(3,[],[]),(4,[],[]),(5,[],[]),(6,[],[]),(7,[],[]),(8,[],[]),(9,[],[])])],[(5,[0,3,5])],[]⟩
def an62 : Ann := ⟨[],[],[(5,[0,6])],[]⟩
def an63 : Ann := ⟨[],[],[(4,[0,6])],[]⟩
def an64 : Ann := ⟨[],[],[],[]⟩
def an65 : Ann := ⟨[],[],[],[]⟩
def an66 : Ann := ⟨[],[],[],[]⟩
def an67 : Ann := ⟨[],[],[],[]⟩
def an70 : Ann := ⟨[],[(5,[(0,[],[]),(1,[],[]),(2,[],[]),(3,[],[]),(4,[],[]),(5,[],[]),(6,[],[]),(7,[],[]),(8,[],[]),(9,[],[]),(10,[],[]),(11,[],[]),(12,[],[]),(13,[],[]),(14,[10,13],[]),(15,[],[]),(16,[],[])])],[(5,[0])],[]⟩
def an71 : Ann := ⟨[],[],[],[]⟩
def an72 : Ann := ⟨[],[],[],[]⟩
def an73 : Ann := ⟨[],[],[],[]⟩
def an74 : Ann := ⟨[(3,[0,1,2,8,9,10])],[],[(4,[0,1,2,8,9,10]),(8,[0,1,2,8,9])],[]⟩
def an75 : Ann := ⟨[],[],[],[]⟩
def an76 : Ann := ⟨[],[],[],[]⟩
def an78 : Ann := ⟨[],[],[],[]⟩
def an79 : Ann := ⟨[(1,[0,13,14,15])],[(0,[(0,[],[]),(1,[],[]),(2,[],[]),(3,[],[]),(4,[],[]),(9,[],[]),(5,[0,3],[]),(6,[],[]),(7,[],[]),(8,[],[])])],[(2,[0,13,14,15,16])],[]⟩
def an80 : Ann := ⟨[],[],[],[]⟩
def an81 : Ann := ⟨[],[],[],[]⟩
def an82 : Ann := ⟨[],[(11,[(0,[],[]),(1,[],[]),(2,[],[]),(3,[],[]),(4,[],[]),(5,[],[]),(6,[],[]),(7,[],[]),(8,[],[])]),(15,[(0,[],[]),(1,[],[]),(2,[],[]),(3,[],[]),(4,[],[]),(5,[],[]),(6,[],[]),(7,[],[]),(8,[],[])])],[(5,[0,1,2,7]),(8,[0,1,2,7,8]),(13,[0,1,2,7,8]),(18,[0,1,2,7,8])],[]⟩
def an83 : Ann := ⟨[(2,[0,3,6])],[(2,[(0,[],[]),(1,[],[]),(2,[],[]),(3,[],[]),(4,[],[]),(5,[],[]),(6,[],[]),(7,[],[]),(8,[],[]),(9,[],[]),(10,[],[]),(11,[],[]),(12,[],[]),(13,[],[]),(14,[],[]),(15,[],[]),(16,[],[]),(17,[],[]),(18,[],[]),(19,[],[]),(20,[],[]),(21,[],[])]),(4,[(0,[],[]),(1,[],[]),(2,[],[]),(3,[],[]),(4,[],[]),(5,[],[]),(6,[],[]),(7,[],[]),(8,[],[]),(9,[],[]),(10,[],[]),(11,[],[]),(12,[],[]),(13,[],[]),(14,[],[]),(15,[],[]),(16,[],[]),(17,[],[]),(18,[],[]),(19,[],[]),(20,[],[]),(21,[],[]),(22,[],[]),(23,[],[]),(24,[],[]),(25,[],[])])],[(4,[0,3,6])],[]⟩
def an84 : Ann := ⟨[],[(5,[(0,[],[]),(1,[],[]),(2,[],[]),(3,[],[]),(4,[],[]),(5,[],[]),(6,[],[]),(7,[],[])])],[(4,[0,1,2])],[]⟩
def an85 : Ann := ⟨[],[],[],[]⟩
def an86 : Ann := ⟨[(1,[0,13,14,15])],[(0,[(0,[],[]),(1,[],[]),(2,[],[]),(3,[],[]),(4,[],[]),(9,[],[]),(5,[0,3],[]),(6,[],[]),(7,[],[]),(8,[],[])])],[(2,[0,13,14,15,16])],[]⟩
def an87 : Ann := ⟨[],[],[],[]⟩
def an88 : Ann := ⟨[],[],[],[]⟩
def an89 : Ann := ⟨[],[],[],[]⟩
def an90 : Ann := ⟨[(3,[0,1,2,8,9,10])],[],[(4,[0,1,2,8,9,10]),(8,[0,1,2,8,9])],[]⟩
def an91 : Ann := ⟨[],[],[],[]⟩
def an93 : Ann := ⟨[],[],[],[]⟩
def an94 : Ann := ⟨[],[],[(6,[4,5]),(8,[4,5])],[]⟩
def an95 : Ann := ⟨[(1,[0,2,3])],[(3,[(0,[],[]),(1,[],[]),(2,[],[]),(3,[],[]),(4,[],[]),(5,[],[]),(6,[],[]),(7,[],[]),(8,[],[]),(9,[],[]),(10,[],[]),(11,[],[]),(12,[],[]),(13,[],[]),(14,[],[]),(15,[],[])])],[(3,[0,2,3])],[]⟩
def an96 : Ann := ⟨[],[],[],[]⟩
def an97 : Ann := ⟨[(1,[0,2,3])],[(3,[(0,[],[]),(1,[],[]),(2,[],[]),(3,[],[]),(4,[],[]),(5,[],[]),(6,[],[]),(7,[],[]),(8,[],[]),(9,[],[]),(10,[],[]),(11,[],[]),(12,[],[]),(13,[],[]),(14,[],[]),(15,[],[])])],[(3,[0,2,3])],[]⟩
noncomputable def tab : Tab := fun f => match f with
  | 3 => some (Tryz.f3,an3)
  | 4 => some (Tryz.f4,an4)
  | 5 => some (Tryz.f5,an5)
  | 6 => some (Tryz.f6,an6)
  | 7 => some (Tryz.f7,an7)
  | 8 => some (Tryz.f8,an8)
  | 9 => some (Tryz.f9,an9)
  | 10 => some (Tryz.f10,an10)
  | 11 => some (Tryz.f11,an11)
  | 12 => some (Tryz.f12,an12)
  | 13 => some (Tryz.f13,an13)
  | 14 => some (Tryz.f14,an14)
  | 15 => some (Tryz.f15,an15)
  | 16 => some (Tryz.f16,an16)
  | 17 => some (Tryz.f17,an17)
  | 18 => some (Tryz.f18,an18)
  | 19 => some (Tryz.f19,an19)
  | 20 => some (Tryz.f20,an20)
  | 21 => some (Tryz.f21,an21)
  | 22 => some (Tryz.f22,an22)
  | 23 => some (Tryz.f23,an23)
  | 24 => some (Tryz.f24,an24)
  | 25 => some (Tryz.f25,an25)
  | 26 => some (Tryz.f26,an26)
  | 27 => some (Tryz.f27,an27)
  | 29 => some (Tryz.f29,an29)
  | 30 => some (Tryz.f30,an30)
  | 31 => some (Tryz.f31,an31)
  | 33 => some (Tryz.f33,an33)
  | 34 => some (Tryz.f34,an34)
  | 35 => some (Tryz.f35,an35)
  | 36 => some (Tryz.f36,an36)
  | 37 => some (Tryz.f37,an37)
  | 38 => some (Tryz.f38,an38)
  | 39 => some (Tryz.f39,an39)
  | 40 => some (Tryz.f40,an40)
  | 41 => some (Tryz.f41,an41)
  | 42 => some (Tryz.f42,an42)
  | 43 => some (Tryz.f43,an43)
  | 44 => some (Tryz.f44,an44)
  | 45 => some (Tryz.f45,an45)
  | 46 => some (Tryz.f46,an46)
  | 47 => some (Tryz.f47,an47)
  | 48 => some (Tryz.f48,an48)
  | 49 => some (Tryz.f49,an49)
  | 50 => some (Tryz.f50,an50)
  | 51 => some (Tryz.f51,an51)
  | 52 => some (Tryz.f52,an52)
  | 53 => some (Tryz.f53,an53)
  | 54 => some (Tryz.f54,an54)
  | 55 => some (Tryz.f55,an55)
  | 56 => some (Tryz.f56,an56)
  | 57 => some (Tryz.f57,an57)
  | 58 => some (Tryz.f58,an58)
  | 59 => some (Tryz.f59,an59)
  | 60 => some (Tryz.f60,an60)
  | 61 => some (Tryz.f61,an61)
  | 62 => some (Tryz.f62,an62)
  | 63 => some (Tryz.f63,an63)
  | 64 => some (Tryz.f64,an64)
  | 65 => some (Tryz.f65,an65)
  | 66 => some (Tryz.f66,an66)
  | 67 => some (Tryz.f67,an67)
  | 70 => some (Tryz.f70,an70)
  | 71 => some (Tryz.f71,an71)
  | 72 => some (Tryz.f72,an72)
  | 73 => some (Tryz.f73,an73)
  | 74 => some (Tryz.f74,an74)
  | 75 => some (Tryz.f75,an75)
  | 76 => some (Tryz.f76,an76)
  | 78 => some (Tryz.f78,an78)
  | 79 => some (Tryz.f79,an79)
  | 80 => some (Tryz.f80,an80)
  | 81 => some (Tryz.f81,an81)
  | 82 => some (Tryz.f82,an82)
  | 83 => some (Tryz.f83,an83)
  | 84 => some (Tryz.f84,an84)
  | 85 => some (Tryz.f85,an85)
  | 86 => some (Tryz.f86,an86)
  | 87 => some (Tryz.f87,an87)
  | 88 => some (Tryz.f88,an88)
  | 89 => some (Tryz.f89,an89)
  | 90 => some (Tryz.f90,an90)
  | 91 => some (Tryz.f91,an91)
  | 93 => some (Tryz.f93,an93)
  | 94 => some (Tryz.f94,an94)
  | 95 => some (Tryz.f95,an95)
  | 96 => some (Tryz.f96,an96)
  | 97 => some (Tryz.f97,an97)
  | _ => none
theorem ok3 : fnOk Tryz.prog 0 an3 3 Tryz.f3 := ⟨Tryz.func3,by kernel_rfl,by kernel_rfl,by kernel_rfl,by kernel_rfl⟩
theorem ok4 : fnOk Tryz.prog 0 an4 4 Tryz.f4 := ⟨Tryz.func4,by kernel_rfl,by kernel_rfl,by kernel_rfl,by kernel_rfl⟩
theorem ok5 : fnOk Tryz.prog 0 an5 5 Tryz.f5 := ⟨Tryz.func5,by kernel_rfl,by kernel_rfl,by kernel_rfl,by kernel_rfl⟩
theorem ok6 : fnOk Tryz.prog 0 an6 6 Tryz.f6 := ⟨Tryz.func6,by kernel_rfl,by kernel_rfl,by kernel_rfl,by kernel_rfl⟩
theorem ok7 : fnOk Tryz.prog 0 an7 7 Tryz.f7 := ⟨Tryz.func7,by kernel_rfl,by kernel_rfl,by kernel_rfl,by kernel_rfl⟩
theorem ok8 : fnOk Tryz.prog 0 an8 8 Tryz.f8 := ⟨Tryz.func8,by kernel_rfl,by kernel_rfl,by kernel_rfl,by kernel_rfl⟩
theorem ok9 : fnOk Tryz.prog 0 an9 9 Tryz.f9 := ⟨Tryz.func9,by kernel_rfl,by kernel_rfl,by kernel_rfl,by kernel_rfl⟩
theorem ok10 : fnOk Tryz.prog 0 an10 10 Tryz.f10 := ⟨Tryz.func10,by kernel_rfl,by kernel_rfl,by kernel_rfl,by kernel_rfl⟩
theorem ok11 : fnOk Tryz.prog 0 an11 11 Tryz.f11 := ⟨Tryz.func11,by kernel_rfl,by kernel_rfl,by kernel_rfl,by kernel_rfl⟩
theorem ok12 : fnOk Tryz.prog 0 an12 12 Tryz.f12 := ⟨Tryz.func12,by kernel_rfl,by kernel_rfl,by kernel_rfl,by kernel_rfl⟩
theorem ok13 : fnOk Tryz.prog 0 an13 13 Tryz.f13 := ⟨Tryz.func13,by kernel_rfl,by kernel_rfl,by kernel_rfl,by kernel_rfl⟩
theorem ok14 : fnOk Tryz.prog 0 an14 14 Tryz.f14 := ⟨Tryz.func14,by kernel_rfl,by kernel_rfl,by kernel_rfl,by kernel_rfl⟩
theorem ok15 : fnOk Tryz.prog 0 an15 15 Tryz.f15 := ⟨Tryz.func15,by kernel_rfl,by kernel_rfl,by kernel_rfl,by kernel_rfl⟩
theorem ok16 : fnOk Tryz.prog 0 an16 16 Tryz.f16 := ⟨Tryz.func16,by kernel_rfl,by kernel_rfl,by kernel_rfl,by kernel_rfl⟩
theorem ok17 : fnOk Tryz.prog 0 an17 17 Tryz.f17 := ⟨Tryz.func17,by kernel_rfl,by kernel_rfl,by kernel_rfl,by kernel_rfl⟩
theorem ok18 : fnOk Tryz.prog 0 an18 18 Tryz.f18 := ⟨Tryz.func18,by kernel_rfl,by kernel_rfl,by kernel_rfl,by kernel_rfl⟩
theorem ok19 : fnOk Tryz.prog 0 an19 19 Tryz.f19 := ⟨Tryz.func19,by kernel_rfl,by kernel_rfl,by kernel_rfl,by kernel_rfl⟩
theorem ok20 : fnOk Tryz.prog 0 an20 20 Tryz.f20 := ⟨Tryz.func20,by kernel_rfl,by kernel_rfl,by kernel_rfl,by kernel_rfl⟩
theorem ok21 : fnOk Tryz.prog 0 an21 21 Tryz.f21 := ⟨Tryz.func21,by kernel_rfl,by kernel_rfl,by kernel_rfl,by kernel_rfl⟩
theorem ok22 : fnOk Tryz.prog 0 an22 22 Tryz.f22 := ⟨Tryz.func22,by kernel_rfl,by kernel_rfl,by kernel_rfl,by kernel_rfl⟩
theorem ok23 : fnOk Tryz.prog 0 an23 23 Tryz.f23 := ⟨Tryz.func23,by kernel_rfl,by kernel_rfl,by kernel_rfl,by kernel_rfl⟩
theorem ok24 : fnOk Tryz.prog 0 an24 24 Tryz.f24 := ⟨Tryz.func24,by kernel_rfl,by kernel_rfl,by kernel_rfl,by kernel_rfl⟩
theorem ok25 : fnOk Tryz.prog 0 an25 25 Tryz.f25 := ⟨Tryz.func25,by kernel_rfl,by kernel_rfl,by kernel_rfl,by kernel_rfl⟩
theorem ok26 : fnOk Tryz.prog 0 an26 26 Tryz.f26 := ⟨Tryz.func26,by kernel_rfl,by kernel_rfl,by kernel_rfl,by kernel_rfl⟩
theorem ok27 : fnOk Tryz.prog 0 an27 27 Tryz.f27 := ⟨Tryz.func27,by kernel_rfl,by kernel_rfl,by kernel_rfl,by kernel_rfl⟩
theorem ok29 : fnOk Tryz.prog 0 an29 29 Tryz.f29 := ⟨Tryz.func29,by kernel_rfl,by kernel_rfl,by kernel_rfl,by kernel_rfl⟩
theorem ok30 : fnOk Tryz.prog 0 an30 30 Tryz.f30 := ⟨Tryz.func30,by kernel_rfl,by kernel_rfl,by kernel_rfl,by kernel_rfl⟩
theorem ok31 : fnOk Tryz.prog 0 an31 31 Tryz.f31 := ⟨Tryz.func31,by kernel_rfl,by kernel_rfl,by kernel_rfl,by kernel_rfl⟩
theorem ok33 : fnOk Tryz.prog 0 an33 33 Tryz.f33 := ⟨Tryz.func33,by kernel_rfl,by kernel_rfl,by kernel_rfl,by kernel_rfl⟩
theorem ok34 : fnOk Tryz.prog 0 an34 34 Tryz.f34 := ⟨Tryz.func34,by kernel_rfl,by kernel_rfl,by kernel_rfl,by kernel_rfl⟩
theorem ok35 : fnOk Tryz.prog 0 an35 35 Tryz.f35 := ⟨Tryz.func35,by kernel_rfl,by kernel_rfl,by kernel_rfl,by kernel_rfl⟩
theorem ok36 : fnOk Tryz.prog 0 an36 36 Tryz.f36 := ⟨Tryz.func36,by kernel_rfl,by kernel_rfl,by kernel_rfl,by kernel_rfl⟩
theorem ok37 : fnOk Tryz.prog 0 an37 37 Tryz.f37 := ⟨Tryz.func37,by kernel_rfl,by kernel_rfl,by kernel_rfl,by kernel_rfl⟩
theorem ok38 : fnOk Tryz.prog 0 an38 38 Tryz.f38 := ⟨Tryz.func38,by kernel_rfl,by kernel_rfl,by kernel_rfl,by kernel_rfl⟩
theorem ok39 : fnOk Tryz.prog 0 an39 39 Tryz.f39 := ⟨Tryz.func39,by kernel_rfl,by kernel_rfl,by kernel_rfl,by kernel_rfl⟩
theorem ok40 : fnOk Tryz.prog 0 an40 40 Tryz.f40 := ⟨Tryz.func40,by kernel_rfl,by kernel_rfl,by kernel_rfl,by kernel_rfl⟩
theorem ok41 : fnOk Tryz.prog 0 an41 41 Tryz.f41 := ⟨Tryz.func41,by kernel_rfl,by kernel_rfl,by kernel_rfl,by kernel_rfl⟩
theorem ok42 : fnOk Tryz.prog 0 an42 42 Tryz.f42 := ⟨Tryz.func42,by kernel_rfl,by kernel_rfl,by kernel_rfl,by kernel_rfl⟩
theorem ok43 : fnOk Tryz.prog 0 an43 43 Tryz.f43 := ⟨Tryz.func43,by kernel_rfl,by kernel_rfl,by kernel_rfl,by kernel_rfl⟩
theorem ok44 : fnOk Tryz.prog 0 an44 44 Tryz.f44 := ⟨Tryz.func44,by kernel_rfl,by kernel_rfl,by kernel_rfl,by kernel_rfl⟩
theorem ok45 : fnOk Tryz.prog 0 an45 45 Tryz.f45 := ⟨Tryz.func45,by kernel_rfl,by kernel_rfl,by kernel_rfl,by kernel_rfl⟩
theorem ok46 : fnOk Tryz.prog 0 an46 46 Tryz.f46 := ⟨Tryz.func46,by kernel_rfl,by kernel_rfl,by kernel_rfl,by kernel_rfl⟩
theorem ok47 : fnOk Tryz.prog 0 an47 47 Tryz.f47 := ⟨Tryz.func47,by kernel_rfl,by kernel_rfl,by kernel_rfl,by kernel_rfl⟩
theorem ok48 : fnOk Tryz.prog 0 an48 48 Tryz.f48 := ⟨Tryz.func48,by kernel_rfl,by kernel_rfl,by kernel_rfl,by kernel_rfl⟩
theorem ok49 : fnOk Tryz.prog 0 an49 49 Tryz.f49 := ⟨Tryz.func49,by kernel_rfl,by kernel_rfl,by kernel_rfl,by kernel_rfl⟩
theorem ok50 : fnOk Tryz.prog 0 an50 50 Tryz.f50 := ⟨Tryz.func50,by kernel_rfl,by kernel_rfl,by kernel_rfl,by kernel_rfl⟩
theorem ok51 : fnOk Tryz.prog 0 an51 51 Tryz.f51 := ⟨Tryz.func51,by kernel_rfl,by kernel_rfl,by kernel_rfl,by kernel_rfl⟩
theorem ok52 : fnOk Tryz.prog 0 an52 52 Tryz.f52 := ⟨Tryz.func52,by kernel_rfl,by kernel_rfl,by kernel_rfl,by kernel_rfl⟩
theorem ok53 : fnOk Tryz.prog 0 an53 53 Tryz.f53 := ⟨Tryz.func53,by kernel_rfl,by kernel_rfl,by kernel_rfl,by kernel_rfl⟩
theorem ok54 : fnOk Tryz.prog 0 an54 54 Tryz.f54 := ⟨Tryz.func54,by kernel_rfl,by kernel_rfl,by kernel_rfl,by kernel_rfl⟩
theorem ok55 : fnOk Tryz.prog 0 an55 55 Tryz.f55 := ⟨Tryz.func55,by kernel_rfl,by kernel_rfl,by kernel_rfl,by kernel_rfl⟩
theorem ok56 : fnOk Tryz.prog 0 an56 56 Tryz.f56 := ⟨Tryz.func56,by kernel_rfl,by kernel_rfl,by kernel_rfl,by kernel_rfl⟩
theorem ok57 : fnOk Tryz.prog 0 an57 57 Tryz.f57 := ⟨Tryz.func57,by kernel_rfl,by kernel_rfl,by kernel_rfl,by kernel_rfl⟩
theorem ok58 : fnOk Tryz.prog 0 an58 58 Tryz.f58 := ⟨Tryz.func58,by kernel_rfl,by kernel_rfl,by kernel_rfl,by kernel_rfl⟩
theorem ok59 : fnOk Tryz.prog 0 an59 59 Tryz.f59 := ⟨Tryz.func59,by kernel_rfl,by kernel_rfl,by kernel_rfl,by kernel_rfl⟩
theorem ok60 : fnOk Tryz.prog 0 an60 60 Tryz.f60 := ⟨Tryz.func60,by kernel_rfl,by kernel_rfl,by kernel_rfl,by kernel_rfl⟩
theorem ok61 : fnOk Tryz.prog 0 an61 61 Tryz.f61 := ⟨Tryz.func61,by kernel_rfl,by kernel_rfl,by kernel_rfl,by kernel_rfl⟩
theorem ok62 : fnOk Tryz.prog 0 an62 62 Tryz.f62 := ⟨Tryz.func62,by kernel_rfl,by kernel_rfl,by kernel_rfl,by kernel_rfl⟩
theorem ok63 : fnOk Tryz.prog 0 an63 63 Tryz.f63 := ⟨Tryz.func63,by kernel_rfl,by kernel_rfl,by kernel_rfl,by kernel_rfl⟩
theorem ok64 : fnOk Tryz.prog 0 an64 64 Tryz.f64 := ⟨Tryz.func64,by kernel_rfl,by kernel_rfl,by kernel_rfl,by kernel_rfl⟩
theorem ok65 : fnOk Tryz.prog 0 an65 65 Tryz.f65 := ⟨Tryz.func65,by kernel_rfl,by kernel_rfl,by kernel_rfl,by kernel_rfl⟩
theorem ok66 : fnOk Tryz.prog 0 an66 66 Tryz.f66 := ⟨Tryz.func66,by kernel_rfl,by kernel_rfl,by kernel_rfl,by kernel_rfl⟩
theorem ok67 : fnOk Tryz.prog 0 an67 67 Tryz.f67 := ⟨Tryz.func67,by kernel_rfl,by kernel_rfl,by kernel_rfl,by kernel_rfl⟩
theorem ok70 : fnOk Tryz.prog 0 an70 70 Tryz.f70 := ⟨Tryz.func70,by kernel_rfl,by kernel_rfl,by kernel_rfl,by kernel_rfl⟩
theorem ok71 : fnOk Tryz.prog 0 an71 71 Tryz.f71 := ⟨Tryz.func71,by kernel_rfl,by kernel_rfl,by kernel_rfl,by kernel_rfl⟩
theorem ok72 : fnOk Tryz.prog 0 an72 72 Tryz.f72 := ⟨Tryz.func72,by kernel_rfl,by kernel_rfl,by kernel_rfl,by kernel_rfl⟩
theorem ok73 : fnOk Tryz.prog 0 an73 73 Tryz.f73 := ⟨Tryz.func73,by kernel_rfl,by kernel_rfl,by kernel_rfl,by kernel_rfl⟩
theorem ok74 : fnOk Tryz.prog 0 an74 74 Tryz.f74 := ⟨Tryz.func74,by kernel_rfl,by kernel_rfl,by kernel_rfl,by kernel_rfl⟩
theorem ok75 : fnOk Tryz.prog 0 an75 75 Tryz.f75 := ⟨Tryz.func75,by kernel_rfl,by kernel_rfl,by kernel_rfl,by kernel_rfl⟩
theorem ok76 : fnOk Tryz.prog 0 an76 76 Tryz.f76 := ⟨Tryz.func76,by kernel_rfl,by kernel_rfl,by kernel_rfl,by kernel_rfl⟩
theorem ok78 : fnOk Tryz.prog 0 an78 78 Tryz.f78 := ⟨Tryz.func78,by kernel_rfl,by kernel_rfl,by kernel_rfl,by kernel_rfl⟩
theorem ok79 : fnOk Tryz.prog 0 an79 79 Tryz.f79 := ⟨Tryz.func79,by kernel_rfl,by kernel_rfl,by kernel_rfl,by kernel_rfl⟩
theorem ok80 : fnOk Tryz.prog 0 an80 80 Tryz.f80 := ⟨Tryz.func80,by kernel_rfl,by kernel_rfl,by kernel_rfl,by kernel_rfl⟩
theorem ok81 : fnOk Tryz.prog 0 an81 81 Tryz.f81 := ⟨Tryz.func81,by kernel_rfl,by kernel_rfl,by kernel_rfl,by kernel_rfl⟩
theorem ok82 : fnOk Tryz.prog 0 an82 82 Tryz.f82 := ⟨Tryz.func82,by kernel_rfl,by kernel_rfl,by kernel_rfl,by kernel_rfl⟩
theorem ok83 : fnOk Tryz.prog 0 an83 83 Tryz.f83 := ⟨Tryz.func83,by kernel_rfl,by kernel_rfl,by kernel_rfl,by kernel_rfl⟩
theorem ok84 : fnOk Tryz.prog 0 an84 84 Tryz.f84 := ⟨Tryz.func84,by kernel_rfl,by kernel_rfl,by kernel_rfl,by kernel_rfl⟩
theorem ok85 : fnOk Tryz.prog 0 an85 85 Tryz.f85 := ⟨Tryz.func85,by kernel_rfl,by kernel_rfl,by kernel_rfl,by kernel_rfl⟩
theorem ok86 : fnOk Tryz.prog 0 an86 86 Tryz.f86 := ⟨Tryz.func86,by kernel_rfl,by kernel_rfl,by kernel_rfl,by kernel_rfl⟩
theorem ok87 : fnOk Tryz.prog 0 an87 87 Tryz.f87 := ⟨Tryz.func87,by kernel_rfl,by kernel_rfl,by kernel_rfl,by kernel_rfl⟩
theorem ok88 : fnOk Tryz.prog 0 an88 88 Tryz.f88 := ⟨Tryz.func88,by kernel_rfl,by kernel_rfl,by kernel_rfl,by kernel_rfl⟩
theorem ok89 : fnOk Tryz.prog 0 an89 89 Tryz.f89 := ⟨Tryz.func89,by kernel_rfl,by kernel_rfl,by kernel_rfl,by kernel_rfl⟩
theorem ok90 : fnOk Tryz.prog 0 an90 90 Tryz.f90 := ⟨Tryz.func90,by kernel_rfl,by kernel_rfl,by kernel_rfl,by kernel_rfl⟩
theorem ok91 : fnOk Tryz.prog 0 an91 91 Tryz.f91 := ⟨Tryz.func91,by kernel_rfl,by kernel_rfl,by kernel_rfl,by kernel_rfl⟩
theorem ok93 : fnOk Tryz.prog 0 an93 93 Tryz.f93 := ⟨Tryz.func93,by kernel_rfl,by kernel_rfl,by kernel_rfl,by kernel_rfl⟩
theorem ok94 : fnOk Tryz.prog 0 an94 94 Tryz.f94 := ⟨Tryz.func94,by kernel_rfl,by kernel_rfl,by kernel_rfl,by kernel_rfl⟩
theorem ok95 : fnOk Tryz.prog 0 an95 95 Tryz.f95 := ⟨Tryz.func95,by kernel_rfl,by kernel_rfl,by kernel_rfl,by kernel_rfl⟩
theorem ok96 : fnOk Tryz.prog 0 an96 96 Tryz.f96 := ⟨Tryz.func96,by kernel_rfl,by kernel_rfl,by kernel_rfl,by kernel_rfl⟩
theorem ok97 : fnOk Tryz.prog 0 an97 97 Tryz.f97 := ⟨Tryz.func97,by kernel_rfl,by kernel_rfl,by kernel_rfl,by kernel_rfl⟩
theorem tab_ok : ∀ f fn an,tab f = some (fn,an) → fnOk Tryz.prog 0 an f fn := by
  intro f fn an h
  unfold tab at h
  split at h
  · cases h; exact ok3
  · cases h; exact ok4
  · cases h; exact ok5
  · cases h; exact ok6
  · cases h; exact ok7
  · cases h; exact ok8
  · cases h; exact ok9
  · cases h; exact ok10
  · cases h; exact ok11
  · cases h; exact ok12
  · cases h; exact ok13
  · cases h; exact ok14
  · cases h; exact ok15
  · cases h; exact ok16
  · cases h; exact ok17
  · cases h; exact ok18
  · cases h; exact ok19
  · cases h; exact ok20
  · cases h; exact ok21
  · cases h; exact ok22
  · cases h; exact ok23
  · cases h; exact ok24
  · cases h; exact ok25
  · cases h; exact ok26
  · cases h; exact ok27
  · cases h; exact ok29
  · cases h; exact ok30
  · cases h; exact ok31
  · cases h; exact ok33
  · cases h; exact ok34
  · cases h; exact ok35
  · cases h; exact ok36
  · cases h; exact ok37
  · cases h; exact ok38
  · cases h; exact ok39
  · cases h; exact ok40
  · cases h; exact ok41
  · cases h; exact ok42
  · cases h; exact ok43
  · cases h; exact ok44
  · cases h; exact ok45
  · cases h; exact ok46
  · cases h; exact ok47
  · cases h; exact ok48
  · cases h; exact ok49
  · cases h; exact ok50
  · cases h; exact ok51
  · cases h; exact ok52
  · cases h; exact ok53
  · cases h; exact ok54
  · cases h; exact ok55
  · cases h; exact ok56
  · cases h; exact ok57
  · cases h; exact ok58
  · cases h; exact ok59
  · cases h; exact ok60
  · cases h; exact ok61
  · cases h; exact ok62
  · cases h; exact ok63
  · cases h; exact ok64
  · cases h; exact ok65
  · cases h; exact ok66
  · cases h; exact ok67
  · cases h; exact ok70
  · cases h; exact ok71
  · cases h; exact ok72
  · cases h; exact ok73
  · cases h; exact ok74
  · cases h; exact ok75
  · cases h; exact ok76
  · cases h; exact ok78
  · cases h; exact ok79
  · cases h; exact ok80
  · cases h; exact ok81
  · cases h; exact ok82
  · cases h; exact ok83
  · cases h; exact ok84
  · cases h; exact ok85
  · cases h; exact ok86
  · cases h; exact ok87
  · cases h; exact ok88
  · cases h; exact ok89
  · cases h; exact ok90
  · cases h; exact ok91
  · cases h; exact ok93
  · cases h; exact ok94
  · cases h; exact ok95
  · cases h; exact ok96
  · cases h; exact ok97
  · cases h
end Go.Proofs.YtialpopmeamojaaGreat.K
namespace Go.Proofs.YtialpopmeamojaaGreat.K
open Go Go.Kx
set_option maxRecDepth 20000
set_option linter.unusedVariables false
set_option linter.defProp false
namespace F15
noncomputable section
variable (P : Program) (cl : Cl) (nu mu : Nu) (x0 x1 x2 x7 x8 : Value) (h : H)
noncomputable def s := sub (bodyOf Tryz.f15)
noncomputable def k0 : Ko := kfn P Tryz.f15.results.toList
def j5 := mu 10 (evT P cl an15 nu (s [1,1,1,1]) (k0 P)) [(0,x0),(1,x1),(2,x2),(7,x7)] h
def j8 := mu 16 (evT P cl an15 nu (s [1,1,1,1,1,1]) (k0 P)) [(0,x0),(1,x1),(2,x2),(7,x7),(8,x8)] h
def j13 := mu 26 (evT P cl an15 nu (s [1,1,1,1,1,1,1]) (k0 P)) [(0,x0),(1,x1),(2,x2),(7,x7),(8,x8)] h
def j18 := mu 36 (evT P cl an15 nu (s [1,1,1,1,1,1,1,1,1]) (k0 P)) [(0,x0),(1,x1),(2,x2),(7,x7),(8,x8)] h
theorem j5_eq : j5 P cl nu nu0 x0 x1 x2 x7 h = (xbuiltin P .len [42] [x0] h).go .pan fun t4 h => (xbin P .eql 3 x1 t4 h).go .pan fun t5 h => ifV t5 ((xbuiltin P .append [42,42] [x0,x2] h).go .pan fun t6 h => .ok t6 h) (j8 P cl nu nu x0 x1 x2 x7 t4 h) := by kernel_rfl
theorem j8_eq : j8 P cl nu nu0 x0 x1 x2 x7 x8 h = (xbin P .add 3 x8 x7 h).go .pan fun t7 h => (xbuiltin P .cap [42] [x0] h).go .pan fun t8 h => (xbin P .gtr 3 t7 t8 h).go .pan fun t9 h => ifV t9 ((xslice P 42 x0 none (some x1) none h).go .pan fun t10 h => (xbin P .add 3 x8 x7 h).go .pan fun t11 h => (xbin P .sub 3 t11 x1 h).go .pan fun t12 h => (xbuiltin P .append [42,3] [t10,t12] h).go .pan fun t13 h => (xslice P 42 t13 (some x1) none none h).go .pan fun t14 h => (xbuiltin P .copy [42,42] [t14,x2] h).go .pan fun t15 h => bif plain2 x1 x7 then ((xbin P .add 3 x1 x7 h).ok1 fun t16 h => (xslice P 42 t13 (some t16) none none h).ok1 fun t17 h => (xslice P 42 x0 (some x1) none none h).ok1 fun t18 h => (xbuiltin P .copy [42,42] [t17,t18] h).go .pan fun t19 h => .ok t13 h) else .bad) (j13 P cl nu nu x0 x1 x2 x7 x8 h) := by kernel_rfl
theorem j13_eq : j13 P cl nu nu0 x0 x1 x2 x7 x8 h = (xbin P .add 3 x8 x7 h).go .pan fun t20 h => (xslice P 42 x0 none (some t20) none h).go .pan fun t21 h => (xbin P .add 3 x1 x7 h).go .pan fun t22 h => (xslice P 42 t21 (some t22) none none h).go .pan fun t23 h => (cl (.f 28) [x2,t23] h).go .pan fun t24 h => (xun P .not t24 h).go .pan fun t25 h => ifV t25 (bif plain2 x1 x7 then ((xbin P .add 3 x1 x7 h).ok1 fun t26 h => (xslice P 42 t21 (some t26) none none h).ok1 fun t27 h => (xslice P 42 t21 (some x1) none none h).ok1 fun t28 h => (xbuiltin P .copy [42,42] [t27,t28] h).go .pan fun t29 h => (xslice P 42 t21 (some x1) none none h).go .pan fun t30 h => (xbuiltin P .copy [42,42] [t30,x2] h).go .pan fun t31 h => .ok t21 h) else .bad) (j18 P cl nu nu t21 x1 x2 x7 x8 h) := by kernel_rfl
theorem eq : runX P cl nu an15 Tryz.f15 [x0,x1,x2] h = (xslice P 42 x0 (some x1) none none h).go .pan fun t1 h => (xbuiltin P .len [42] [x2] h).go .pan fun t2 h => (xbin P .eql 3 t2 (.int .i64 0) h).go .pan fun t3 h => ifV t3 (.ok x0 h) (j5 P cl nu nu x0 x1 x2 t2 h) := by kernel_rfl
end
end F15
namespace F17
noncomputable section
variable (P : Program) (cl : Cl) (nu mu : Nu) (x0 x1 x2 x7 x8 : Value) (h : H)
noncomputable def s := sub (bodyOf Tryz.f17)
noncomputable def k0 : Ko := kfn P Tryz.f17.results.toList
def j5 := mu 10 (evT P cl an17 nu (s [1,1,1,1]) (k0 P)) [(0,x0),(1,x1),(2,x2),(7,x7)] h
def j8 := mu 16 (evT P cl an17 nu (s [1,1,1,1,1,1]) (k0 P)) [(0,x0),(1,x1),(2,x2),(7,x7),(8,x8)] h
def j13 := mu 26 (evT P cl an17 nu (s [1,1,1,1,1,1,1]) (k0 P)) [(0,x0),(1,x1),(2,x2),(7,x7),(8,x8)] h
def j18 := mu 36 (evT P cl an17 nu (s [1,1,1,1,1,1,1,1,1]) (k0 P)) [(0,x0),(1,x1),(2,x2),(7,x7),(8,x8)] h
theorem j5_eq : j5 P cl nu nu0 x0 x1 x2 x7 h = (xbuiltin P .len [45] [x0] h).go .pan fun t4 h => (xbin P .eql 3 x1 t4 h).go .pan fun t5 h => ifV t5 ((xbuiltin P .append [45,45] [x0,x2] h).go .pan fun t6 h => .ok t6 h) (j8 P cl nu nu x0 x1 x2 x7 t4 h) := by kernel_rfl
theorem j8_eq : j8 P cl nu nu0 x0 x1 x2 x7 x8 h = (xbin P .add 3 x8 x7 h).go .pan fun t7 h => (xbuiltin P .cap [45] [x0] h).go .pan fun t8 h => (xbin P .gtr 3 t7 t8 h).go .pan fun t9 h => ifV t9 ((xslice P 45 x0 none (some x1) none h).go .pan fun t10 h => (xbin P .add 3 x8 x7 h).go .pan fun t11 h => (xbin P .sub 3 t11 x1 h).go .pan fun t12 h => (xbuiltin P .append [45,3] [t10,t12] h).go .pan fun t13 h => (xslice P 45 t13 (some x1) none none h).go .pan fun t14 h => (xbuiltin P .copy [45,45] [t14,x2] h).go .pan fun t15 h => bif plain2 x1 x7 then ((xbin P .add 3 x1 x7 h).ok1 fun t16 h => (xslice P 45 t13 (some t16) none none h).ok1 fun t17 h => (xslice P 45 x0 (some x1) none none h).ok1 fun t18 h => (xbuiltin P .copy [45,45] [t17,t18] h).go .pan fun t19 h => .ok t13 h) else .bad) (j13 P cl nu nu x0 x1 x2 x7 x8 h) := by kernel_rfl
theorem j13_eq : j13 P cl nu nu0 x0 x1 x2 x7 x8 h = (xbin P .add 3 x8 x7 h).go .pan fun t20 h => (xslice P 45 x0 none (some t20) none h).go .pan fun t21 h => (xbin P .add 3 x1 x7 h).go .pan fun t22 h => (xslice P 45 t21 (some t22) none none h).go .pan fun t23 h => (cl (.f 32) [x2,t23] h).go .pan fun t24 h => (xun P .not t24 h).go .pan fun t25 h => ifV t25 (bif plain2 x1 x7 then ((xbin P .add 3 x1 x7 h).ok1 fun t26 h => (xslice P 45 t21 (some t26) none none h).ok1 fun t27 h => (xslice P 45 t21 (some x1) none none h).ok1 fun t28 h => (xbuiltin P .copy [45,45] [t27,t28] h).go .pan fun t29 h => (xslice P 45 t21 (some x1) none none h).go .pan fun t30 h => (xbuiltin P .copy [45,45] [t30,x2] h).go .pan fun t31 h => .ok t21 h) else .bad) (j18 P cl nu nu t21 x1 x2 x7 x8 h) := by kernel_rfl
theorem eq : runX P cl nu an17 Tryz.f17 [x0,x1,x2] h = (xslice P 45 x0 (some x1) none none h).go .pan fun t1 h => (xbuiltin P .len [45] [x2] h).go .pan fun t2 h => (xbin P .eql 3 t2 (.int .i64 0) h).go .pan fun t3 h => ifV t3 (.ok x0 h) (j5 P cl nu nu x0 x1 x2 t2 h) := by kernel_rfl
end
end F17
namespace F53
noncomputable section
variable (P : Program) (cl : Cl) (nu mu : Nu) (x0 x1 x2 x7 x8 : Value) (h : H)
noncomputable def s := sub (bodyOf Tryz.f53)
noncomputable def k0 : Ko := kfn P Tryz.f53.results.toList
def j5 := mu 10 (evT P cl an53 nu (s [1,1,1,1]) (k0 P)) [(0,x0),(1,x1),(2,x2),(7,x7)] h
def j8 := mu 16 (evT P cl an53 nu (s [1,1,1,1,1,1]) (k0 P)) [(0,x0),(1,x1),(2,x2),(7,x7),(8,x8)] h
def j13 := mu 26 (evT P cl an53 nu (s [1,1,1,1,1,1,1]) (k0 P)) [(0,x0),(1,x1),(2,x2),(7,x7),(8,x8)] h
def j18 := mu 36 (evT P cl an53 nu (s [1,1,1,1,1,1,1,1,1]) (k0 P)) [(0,x0),(1,x1),(2,x2),(7,x7),(8,x8)] h
theorem j5_eq : j5 P cl nu nu0 x0 x1 x2 x7 h = (xbuiltin P .len [100] [x0] h).go .pan fun t4 h => (xbin P .eql 3 x1 t4 h).go .pan fun t5 h => ifV t5 ((xbuiltin P .append [100,100] [x0,x2] h).go .pan fun t6 h => .ok t6 h) (j8 P cl nu nu x0 x1 x2 x7 t4 h) := by kernel_rfl
theorem j8_eq : j8 P cl nu nu0 x0 x1 x2 x7 x8 h = (xbin P .add 3 x8 x7 h).go .pan fun t7 h => (xbuiltin P .cap [100] [x0] h).go .pan fun t8 h => (xbin P .gtr 3 t7 t8 h).go .pan fun t9 h => ifV t9 ((xslice P 100 x0 none (some x1) none h).go .pan fun t10 h => (xbin P .add 3 x8 x7 h).go .pan fun t11 h => (xbin P .sub 3 t11 x1 h).go .pan fun t12 h => (xbuiltin P .append [100,3] [t10,t12] h).go .pan fun t13 h => (xslice P 100 t13 (some x1) none none h).go .pan fun t14 h => (xbuiltin P .copy [100,100] [t14,x2] h).go .pan fun t15 h => bif plain2 x1 x7 then ((xbin P .add 3 x1 x7 h).ok1 fun t16 h => (xslice P 100 t13 (some t16) none none h).ok1 fun t17 h => (xslice P 100 x0 (some x1) none none h).ok1 fun t18 h => (xbuiltin P .copy [100,100] [t17,t18] h).go .pan fun t19 h => .ok t13 h) else .bad) (j13 P cl nu nu x0 x1 x2 x7 x8 h) := by kernel_rfl
theorem j13_eq : j13 P cl nu nu0 x0 x1 x2 x7 x8 h = (xbin P .add 3 x8 x7 h).go .pan fun t20 h => (xslice P 100 x0 none (some t20) none h).go .pan fun t21 h => (xbin P .add 3 x1 x7 h).go .pan fun t22 h => (xslice P 100 t21 (some t22) none none h).go .pan fun t23 h => (cl (.f 77) [x2,t23] h).go .pan fun t24 h => (xun P .not t24 h).go .pan fun t25 h => ifV t25 (bif plain2 x1 x7 then ((xbin P .add 3 x1 x7 h).ok1 fun t26 h => (xslice P 100 t21 (some t26) none none h).ok1 fun t27 h => (xslice P 100 t21 (some x1) none none h).ok1 fun t28 h => (xbuiltin P .copy [100,100] [t27,t28] h).go .pan fun t29 h => (xslice P 100 t21 (some x1) none none h).go .pan fun t30 h => (xbuiltin P .copy [100,100] [t30,x2] h).go .pan fun t31 h => .ok t21 h) else .bad) (j18 P cl nu nu t21 x1 x2 x7 x8 h) := by kernel_rfl
theorem eq : runX P cl nu an53 Tryz.f53 [x0,x1,x2] h = (xslice P 100 x0 (some x1) none none h).go .pan fun t1 h => (xbuiltin P .len [100] [x2] h).go .pan fun t2 h => (xbin P .eql 3 t2 (.int .i64 0) h).go .pan fun t3 h => ifV t3 (.ok x0 h) (j5 P cl nu nu x0 x1 x2 t2 h) := by kernel_rfl
end
end F53
namespace F82
noncomputable section
variable (P : Program) (cl : Cl) (nu mu : Nu) (x0 x1 x2 x7 x8 : Value) (h : H)
noncomputable def s := sub (bodyOf Tryz.f82)
noncomputable def k0 : Ko := kfn P Tryz.f82.results.toList
def j5 := mu 10 (evT P cl an82 nu (s [1,1,1,1]) (k0 P)) [(0,x0),(1,x1),(2,x2),(7,x7)] h
def j8 := mu 16 (evT P cl an82 nu (s [1,1,1,1,1,1]) (k0 P)) [(0,x0),(1,x1),(2,x2),(7,x7),(8,x8)] h
def j13 := mu 26 (evT P cl an82 nu (s [1,1,1,1,1,1,1]) (k0 P)) [(0,x0),(1,x1),(2,x2),(7,x7),(8,x8)] h
def j18 := mu 36 (evT P cl an82 nu (s [1,1,1,1,1,1,1,1,1]) (k0 P)) [(0,x0),(1,x1),(2,x2),(7,x7),(8,x8)] h
theorem j5_eq : j5 P cl nu nu0 x0 x1 x2 x7 h = (xbuiltin P .len [127] [x0] h).go .pan fun t4 h => (xbin P .eql 3 x1 t4 h).go .pan fun t5 h => ifV t5 ((xbuiltin P .append [127,127] [x0,x2] h).go .pan fun t6 h => .ok t6 h) (j8 P cl nu nu x0 x1 x2 x7 t4 h) := by kernel_rfl
theorem j8_eq : j8 P cl nu nu0 x0 x1 x2 x7 x8 h = (xbin P .add 3 x8 x7 h).go .pan fun t7 h => (xbuiltin P .cap [127] [x0] h).go .pan fun t8 h => (xbin P .gtr 3 t7 t8 h).go .pan fun t9 h => ifV t9 ((xslice P 127 x0 none (some x1) none h).go .pan fun t10 h => (xbin P .add 3 x8 x7 h).go .pan fun t11 h => (xbin P .sub 3 t11 x1 h).go .pan fun t12 h => (xbuiltin P .append [127,3] [t10,t12] h).go .pan fun t13 h => (xslice P 127 t13 (some x1) none none h).go .pan fun t14 h => (xbuiltin P .copy [127,127] [t14,x2] h).go .pan fun t15 h => bif plain2 x1 x7 then ((xbin P .add 3 x1 x7 h).ok1 fun t16 h => (xslice P 127 t13 (some t16) none none h).ok1 fun t17 h => (xslice P 127 x0 (some x1) none none h).ok1 fun t18 h => (xbuiltin P .copy [127,127] [t17,t18] h).go .pan fun t19 h => .ok t13 h) else .bad) (j13 P cl nu nu x0 x1 x2 x7 x8 h) := by kernel_rfl
theorem j13_eq : j13 P cl nu nu0 x0 x1 x2 x7 x8 h = (xbin P .add 3 x8 x7 h).go .pan fun t20 h => (xslice P 127 x0 none (some t20) none h).go .pan fun t21 h => (xbin P .add 3 x1 x7 h).go .pan fun t22 h => (xslice P 127 t21 (some t22) none none h).go .pan fun t23 h => (cl (.f 92) [x2,t23] h).go .pan fun t24 h => (xun P .not t24 h).go .pan fun t25 h => ifV t25 (bif plain2 x1 x7 then ((xbin P .add 3 x1 x7 h).ok1 fun t26 h => (xslice P 127 t21 (some t26) none none h).ok1 fun t27 h => (xslice P 127 t21 (some x1) none none h).ok1 fun t28 h => (xbuiltin P .copy [127,127] [t27,t28] h).go .pan fun t29 h => (xslice P 127 t21 (some x1) none none h).go .pan fun t30 h => (xbuiltin P .copy [127,127] [t30,x2] h).go .pan fun t31 h => .ok t21 h) else .bad) (j18 P cl nu nu t21 x1 x2 x7 x8 h) := by kernel_rfl
theorem eq : runX P cl nu an82 Tryz.f82 [x0,x1,x2] h = (xslice P 127 x0 (some x1) none none h).go .pan fun t1 h => (xbuiltin P .len [127] [x2] h).go .pan fun t2 h => (xbin P .eql 3 t2 (.int .i64 0) h).go .pan fun t3 h => ifV t3 (.ok x0 h) (j5 P cl nu nu x0 x1 x2 t2 h) := by kernel_rfl
end
end F82
end Go.Proofs.YtialpopmeamojaaGreat.K
namespace Go.Proofs.YtialpopmeamojaaGreat.K
open Go Go.Kx
set_option maxRecDepth 20000
set_option linter.unusedVariables false
set_option linter.defProp false
namespace F3
noncomputable section
variable (P : Program) (cl : Cl) (nu mu : Nu) (x0 x3 x4 x5 x11 x30 x31 x106 x107 x131 x132 x133 x134 x135 x136 x137 : Value) (h : H)
noncomputable def s := sub (bodyOf Tryz.f3)
noncomputable def k0 : Ko := kfn P Tryz.f3.results.toList
def j5 := mu 10 (evT P cl an3 nu (s [1,1,1,1]) (k0 P)) [(0,x0),(3,x3),(4,x4)] h
def k2 : Ko := kC P cl nu an3 (s [1,1,1,1,1]) (k0 P)
def k3 : Ko := kblk 0 (k2 P cl nu)
def l6 := mu 13 (lC P cl nu an3 [0,3,4,5] (s [1,1,1,1,0,1,0,0]) (k3 P cl nu)) [(0,x0),(3,x3),(4,x4),(5,x5)] h
def k4 : Ko := kL P cl nu an3 13 [0,3,4,5] (s [1,1,1,1,0,1,0,0]) (k3 P cl nu)
def j8 := mu 16 (evT P cl an3 nu (s [1,1,1,1,0,1,0,0,1]) (k4 P cl nu)) [(0,x0),(3,x3),(4,x4),(5,x5),(30,x30),(31,x31)] h
def j15 := mu 30 (evT P cl an3 nu (s [1,1,1,1,1]) (k0 P)) [(0,x0),(3,x3),(4,x4)] h
def k8 : Ko := kC P cl nu an3 (s [1,1,1,1,1,1]) (k0 P)
def k9 : Ko := kblk 2 (k8 P cl nu)
def l16 := mu 33 (lC P cl nu an3 [0,3,4,11] (s [1,1,1,1,1,0,1,0,0]) (k9 P cl nu)) [(0,x0),(3,x3),(4,x4),(11,x11)] h
def k10 : Ko := kL P cl nu an3 33 [0,3,4,11] (s [1,1,1,1,1,0,1,0,0]) (k9 P cl nu)
def j18 := mu 36 (evT P cl an3 nu (s [1,1,1,1,1,0,1,0,0,1]) (k10 P cl nu)) [(0,x0),(3,x3),(4,x4),(11,x11),(106,x106),(107,x107)] h
def k12 : Ko := kC P cl nu an3 (s [1,1,1,1,1,0,1,0,0,1,1]) (k10 P cl nu)
def k13 : Ko := kblk 3 (k12 P cl nu)
def j25 := mu 50 (evT P cl an3 nu (s [1,1,1,1,1,1]) (k0 P)) [(0,x0),(3,x3),(4,x4)] h
def j22 := mu 44 (evT P cl an3 nu (s [1,1,1,1,1,0,1,0,0,1,0,0,1,1,1]) (k13 P cl nu)) [(0,x0),(3,x3),(4,x4),(11,x11),(106,x106),(107,x107),(131,x131),(132,x132),(133,x133),(134,x134),(135,x135),(136,x136),(137,x137)] h
theorem j5_eq : j5 P cl nu nu0 x0 x3 x4 h = l6 P cl nu nu x0 x3 x4 (.int .i64 0) h := by kernel_rfl
theorem l6n : evT P cl an3 nu (s [1,1,1,1,0,1,0,0]) (kL P cl nu an3 13 [0,3,4,5] (s [1,1,1,1,0,1,0,0]) (k3 P cl nu)) [(0,x0),(3,x3),(4,x4),(5,x5)] h = (xbuiltin P .len [22] [x0] h).go .pan fun t5 h => (xbin P .lss 3 x5 t5 h).go .pan fun t6 h => ifV t6 ((xbin P .lss 3 x5 (.int .i64 200) h).go .pan fun t7 h => ifV t7 (j8 P cl nu nu x0 x3 x4 x5 x5 t7 h) (j15 P cl nu nu x0 x3 x4 h)) (j15 P cl nu nu x0 x3 x4 h) := by kernel_rfl
def l6_eq := @id (l6 P cl nu0 nu0 x0 x3 x4 x5 h = _) (lpN (l6n P cl nu0 x0 x3 x4 x5 h))
theorem j8_eq : j8 P cl nu nu0 x0 x3 x4 x5 x30 x31 h = (xbuildSlice P 28 1 [(0,x5)] h).go .pan fun t8 h => (xbuild P 30 [(0,t8)] h).go .pan fun t9 h => (xbox 30 t9 h).go .pan fun t10 h => (xindexAddr P 22 x0 x5 h).go .pan fun t11 h => (xload P 9 t11 h).go .pan fun t12 h => (cl (.f 6) [x3,t12,t10] h).go .pan fun t13 h => (xindexAddr P 22 x0 x5 h).ok1 fun t14 h => (xload P 9 t14 h).ok1 fun t15 h => (xnilCheck t10 h).ok1 fun t16 h => (xload P 30 t16 h).ok1 fun t17 h => (cl (.f 7) [x4,t15,t17] h).go .pan fun t18 h => (xindexAddr P 22 x0 x5 h).go .pan fun t19 h => (xload P 9 t19 h).go .pan fun t20 h => (cl (.f 8) [x3,t20] h).go .pan fun t21 h => (xextract t21 0 h).go .pan fun t22 h => (xextract t21 1 h).go .pan fun t23 h => (xindexAddr P 22 x0 x5 h).go .pan fun t24 h => (xload P 9 t24 h).go .pan fun t25 h => (cl (.f 9) [x4,t25] h).go .pan fun t26 h => (xextract t26 0 h).go .pan fun t27 h => (xextract t26 1 h).go .pan fun t28 h => (xalloc P 30 h).go .pan fun t29 h => (xstore P 30 t29 t27 h).go .pan fun t30 h => (xun P .not t23 h).ok1 fun t31 h => ifV t31 (.ok (.bool false) h) ((xun P .not t28 h).ok1 fun t32 h => ifV t32 (.ok (.bool false) h) (bif plain2 t22 t10 then ((xbin P .neq 25 t22 t10 h).ok1 fun t33 h => ifV t33 (.ok (.bool false) h) ((xfieldAddr P 30 t29 0 h).ok1 fun t34 h => (xload P 28 t34 h).ok1 fun t35 h => bif (lenV t35).isSome then ((xbuiltin P .len [28] [t35] h).ok1 fun t36 h => bif plain2 t36 (.int .i64 1) then ((xbin P .neq 3 t36 (.int .i64 1) h).ok1 fun t37 h => ifV t37 (.ok (.bool false) h) ((xfieldAddr P 30 t29 0 h).ok1 fun t38 h => (xload P 28 t38 h).ok1 fun t39 h => (xindexAddr P 28 t39 (.int .i64 0) h).ok1 fun t40 h => (xnilCheck t10 h).ok1 fun t41 h => (xfieldAddr P 30 t41 0 h).ok1 fun t42 h => (xload P 28 t42 h).ok1 fun t43 h => (xindexAddr P 28 t43 (.int .i64 0) h).ok1 fun t44 h => bif plain2 t40 t44 then ((xbin P .neq 37 t40 t44 h).ok1 fun t45 h => ifV t45 (.ok (.bool false) h) ((xbin P .add 3 x5 (.int .i64 1) h).go .pan fun t46 h => (l6 P cl nu nu x0 x3 x4 t46 h))) else .bad)) else .bad) else .bad)) else .bad)) := by kernel_rfl
theorem j15_eq : j15 P cl nu nu0 x0 x3 x4 h = l16 P cl nu nu x0 x3 x4 (.int .i64 0) h := by kernel_rfl
theorem l16n : evT P cl an3 nu (s [1,1,1,1,1,0,1,0,0]) (kL P cl nu an3 33 [0,3,4,11] (s [1,1,1,1,1,0,1,0,0]) (k9 P cl nu)) [(0,x0),(3,x3),(4,x4),(11,x11)] h = (xbuiltin P .len [22] [x0] h).go .pan fun t47 h => (xbin P .lss 3 x11 t47 h).go .pan fun t48 h => ifV t48 ((xbin P .lss 3 x11 (.int .i64 200) h).go .pan fun t49 h => ifV t49 (j18 P cl nu nu x0 x3 x4 x11 x11 t49 h) (j25 P cl nu nu x0 x3 x4 h)) (j25 P cl nu nu x0 x3 x4 h) := by kernel_rfl
def l16_eq := @id (l16 P cl nu0 nu0 x0 x3 x4 x11 h = _) (lpN (l16n P cl nu0 x0 x3 x4 x11 h))
theorem j18_eq : j18 P cl nu nu0 x0 x3 x4 x11 x106 x107 h = (cl (.f 10) [x3] h).go .pan fun t50 h => (xindexAddr P 22 x0 x11 h).go .pan fun t51 h => (xload P 9 t51 h).go .pan fun t52 h => (cl (.f 8) [x3,t52] h).go .pan fun t53 h => (xextract t53 0 h).go .pan fun t54 h => (xextract t53 1 h).go .pan fun t55 h => (xindexAddr P 22 x0 x11 h).go .pan fun t56 h => (xload P 9 t56 h).go .pan fun t57 h => (cl (.f 11) [x3,t57] h).go .pan fun t58 h => (xbin P .neq 4 t58 t55 h).go .pan fun t59 h => ifV t59 (.ok (.bool false) h) ((cl (.f 10) [x3] h).go .pan fun t60 h => (xbin P .sub 3 t50 (.int .i64 1) h).go .pan fun t61 h => (xbin P .eql 3 t60 t61 h).go .pan fun t62 h => (xbin P .neq 4 t55 t62 h).go .pan fun t63 h => ifV t63 (.ok (.bool false) h) (j22 P cl nu nu x0 x3 x4 x11 x106 x107 t55 x3 t60 t50 t61 t62 t63 h)) := by kernel_rfl
theorem j25_eq : j25 P cl nu nu0 x0 x3 x4 h = (cl (.f 10) [x3] h).go .pan fun t64 h => (xbin P .eql 3 t64 (.int .i64 0) h).go .pan fun t65 h => ifV t65 ((cl (.f 12) [x4] h).go .pan fun t66 h => (xbin P .gtr 3 t66 (.int .i64 0) h).go .pan fun t67 h => (xbuiltin P .len [22] [x0] h).go .pan fun t68 h => (xbin P .gtr 3 t68 (.int .i64 0) h).go .pan fun t69 h => (xbin P .eql 4 t67 t69 h).go .pan fun t70 h => ifV t70 ((cl (.f 13) [] h).go .pan fun t71 h => .ok t71 h) (.ok (.bool false) h)) (.ok (.bool false) h) := by kernel_rfl
theorem j22_eq : j22 P cl nu nu0 x0 x3 x4 x11 x106 x107 x131 x132 x133 x134 x135 x136 x137 h = (xindexAddr P 22 x0 x11 h).go .pan fun t72 h => (xload P 9 t72 h).go .pan fun t73 h => (cl (.f 9) [x4,t73] h).go .pan fun t74 h => (xextract t74 0 h).go .pan fun t75 h => (xextract t74 1 h).go .pan fun t76 h => (xalloc P 30 h).go .pan fun t77 h => (xstore P 30 t77 t75 h).go .pan fun t78 h => (xun P .not t76 h).go .pan fun t79 h => ifV t79 (.ok (.bool false) h) ((xbin P .add 3 x11 (.int .i64 1) h).go .pan fun t80 h => (l16 P cl nu nu x0 x3 x4 t80 h)) := by kernel_rfl
theorem eq : runX P cl nu an3 Tryz.f3 [x0] h = (cl (.f 4) [] h).go .pan fun t1 h => (cl (.f 5) [] h).go .pan fun t2 h => (xbin P .eql 23 t1 (.pointer none) h).go .pan fun t3 h => ifV t3 (.ok (.bool false) h) ((xbin P .eql 26 t2 (.pointer none) h).go .pan fun t4 h => ifV t4 (.ok (.bool false) h) (j5 P cl nu nu x0 t1 t2 h)) := by kernel_rfl
end
end F3
namespace F4
noncomputable section
variable (P : Program) (cl : Cl) (nu mu : Nu) (h : H)
theorem eq : runX P cl nu an4 Tryz.f4 [] h = (xbuild P 44 [] h).go .pan fun t1 h => (xbox 44 t1 h).go .pan fun t2 h => .ok t2 h := by kernel_rfl
end
end F4
namespace F5
noncomputable section
variable (P : Program) (cl : Cl) (nu mu : Nu) (h : H)
theorem eq : runX P cl nu an5 Tryz.f5 [] h = (xbuild P 47 [] h).go .pan fun t1 h => (xbox 47 t1 h).go .pan fun t2 h => .ok t2 h := by kernel_rfl
end
end F5
namespace F6
noncomputable section
variable (P : Program) (cl : Cl) (nu mu : Nu) (x0 x1 x2 x7 : Value) (h : H)
noncomputable def s := sub (bodyOf Tryz.f6)
noncomputable def k0 : Ko := kfn P Tryz.f6.results.toList
def j5 := mu 10 (evT P cl an6 nu (s [1,1,1]) (k0 P)) [(0,x0),(1,x1),(2,x2),(7,x7)] h
theorem j5_eq : j5 P cl nu nu0 x0 x1 x2 x7 h = (xnilCheck x0 h).go .pan fun t10 h => (xfieldAddr P 44 t10 0 h).go .pan fun t11 h => (xload P 42 t11 h).go .pan fun t12 h => (xbuild P 51 [(0,x1),(1,x2)] h).go .pan fun t13 h => (xbuildSlice P 42 1 [(0,t13)] h).go .pan fun t14 h => (cl (.f 15) [t12,x7,t14] h).go .pan fun t15 h => (xnilCheck x0 h).go .pan fun t16 h => (xfieldAddr P 44 t16 0 h).go .pan fun t17 h => (xstore P 42 t17 t15 h).go .pan fun t18 h => .ok (.bool false) h := by kernel_rfl
theorem eq : runX P cl nu an6 Tryz.f6 [x0,x1,x2] h = (cl (.f 14) [x0,x1] h).go .pan fun t1 h => (xextract t1 0 h).go .pan fun t2 h => (xextract t1 1 h).go .pan fun t3 h => ifV t3 ((xnilCheck x0 h).go .pan fun t4 h => (xfieldAddr P 44 t4 0 h).go .pan fun t5 h => (xload P 42 t5 h).go .pan fun t6 h => (xindexAddr P 42 t6 t2 h).go .pan fun t7 h => (xfieldAddr P 51 t7 1 h).go .pan fun t8 h => (xstore P 25 t8 x2 h).go .pan fun t9 h => .ok (.bool true) h) (j5 P cl nu nu x0 x1 x2 t2 h) := by kernel_rfl
end
end F6
namespace F7
noncomputable section
variable (P : Program) (cl : Cl) (nu mu : Nu) (x0 x1 x2 x5 x7 : Value) (h : H)
noncomputable def s := sub (bodyOf Tryz.f7)
noncomputable def k0 : Ko := kfn P Tryz.f7.results.toList
def j5 := mu 10 (evT P cl an7 nu (s [1,1,1]) (k0 P)) [(0,x0),(1,x1),(5,x5),(7,x7)] h
theorem j5_eq : j5 P cl nu nu0 x0 x1 x5 x7 h = (xnilCheck x0 h).ok1 fun t12 h => (xfieldAddr P 47 t12 0 h).ok1 fun t13 h => (xload P 45 t13 h).ok1 fun t14 h => (xload P 30 x5 h).ok1 fun t15 h => (xbuild P 54 [(0,x1),(1,t15)] h).ok1 fun t16 h => (xbuildSlice P 45 1 [(0,t16)] h).go .pan fun t17 h => bif (rc (xload P 45 t13 h) (some t14) && true) then ((cl (.f 17) [t14,x7,t17] h).go .pan fun t18 h => (xnilCheck x0 h).ok1 fun t19 h => (xfieldAddr P 47 t19 0 h).ok1 fun t20 h => (xstore P 45 t20 t18 h).go .pan fun t21 h => .ok (.bool false) h) else .bad := by kernel_rfl
theorem eq : runX P cl nu an7 Tryz.f7 [x0,x1,x2] h = (xbox 30 x2 h).go .pan fun t1 h => (cl (.f 16) [x0,x1] h).go .pan fun t2 h => (xextract t2 0 h).go .pan fun t3 h => (xextract t2 1 h).go .pan fun t4 h => ifV t4 ((xnilCheck x0 h).ok1 fun t5 h => (xfieldAddr P 47 t5 0 h).ok1 fun t6 h => (xload P 45 t6 h).ok1 fun t7 h => (xload P 30 t1 h).ok1 fun t8 h => (xindexAddr P 45 t7 t3 h).ok1 fun t9 h => (xfieldAddr P 54 t9 1 h).ok1 fun t10 h => (xstore P 30 t10 t8 h).go .pan fun t11 h => .ok (.bool true) h) (j5 P cl nu nu x0 x1 t1 t3 h) := by kernel_rfl
end
end F7
namespace F8
noncomputable section
variable (P : Program) (cl : Cl) (nu mu : Nu) (x0 x1 x6 : Value) (h : H)
noncomputable def s := sub (bodyOf Tryz.f8)
noncomputable def k0 : Ko := kfn P Tryz.f8.results.toList
def j5 := mu 10 (evT P cl an8 nu (s [1,1,1]) (k0 P)) [(0,x0),(6,x6)] h
theorem j5_eq : j5 P cl nu nu0 x0 x6 h = (xnilCheck x0 h).go .pan fun t5 h => (xfieldAddr P 44 t5 0 h).go .pan fun t6 h => (xload P 42 t6 h).go .pan fun t7 h => (xindexAddr P 42 t7 x6 h).go .pan fun t8 h => (xfieldAddr P 51 t8 1 h).go .pan fun t9 h => (xload P 25 t9 h).go .pan fun t10 h => .ok (.tuple ⟨[t10,(.bool true)]⟩) h := by kernel_rfl
theorem eq : runX P cl nu an8 Tryz.f8 [x0,x1] h = (cl (.f 14) [x0,x1] h).go .pan fun t1 h => (xextract t1 0 h).go .pan fun t2 h => (xextract t1 1 h).go .pan fun t3 h => (xun P .not t3 h).go .pan fun t4 h => ifV t4 (.ok (.tuple ⟨[(.pointer none),(.bool false)]⟩) h) (j5 P cl nu nu x0 t2 h) := by kernel_rfl
end
end F8
namespace F9
noncomputable section
variable (P : Program) (cl : Cl) (nu mu : Nu) (x0 x1 x4 x6 : Value) (h : H)
noncomputable def s := sub (bodyOf Tryz.f9)
noncomputable def k0 : Ko := kfn P Tryz.f9.results.toList
def j5 := mu 10 (evT P cl an9 nu (s [1,1,1]) (k0 P)) [(0,x0),(4,x4),(6,x6)] h
theorem j5_eq : j5 P cl nu nu0 x0 x4 x6 h = (xnilCheck x0 h).go .pan fun t9 h => (xfieldAddr P 47 t9 0 h).go .pan fun t10 h => (xload P 45 t10 h).go .pan fun t11 h => (xindexAddr P 45 t11 x6 h).go .pan fun t12 h => (xfieldAddr P 54 t12 1 h).go .pan fun t13 h => (xload P 30 t13 h).go .pan fun t14 h => (xstore P 30 x4 t14 h).go .pan fun t15 h => kfn P Tryz.f9.results.toList .normal [(4,x4),(5,(.bool true))] h := by kernel_rfl
theorem eq : runX P cl nu an9 Tryz.f9 [x0,x1] h = (xalloc P 30 h).go .pan fun t1 h => (cl (.f 16) [x0,x1] h).go .pan fun t2 h => (xextract t2 0 h).go .pan fun t3 h => (xextract t2 1 h).go .pan fun t4 h => (xun P .not t4 h).go .pan fun t5 h => ifV t5 ((xalloc P 30 h).go .pan fun t6 h => (xload P 30 t6 h).go .pan fun t7 h => (xstore P 30 t1 t7 h).go .pan fun t8 h => kfn P Tryz.f9.results.toList .normal [(4,t1),(5,(.bool false))] h) (j5 P cl nu nu x0 t1 t3 h) := by kernel_rfl
end
end F9
namespace F10
noncomputable section
variable (P : Program) (cl : Cl) (nu mu : Nu) (x0 : Value) (h : H)
theorem eq : runX P cl nu an10 Tryz.f10 [x0] h = (xnilCheck x0 h).go .pan fun t1 h => (xfieldAddr P 44 t1 0 h).go .pan fun t2 h => (xload P 42 t2 h).go .pan fun t3 h => (xbuiltin P .len [42] [t3] h).go .pan fun t4 h => .ok t4 h := by kernel_rfl
end
end F10
namespace F11
noncomputable section
variable (P : Program) (cl : Cl) (nu mu : Nu) (x0 x1 : Value) (h : H)
theorem eq : runX P cl nu an11 Tryz.f11 [x0,x1] h = (cl (.f 14) [x0,x1] h).go .pan fun t1 h => (xextract t1 0 h).go .pan fun t2 h => (xextract t1 1 h).go .pan fun t3 h => ifV t3 ((xnilCheck x0 h).go .pan fun t4 h => (xfieldAddr P 44 t4 0 h).go .pan fun t5 h => (xload P 42 t5 h).go .pan fun t6 h => (xbin P .add 3 t2 (.int .i64 1) h).go .pan fun t7 h => (cl (.f 18) [t6,t2,t7] h).go .pan fun t8 h => (xnilCheck x0 h).go .pan fun t9 h => (xfieldAddr P 44 t9 0 h).go .pan fun t10 h => (xstore P 42 t10 t8 h).go .pan fun t11 h => .ok t3 h) (.ok t3 h) := by kernel_rfl
end
end F11
namespace F12
noncomputable section
variable (P : Program) (cl : Cl) (nu mu : Nu) (x0 : Value) (h : H)
theorem eq : runX P cl nu an12 Tryz.f12 [x0] h = (xnilCheck x0 h).go .pan fun t1 h => (xfieldAddr P 47 t1 0 h).go .pan fun t2 h => (xload P 45 t2 h).go .pan fun t3 h => (xbuiltin P .len [45] [t3] h).go .pan fun t4 h => .ok t4 h := by kernel_rfl
end
end F12
namespace F14
noncomputable section
variable (P : Program) (cl : Cl) (nu mu : Nu) (x0 x1 : Value) (h : H)
theorem eq : runX P cl nu an14 Tryz.f14 [x0,x1] h = (xnilCheck x0 h).go .pan fun t1 h => (xfieldAddr P 44 t1 0 h).go .pan fun t2 h => (xload P 42 t2 h).go .pan fun t3 h => (cl (.f 25) [t3,x1,(.func (.func 26) #[] #[])] h).go .pan fun t4 h => (xextract t4 0 h).go .pan fun t5 h => (xextract t4 1 h).go .pan fun t6 h => .ok (.tuple ⟨[t5,t6]⟩) h := by kernel_rfl
end
end F14
namespace F16
noncomputable section
variable (P : Program) (cl : Cl) (nu mu : Nu) (x0 x1 : Value) (h : H)
theorem eq : runX P cl nu an16 Tryz.f16 [x0,x1] h = (xnilCheck x0 h).go .pan fun t1 h => (xfieldAddr P 47 t1 0 h).go .pan fun t2 h => (xload P 45 t2 h).go .pan fun t3 h => (cl (.f 30) [t3,x1,(.func (.func 31) #[] #[])] h).go .pan fun t4 h => (xextract t4 0 h).go .pan fun t5 h => (xextract t4 1 h).go .pan fun t6 h => .ok (.tuple ⟨[t5,t6]⟩) h := by kernel_rfl
end
end F16
namespace F18
noncomputable section
variable (P : Program) (cl : Cl) (nu mu : Nu) (x0 x1 x2 : Value) (h : H)
noncomputable def s := sub (bodyOf Tryz.f18)
noncomputable def k0 : Ko := kfn P Tryz.f18.results.toList
def j4 := mu 8 (evT P cl an18 nu (s [1,1,1]) (k0 P)) [(0,x0),(1,x1),(2,x2)] h
theorem j4_eq : j4 P cl nu nu0 x0 x1 x2 h = (xbuiltin P .len [42] [x0] h).go .pan fun t4 h => (xslice P 42 x0 none (some x1) none h).ok1 fun t5 h => (xslice P 42 x0 (some x2) none none h).ok1 fun t6 h => (xbuiltin P .append [42,42] [t5,t6] h).go .pan fun t7 h => (xbuiltin P .len [42] [t7] h).go .pan fun t8 h => (xslice P 42 t7 (some t8) (some t4) none h).go .pan fun t9 h => (xbuiltin P .clear [42] [t9] h).go .pan fun t10 h => .ok t7 h := by kernel_rfl
theorem eq : runX P cl nu an18 Tryz.f18 [x0,x1,x2] h = (xbuiltin P .len [42] [x0] h).go .pan fun t1 h => (xslice P 42 x0 (some x1) (some x2) (some t1) h).go .pan fun t2 h => (xbin P .eql 3 x1 x2 h).go .pan fun t3 h => ifV t3 (.ok x0 h) (j4 P cl nu nu x0 x1 x2 h) := by kernel_rfl
end
end F18
namespace F25
noncomputable section
variable (P : Program) (cl : Cl) (nu mu : Nu) (x0 x1 x2 x8 x9 x10 : Value) (h : H)
noncomputable def s := sub (bodyOf Tryz.f25)
noncomputable def k0 : Ko := kfn P Tryz.f25.results.toList
def k1 : Ko := kC P cl nu an25 (s [1,1,1,1]) (k0 P)
def k2 : Ko := kblk 0 (k1 P cl nu)
def l3 := mu 7 (lC P cl nu an25 [0,1,2,8,9,10] (s [1,1,1,0,0,0]) (k2 P cl nu)) [(0,x0),(1,x1),(2,x2),(8,x8),(9,x9),(10,x10)] h
def k3 : Ko := kL P cl nu an25 7 [0,1,2,8,9,10] (s [1,1,1,0,0,0]) (k2 P cl nu)
def j4 := mu 8 (evT P cl an25 nu (s [1,1,1,0,0,0,1]) (k3 P cl nu)) [(0,x0),(1,x1),(2,x2),(8,x8),(9,x9),(10,x10)] h
def j8 := mu 16 (evT P cl an25 nu (s [1,1,1,1]) (k0 P)) [(0,x0),(1,x1),(2,x2),(8,x8),(9,x9)] h
theorem l3n : evT P cl an25 nu (s [1,1,1,0,0,0]) (kL P cl nu an25 7 [0,1,2,8,9,10] (s [1,1,1,0,0,0]) (k2 P cl nu)) [(0,x0),(1,x1),(2,x2),(8,x8),(9,x9),(10,x10)] h = (xbin P .lss 3 x9 x10 h).go .pan fun t2 h => ifV t2 (j4 P cl nu nu x0 x1 x2 x8 x9 x10 h) (j8 P cl nu nu x0 x1 x2 x8 x9 h) := by kernel_rfl
def l3_eq := @id (l3 P cl nu0 nu0 x0 x1 x2 x8 x9 x10 h = _) (lpN (l3n P cl nu0 x0 x1 x2 x8 x9 x10 h))
theorem j4_eq : j4 P cl nu nu0 x0 x1 x2 x8 x9 x10 h = (xbin P .add 3 x9 x10 h).go .pan fun t3 h => (xconvert P 3 99 t3 h).go .pan fun t4 h => (xbin P .shr 99 t4 (.int .u64 1) h).go .pan fun t5 h => (xconvert P 99 3 t5 h).go .pan fun t6 h => (xindexAddr P 42 x0 t6 h).go .pan fun t7 h => (xload P 51 t7 h).go .pan fun t8 h => (xcallV cl x2 [t8,x1] h).go .pan fun t9 h => (xbin P .lss 3 t9 (.int .i64 0) h).go .pan fun t10 h => ifV t10 ((xbin P .add 3 t6 (.int .i64 1) h).go .pan fun t11 h => (l3 P cl nu nu x0 x1 x2 x8 t11 x10 h)) (l3 P cl nu nu x0 x1 x2 x8 x9 t6 h) := by kernel_rfl
theorem j8_eq : j8 P cl nu nu0 x0 x1 x2 x8 x9 h = (xbin P .lss 3 x9 x8 h).go .pan fun t12 h => ifV t12 ((xindexAddr P 42 x0 x9 h).go .pan fun t13 h => (xload P 51 t13 h).go .pan fun t14 h => (xcallV cl x2 [t14,x1] h).go .pan fun t15 h => (xbin P .eql 3 t15 (.int .i64 0) h).go .pan fun t16 h => .ok (.tuple ⟨[x9,t16]⟩) h) (.ok (.tuple ⟨[x9,(.bool false)]⟩) h) := by kernel_rfl
theorem eq : runX P cl nu an25 Tryz.f25 [x0,x1,x2] h = (xbuiltin P .len [42] [x0] h).go .pan fun t1 h => (l3 P cl nu nu x0 x1 x2 t1 (.int .i64 0) t1 h) := by kernel_rfl
end
end F25
namespace F26
noncomputable section
variable (P : Program) (cl : Cl) (nu mu : Nu) (x0 x1 : Value) (h : H)
theorem eq : runX P cl nu an26 Tryz.f26 [x0,x1] h = (xbox 51 x0 h).go .pan fun t1 h => (xfieldAddr P 51 t1 0 h).go .pan fun t2 h => (xload P 9 t2 h).go .pan fun t3 h => (cl (.f 27) [t3,x1] h).go .pan fun t4 h => .ok t4 h := by kernel_rfl
end
end F26
namespace F27
noncomputable section
variable (P : Program) (cl : Cl) (nu mu : Nu) (x0 x1 : Value) (h : H)
theorem eq : runX P cl nu an27 Tryz.f27 [x0,x1] h = (cl (.f 42) [x0] h).go .pan fun t1 h => (cl (.f 42) [x1] h).go .pan fun t2 h => ifV t1 (ifV t2 (.ok (.int .i64 0) h) (.ok (.int .i64 (-1)) h)) (ifV t2 (.ok (.int .i64 1) h) ((xbin P .lss 9 x0 x1 h).go .pan fun t3 h => ifV t3 (.ok (.int .i64 (-1)) h) ((xbin P .gtr 9 x0 x1 h).go .pan fun t4 h => ifV t4 (.ok (.int .i64 1) h) (.ok (.int .i64 0) h)))) := by kernel_rfl
end
end F27
namespace F30
noncomputable section
variable (P : Program) (cl : Cl) (nu mu : Nu) (x0 x1 x2 x8 x9 x10 : Value) (h : H)
noncomputable def s := sub (bodyOf Tryz.f30)
noncomputable def k0 : Ko := kfn P Tryz.f30.results.toList
def k1 : Ko := kC P cl nu an30 (s [1,1,1,1]) (k0 P)
def k2 : Ko := kblk 0 (k1 P cl nu)
def l3 := mu 7 (lC P cl nu an30 [0,1,2,8,9,10] (s [1,1,1,0,0,0]) (k2 P cl nu)) [(0,x0),(1,x1),(2,x2),(8,x8),(9,x9),(10,x10)] h
def k3 : Ko := kL P cl nu an30 7 [0,1,2,8,9,10] (s [1,1,1,0,0,0]) (k2 P cl nu)
def j4 := mu 8 (evT P cl an30 nu (s [1,1,1,0,0,0,1]) (k3 P cl nu)) [(0,x0),(1,x1),(2,x2),(8,x8),(9,x9),(10,x10)] h
def j8 := mu 16 (evT P cl an30 nu (s [1,1,1,1]) (k0 P)) [(0,x0),(1,x1),(2,x2),(8,x8),(9,x9)] h
theorem l3n : evT P cl an30 nu (s [1,1,1,0,0,0]) (kL P cl nu an30 7 [0,1,2,8,9,10] (s [1,1,1,0,0,0]) (k2 P cl nu)) [(0,x0),(1,x1),(2,x2),(8,x8),(9,x9),(10,x10)] h = (xbin P .lss 3 x9 x10 h).go .pan fun t2 h => ifV t2 (j4 P cl nu nu x0 x1 x2 x8 x9 x10 h) (j8 P cl nu nu x0 x1 x2 x8 x9 h) := by kernel_rfl
def l3_eq := @id (l3 P cl nu0 nu0 x0 x1 x2 x8 x9 x10 h = _) (lpN (l3n P cl nu0 x0 x1 x2 x8 x9 x10 h))
theorem j4_eq : j4 P cl nu nu0 x0 x1 x2 x8 x9 x10 h = (xbin P .add 3 x9 x10 h).go .pan fun t3 h => (xconvert P 3 99 t3 h).go .pan fun t4 h => (xbin P .shr 99 t4 (.int .u64 1) h).go .pan fun t5 h => (xconvert P 99 3 t5 h).go .pan fun t6 h => (xindexAddr P 45 x0 t6 h).go .pan fun t7 h => (xload P 54 t7 h).go .pan fun t8 h => (xcallV cl x2 [t8,x1] h).go .pan fun t9 h => (xbin P .lss 3 t9 (.int .i64 0) h).go .pan fun t10 h => ifV t10 ((xbin P .add 3 t6 (.int .i64 1) h).go .pan fun t11 h => (l3 P cl nu nu x0 x1 x2 x8 t11 x10 h)) (l3 P cl nu nu x0 x1 x2 x8 x9 t6 h) := by kernel_rfl
theorem j8_eq : j8 P cl nu nu0 x0 x1 x2 x8 x9 h = (xbin P .lss 3 x9 x8 h).go .pan fun t12 h => ifV t12 ((xindexAddr P 45 x0 x9 h).go .pan fun t13 h => (xload P 54 t13 h).go .pan fun t14 h => (xcallV cl x2 [t14,x1] h).go .pan fun t15 h => (xbin P .eql 3 t15 (.int .i64 0) h).go .pan fun t16 h => .ok (.tuple ⟨[x9,t16]⟩) h) (.ok (.tuple ⟨[x9,(.bool false)]⟩) h) := by kernel_rfl
theorem eq : runX P cl nu an30 Tryz.f30 [x0,x1,x2] h = (xbuiltin P .len [45] [x0] h).go .pan fun t1 h => (l3 P cl nu nu x0 x1 x2 t1 (.int .i64 0) t1 h) := by kernel_rfl
end
end F30
namespace F31
noncomputable section
variable (P : Program) (cl : Cl) (nu mu : Nu) (x0 x1 : Value) (h : H)
theorem eq : runX P cl nu an31 Tryz.f31 [x0,x1] h = (xbox 54 x0 h).go .pan fun t1 h => (xfieldAddr P 54 t1 0 h).go .pan fun t2 h => (xload P 9 t2 h).go .pan fun t3 h => (cl (.f 27) [t3,x1] h).go .pan fun t4 h => .ok t4 h := by kernel_rfl
end
end F31
namespace F42
noncomputable section
variable (P : Program) (cl : Cl) (nu mu : Nu) (x0 : Value) (h : H)
theorem eq : runX P cl nu an42 Tryz.f42 [x0] h = (xbin P .neq 9 x0 x0 h).go .pan fun t1 h => .ok t1 h := by kernel_rfl
end
end F42
end Go.Proofs.YtialpopmeamojaaGreat.K
namespace Go.Proofs.YtialpopmeamojaaGreat.K
open Go Go.Kx
set_option maxRecDepth 20000
set_option linter.unusedVariables false
set_option linter.defProp false
namespace F13
noncomputable section
variable (P : Program) (cl : Cl) (nu mu : Nu) (x2 x3 : Value) (h : H)
noncomputable def s := sub (bodyOf Tryz.f13)
noncomputable def k0 : Ko := kfn P Tryz.f13.results.toList
def j5 := mu 10 (evT P cl an13 nu (s [1,1,1,1]) (k0 P)) [(2,x2)] h
def k2 : Ko := kC P cl nu an13 (s [1,1,1,1,1]) (k0 P)
def k3 : Ko := kblk 0 (k2 P cl nu)
def l6 := mu 13 (lC P cl nu an13 [2,3] (s [1,1,1,1,0,1,0,0]) (k3 P cl nu)) [(2,x2),(3,x3)] h
def k4 : Ko := kL P cl nu an13 13 [2,3] (s [1,1,1,1,0,1,0,0]) (k3 P cl nu)
def j8 := mu 16 (evT P cl an13 nu (s [1,1,1,1,0,1,0,0,1]) (k4 P cl nu)) [(2,x2),(3,x3)] h
def j11 := mu 22 (evT P cl an13 nu (s [1,1,1,1,1]) (k0 P)) [(2,x2)] h
theorem j5_eq : j5 P cl nu nu0 x2 h = l6 P cl nu nu x2 (.int .i64 1) h := by kernel_rfl
theorem l6n : evT P cl an13 nu (s [1,1,1,1,0,1,0,0]) (kL P cl nu an13 13 [2,3] (s [1,1,1,1,0,1,0,0]) (k3 P cl nu)) [(2,x2),(3,x3)] h = (xbin P .leq 3 x3 (.int .i64 64) h).go .pan fun t14 h => ifV t14 (j8 P cl nu nu x2 x3 h) (j11 P cl nu nu x2 h) := by kernel_rfl
def l6_eq := @id (l6 P cl nu0 nu0 x2 x3 h = _) (lpN (l6n P cl nu0 x2 x3 h))
theorem j8_eq : j8 P cl nu nu0 x2 x3 h = (xbuild P 68 [] h).go .pan fun t15 h => (xbuild P 70 [] h).go .pan fun t16 h => (xbuild P 70 [] h).go .pan fun t17 h => (cl (.f 21) [x2,(.int .i64 7),t15,t16,t17] h).go .pan fun t18 h => (xextract t18 0 h).go .pan fun t19 h => (xextract t18 1 h).go .pan fun t20 h => (xbin P .neq 3 t19 x3 h).go .pan fun t21 h => ifV t21 (.ok (.bool false) h) ((cl (.f 22) [t20] h).go .pan fun t22 h => (xbin P .neq 3 t22 (.int .i64 0) h).go .pan fun t23 h => ifV t23 (.ok (.bool false) h) ((xbin P .add 3 x3 (.int .i64 1) h).go .pan fun t24 h => (l6 P cl nu nu x2 t24 h))) := by kernel_rfl
theorem j11_eq : j11 P cl nu nu0 x2 h = (xbuild P 68 [] h).go .pan fun t25 h => (xbuild P 70 [] h).go .pan fun t26 h => (xbuild P 70 [] h).go .pan fun t27 h => (cl (.f 21) [x2,(.int .i64 7),t25,t26,t27] h).go .pan fun t28 h => (xextract t28 0 h).go .pan fun t29 h => (xextract t28 1 h).go .pan fun t30 h => (cl (.f 23) [x2,(.int .i64 30)] h).go .pan fun t31 h => (xbuild P 68 [] h).go .pan fun t32 h => (xbuild P 70 [] h).go .pan fun t33 h => (xbuild P 70 [] h).go .pan fun t34 h => (cl (.f 21) [x2,(.int .i64 8),t32,t33,t34] h).go .pan fun t35 h => (xextract t35 0 h).go .pan fun t36 h => (xextract t35 1 h).go .pan fun t37 h => (xbin P .eql 3 t29 (.int .i64 0) h).go .pan fun t38 h => ifV t38 ((cl (.f 22) [t30] h).go .pan fun t39 h => (xbin P .eql 3 t39 (.int .i64 190) h).go .pan fun t40 h => ifV t40 ((cl (.f 22) [t31] h).go .pan fun t41 h => (xbin P .eql 3 t41 (.int .i64 0) h).go .pan fun t42 h => ifV t42 ((xbin P .eql 3 t36 (.int .i64 65) h).go .pan fun t43 h => ifV t43 ((cl (.f 22) [t37] h).go .pan fun t44 h => (xbin P .eql 3 t44 (.int .i64 0) h).go .pan fun t45 h => ifV t45 ((cl (.f 24) [x2,(.int .i64 7)] h).go .pan fun t46 h => (xbin P .eql 3 t46 (.int .i64 63) h).go .pan fun t47 h => .ok t47 h) (.ok (.bool false) h)) (.ok (.bool false) h)) (.ok (.bool false) h)) (.ok (.bool false) h)) (.ok (.bool false) h) := by kernel_rfl
theorem eq : runX P cl nu an13 Tryz.f13 [] h = (xbuild P 59 [(0,(.int .i64 1)),(1,(.int .i64 5)),(4,(.int .i64 1))] h).go .pan fun t1 h => (xbuild P 59 [(0,(.int .i64 1)),(1,(.int .i64 2)),(4,(.int .i64 2))] h).go .pan fun t2 h => (xbuild P 59 [(0,(.int .i64 1)),(1,(.int .i64 5)),(4,(.int .i64 3))] h).go .pan fun t3 h => (xbuild P 59 [(0,(.int .i64 5))] h).go .pan fun t4 h => (xbuild P 59 [(0,(.int .i64 6)),(1,(.int .i64 3))] h).go .pan fun t5 h => (xbuild P 59 [(0,(.int .i64 3)),(1,(.int .i64 2))] h).go .pan fun t6 h => (xbuild P 59 [(0,(.int .i64 3)),(1,(.int .i64 2))] h).go .pan fun t7 h => (xbuild P 59 [(0,(.int .i64 4))] h).go .pan fun t8 h => (xbuildSlice P 60 8 [(0,t1),(1,t2),(2,t3),(3,t4),(4,t5),(5,t6),(6,t7),(7,t8)] h).go .pan fun t9 h => (cl (.f 19) [] h).go .pan fun t10 h => (xbin P .eql 61 t10 (.pointer none) h).go .pan fun t11 h => ifV t11 (.ok (.bool false) h) ((cl (.f 20) [t9] h).go .pan fun t12 h => (xun P .not t12 h).go .pan fun t13 h => ifV t13 (.ok (.bool false) h) (j5 P cl nu nu t10 h)) := by kernel_rfl
end
end F13
namespace F19
noncomputable section
variable (P : Program) (cl : Cl) (nu mu : Nu) (h : H)
theorem eq : runX P cl nu an19 Tryz.f19 [] h = (cl (.f 34) [] h).go .pan fun t1 h => (xbuild P 88 [(0,t1)] h).go .pan fun t2 h => (xbox 88 t2 h).go .pan fun t3 h => .ok t3 h := by kernel_rfl
end
end F19
namespace F21
noncomputable section
variable (P : Program) (cl : Cl) (nu mu : Nu) (x0 x1 x2 x3 x4 x7 x8 x9 : Value) (h : H)
noncomputable def s := sub (bodyOf Tryz.f21)
noncomputable def k0 : Ko := kfn P Tryz.f21.results.toList
def j3 := mu 6 (evT P cl an21 nu (s [1,1]) (k0 P)) [(0,x0),(1,x1),(7,x7),(8,x8),(9,x9)] h
theorem j3_eq : j3 P cl nu nu0 x0 x1 x7 x8 x9 h = (xnilCheck x0 h).go .pan fun t9 h => (xfieldAddr P 88 t9 1 h).go .pan fun t10 h => (xload P 3 t10 h).go .pan fun t11 h => (xbin P .add 3 t11 (.int .i64 1) h).go .pan fun t12 h => (xnilCheck x0 h).go .pan fun t13 h => (xfieldAddr P 88 t13 1 h).go .pan fun t14 h => (xstore P 3 t14 t12 h).go .pan fun t15 h => (xnilCheck x0 h).ok1 fun t16 h => (xfieldAddr P 88 t16 0 h).ok1 fun t17 h => (xload P 83 t17 h).ok1 fun t18 h => (xnilCheck x0 h).ok1 fun t19 h => (xfieldAddr P 88 t19 1 h).ok1 fun t20 h => (xload P 3 t20 h).ok1 fun t21 h => (xnilCheck x0 h).ok1 fun t22 h => (xfieldAddr P 88 t22 1 h).ok1 fun t23 h => (xload P 3 t23 h).ok1 fun t24 h => (xload P 68 x7 h).ok1 fun t25 h => (xload P 70 x8 h).ok1 fun t26 h => (xload P 70 x9 h).ok1 fun t27 h => (xbuild P 86 [(0,t24),(1,x1),(2,t25),(3,t26),(4,t27)] h).ok1 fun t28 h => (cl (.f 39) [t18,t21,t28] h).go .pan fun t29 h => (xnilCheck x0 h).go .pan fun t30 h => (xfieldAddr P 88 t30 1 h).go .pan fun t31 h => (xload P 3 t31 h).go .pan fun t32 h => .ok (.tuple ⟨[t32,(.int .i64 0)]⟩) h := by kernel_rfl
theorem eq : runX P cl nu an21 Tryz.f21 [x0,x1,x2,x3,x4] h = (xbox 68 x2 h).go .pan fun t1 h => (xbox 70 x3 h).go .pan fun t2 h => (xbox 70 x4 h).go .pan fun t3 h => (xnilCheck x0 h).go .pan fun t4 h => (xfieldAddr P 88 t4 0 h).go .pan fun t5 h => (xload P 83 t5 h).go .pan fun t6 h => (cl (.f 38) [t6] h).go .pan fun t7 h => (xbin P .geq 3 t7 (.int .i64 64) h).go .pan fun t8 h => ifV t8 (.ok (.tuple ⟨[(.int .i64 0),(.int .i64 190)]⟩) h) (j3 P cl nu nu x0 x1 t1 t2 t3 h) := by kernel_rfl
end
end F21
namespace F22
noncomputable section
variable (P : Program) (cl : Cl) (nu mu : Nu) (x0 : Value) (h : H)
theorem eq : runX P cl nu an22 Tryz.f22 [x0] h = .ok x0 h := by kernel_rfl
end
end F22
namespace F23
noncomputable section
variable (P : Program) (cl : Cl) (nu mu : Nu) (x0 x1 : Value) (h : H)
theorem eq : runX P cl nu an23 Tryz.f23 [x0,x1] h = (xnilCheck x0 h).go .pan fun t1 h => (xfieldAddr P 88 t1 0 h).go .pan fun t2 h => (xload P 83 t2 h).go .pan fun t3 h => (cl (.f 40) [t3,x1] h).go .pan fun t4 h => (xun P .not t4 h).go .pan fun t5 h => ifV t5 (.ok (.int .i64 191) h) (.ok (.int .i64 0) h) := by kernel_rfl
end
end F23
namespace F24
noncomputable section
variable (P : Program) (cl : Cl) (nu mu : Nu) (b : Nat) (x0 x1 x3 x5 v13 v14 : Value) (h : H)
noncomputable def s := sub (bodyOf Tryz.f24)
noncomputable def k0 : Ko := kfn P Tryz.f24.results.toList
def k1 : Ko := kC P cl nu an24 (s [1,1,1]) (k0 P)
def k2 : Ko := kblk 0 (k1 P cl nu)
theorem r4_normal : (k2 P cl nu) .normal [(5,x5)] h = ((xload P 3 x5 h).go .pan fun t8 h => .ok t8 h) := by kernel_rfl
theorem y4 : evS P cl an24 (s [1,1,0,1,0,0]) (kassign (begK b fun fr' h' => evS P cl an24 (s [1,1,0,1,0,1]) (kround b) fr' h')) [(14,v14),(13,v13),(3,x3),(5,x5)] h = ((xalloc P 86 h).go (fun v h => .bad) fun t9 h => (xstore P 86 t9 v14 h).go (fun v h => .bad) fun t10 h => begV b (fun h => ((xfieldAddr P 86 t9 1 h).go (fun v h => krV b (.pan v) h) fun t11 h => (xload P 3 t11 h).go (fun v h => krV b (.pan v) h) fun t12 h => (xload P 3 x3 h).go (fun v h => krV b (.pan v) h) fun t13 h => (xbin P .eql 3 t12 t13 h).go (fun v h => krV b (.pan v) h) fun t14 h => ifV t14 ((xload P 3 x5 h).go (fun v h => krV b (.pan v) h) fun t15 h => (xbin P .add 3 t15 (.int .i64 1) h).go (fun v h => krV b (.pan v) h) fun t16 h => (xstore P 3 x5 t16 h).go (fun v h => krV b (.pan v) h) fun t17 h => krV b .normal h) (krV b .normal h))) h) := by kernel_rfl
theorem eq : runX P cl nu an24 Tryz.f24 [x0,x1] h = (xbox 3 x1 h).go .pan fun t1 h => (xalloc P 3 h).go .pan fun t2 h => (xstore P 3 t2 (.int .i64 0) h).go .pan fun t3 h => (xnilCheck x0 h).go .pan fun t4 h => (xfieldAddr P 88 t4 0 h).go .pan fun t5 h => (xload P 83 t5 h).go .pan fun t6 h => (cl (.f 41) [t6] h).go .pan fun t7 h => rngV cl an24 t7 #[13,14] (s [1,1,0,1,0,0]) (s [1,1,0,1,0,1]) (fun e h => (k2 P cl nu) e [(5,t2)] h) [(3,t1),(5,t2)] h := by kernel_rfl
end
end F24
namespace F34
noncomputable section
variable (P : Program) (cl : Cl) (nu mu : Nu) (h : H)
theorem eq : runX P cl nu an34 Tryz.f34 [] h = (xbuild P 102 [] h).go .pan fun t1 h => (xbox 102 t1 h).go .pan fun t2 h => .ok t2 h := by kernel_rfl
end
end F34
namespace F38
noncomputable section
variable (P : Program) (cl : Cl) (nu mu : Nu) (x0 : Value) (h : H)
theorem eq : runX P cl nu an38 Tryz.f38 [x0] h = (xnilCheck x0 h).go .pan fun t1 h => (xfieldAddr P 102 t1 0 h).go .pan fun t2 h => (xload P 100 t2 h).go .pan fun t3 h => (xbuiltin P .len [100] [t3] h).go .pan fun t4 h => .ok t4 h := by kernel_rfl
end
end F38
namespace F39
noncomputable section
variable (P : Program) (cl : Cl) (nu mu : Nu) (x0 x1 x2 x5 x7 : Value) (h : H)
noncomputable def s := sub (bodyOf Tryz.f39)
noncomputable def k0 : Ko := kfn P Tryz.f39.results.toList
def j5 := mu 10 (evT P cl an39 nu (s [1,1,1]) (k0 P)) [(0,x0),(1,x1),(5,x5),(7,x7)] h
theorem j5_eq : j5 P cl nu nu0 x0 x1 x5 x7 h = (xnilCheck x0 h).ok1 fun t12 h => (xfieldAddr P 102 t12 0 h).ok1 fun t13 h => (xload P 100 t13 h).ok1 fun t14 h => (xload P 86 x5 h).ok1 fun t15 h => (xbuild P 121 [(0,x1),(1,t15)] h).ok1 fun t16 h => (xbuildSlice P 100 1 [(0,t16)] h).go .pan fun t17 h => bif (rc (xload P 100 t13 h) (some t14) && true) then ((cl (.f 53) [t14,x7,t17] h).go .pan fun t18 h => (xnilCheck x0 h).ok1 fun t19 h => (xfieldAddr P 102 t19 0 h).ok1 fun t20 h => (xstore P 100 t20 t18 h).go .pan fun t21 h => .ok (.bool false) h) else .bad := by kernel_rfl
theorem eq : runX P cl nu an39 Tryz.f39 [x0,x1,x2] h = (xbox 86 x2 h).go .pan fun t1 h => (cl (.f 52) [x0,x1] h).go .pan fun t2 h => (xextract t2 0 h).go .pan fun t3 h => (xextract t2 1 h).go .pan fun t4 h => ifV t4 ((xnilCheck x0 h).ok1 fun t5 h => (xfieldAddr P 102 t5 0 h).ok1 fun t6 h => (xload P 100 t6 h).ok1 fun t7 h => (xload P 86 t1 h).ok1 fun t8 h => (xindexAddr P 100 t7 t3 h).ok1 fun t9 h => (xfieldAddr P 121 t9 1 h).ok1 fun t10 h => (xstore P 86 t10 t8 h).go .pan fun t11 h => .ok (.bool true) h) (j5 P cl nu nu x0 x1 t1 t3 h) := by kernel_rfl
end
end F39
namespace F40
noncomputable section
variable (P : Program) (cl : Cl) (nu mu : Nu) (x0 x1 : Value) (h : H)
theorem eq : runX P cl nu an40 Tryz.f40 [x0,x1] h = (cl (.f 52) [x0,x1] h).go .pan fun t1 h => (xextract t1 0 h).go .pan fun t2 h => (xextract t1 1 h).go .pan fun t3 h => ifV t3 ((xnilCheck x0 h).go .pan fun t4 h => (xfieldAddr P 102 t4 0 h).go .pan fun t5 h => (xload P 100 t5 h).go .pan fun t6 h => (xbin P .add 3 t2 (.int .i64 1) h).go .pan fun t7 h => (cl (.f 54) [t6,t2,t7] h).go .pan fun t8 h => (xnilCheck x0 h).go .pan fun t9 h => (xfieldAddr P 102 t9 0 h).go .pan fun t10 h => (xstore P 100 t10 t8 h).go .pan fun t11 h => .ok t3 h) (.ok t3 h) := by kernel_rfl
end
end F40
namespace F41
noncomputable section
variable (P : Program) (cl : Cl) (nu mu : Nu) (x0 : Value) (h : H)
theorem eq : runX P cl nu an41 Tryz.f41 [x0] h = (cl (.f 55) [x0,(.func (.func 56) #[] #[])] h).go .pan fun t1 h => .ok t1 h := by kernel_rfl
end
end F41
namespace F52
noncomputable section
variable (P : Program) (cl : Cl) (nu mu : Nu) (x0 x1 : Value) (h : H)
theorem eq : runX P cl nu an52 Tryz.f52 [x0,x1] h = (xnilCheck x0 h).go .pan fun t1 h => (xfieldAddr P 102 t1 0 h).go .pan fun t2 h => (xload P 100 t2 h).go .pan fun t3 h => (cl (.f 74) [t3,x1,(.func (.func 75) #[] #[])] h).go .pan fun t4 h => (xextract t4 0 h).go .pan fun t5 h => (xextract t4 1 h).go .pan fun t6 h => .ok (.tuple ⟨[t5,t6]⟩) h := by kernel_rfl
end
end F52
namespace F54
noncomputable section
variable (P : Program) (cl : Cl) (nu mu : Nu) (x0 x1 x2 : Value) (h : H)
noncomputable def s := sub (bodyOf Tryz.f54)
noncomputable def k0 : Ko := kfn P Tryz.f54.results.toList
def j4 := mu 8 (evT P cl an54 nu (s [1,1,1]) (k0 P)) [(0,x0),(1,x1),(2,x2)] h
theorem j4_eq : j4 P cl nu nu0 x0 x1 x2 h = (xbuiltin P .len [100] [x0] h).go .pan fun t4 h => (xslice P 100 x0 none (some x1) none h).ok1 fun t5 h => (xslice P 100 x0 (some x2) none none h).ok1 fun t6 h => (xbuiltin P .append [100,100] [t5,t6] h).go .pan fun t7 h => (xbuiltin P .len [100] [t7] h).go .pan fun t8 h => (xslice P 100 t7 (some t8) (some t4) none h).go .pan fun t9 h => (xbuiltin P .clear [100] [t9] h).go .pan fun t10 h => .ok t7 h := by kernel_rfl
theorem eq : runX P cl nu an54 Tryz.f54 [x0,x1,x2] h = (xbuiltin P .len [100] [x0] h).go .pan fun t1 h => (xslice P 100 x0 (some x1) (some x2) (some t1) h).go .pan fun t2 h => (xbin P .eql 3 x1 x2 h).go .pan fun t3 h => ifV t3 (.ok x0 h) (j4 P cl nu nu x0 x1 x2 h) := by kernel_rfl
end
end F54
namespace F55
noncomputable section
variable (P : Program) (cl : Cl) (nu mu : Nu) (x0 x1 : Value) (h : H)
theorem eq : runX P cl nu an55 Tryz.f55 [x0,x1] h = (xbox 83 x0 h).go .pan fun t1 h => (xbox 38 x1 h).go .pan fun t2 h => .ok (.func (.func 79) ⟨[]⟩ ⟨[t1,t2]⟩) h := by kernel_rfl
end
end F55
namespace F56
noncomputable section
variable (P : Program) (cl : Cl) (nu mu : Nu) (h : H)
theorem eq : runX P cl nu an56 Tryz.f56 [] h = .ok (.int .i64 0) h := by kernel_rfl
end
end F56
namespace F74
noncomputable section
variable (P : Program) (cl : Cl) (nu mu : Nu) (x0 x1 x2 x8 x9 x10 : Value) (h : H)
noncomputable def s := sub (bodyOf Tryz.f74)
noncomputable def k0 : Ko := kfn P Tryz.f74.results.toList
def k1 : Ko := kC P cl nu an74 (s [1,1,1,1]) (k0 P)
def k2 : Ko := kblk 0 (k1 P cl nu)
def l3 := mu 7 (lC P cl nu an74 [0,1,2,8,9,10] (s [1,1,1,0,0,0]) (k2 P cl nu)) [(0,x0),(1,x1),(2,x2),(8,x8),(9,x9),(10,x10)] h
def k3 : Ko := kL P cl nu an74 7 [0,1,2,8,9,10] (s [1,1,1,0,0,0]) (k2 P cl nu)
def j4 := mu 8 (evT P cl an74 nu (s [1,1,1,0,0,0,1]) (k3 P cl nu)) [(0,x0),(1,x1),(2,x2),(8,x8),(9,x9),(10,x10)] h
def j8 := mu 16 (evT P cl an74 nu (s [1,1,1,1]) (k0 P)) [(0,x0),(1,x1),(2,x2),(8,x8),(9,x9)] h
theorem l3n : evT P cl an74 nu (s [1,1,1,0,0,0]) (kL P cl nu an74 7 [0,1,2,8,9,10] (s [1,1,1,0,0,0]) (k2 P cl nu)) [(0,x0),(1,x1),(2,x2),(8,x8),(9,x9),(10,x10)] h = (xbin P .lss 3 x9 x10 h).go .pan fun t2 h => ifV t2 (j4 P cl nu nu x0 x1 x2 x8 x9 x10 h) (j8 P cl nu nu x0 x1 x2 x8 x9 h) := by kernel_rfl
def l3_eq := @id (l3 P cl nu0 nu0 x0 x1 x2 x8 x9 x10 h = _) (lpN (l3n P cl nu0 x0 x1 x2 x8 x9 x10 h))
theorem j4_eq : j4 P cl nu nu0 x0 x1 x2 x8 x9 x10 h = (xbin P .add 3 x9 x10 h).go .pan fun t3 h => (xconvert P 3 99 t3 h).go .pan fun t4 h => (xbin P .shr 99 t4 (.int .u64 1) h).go .pan fun t5 h => (xconvert P 99 3 t5 h).go .pan fun t6 h => (xindexAddr P 100 x0 t6 h).go .pan fun t7 h => (xload P 121 t7 h).go .pan fun t8 h => (xcallV cl x2 [t8,x1] h).go .pan fun t9 h => (xbin P .lss 3 t9 (.int .i64 0) h).go .pan fun t10 h => ifV t10 ((xbin P .add 3 t6 (.int .i64 1) h).go .pan fun t11 h => (l3 P cl nu nu x0 x1 x2 x8 t11 x10 h)) (l3 P cl nu nu x0 x1 x2 x8 x9 t6 h) := by kernel_rfl
theorem j8_eq : j8 P cl nu nu0 x0 x1 x2 x8 x9 h = (xbin P .lss 3 x9 x8 h).go .pan fun t12 h => ifV t12 ((xindexAddr P 100 x0 x9 h).go .pan fun t13 h => (xload P 121 t13 h).go .pan fun t14 h => (xcallV cl x2 [t14,x1] h).go .pan fun t15 h => (xbin P .eql 3 t15 (.int .i64 0) h).go .pan fun t16 h => .ok (.tuple ⟨[x9,t16]⟩) h) (.ok (.tuple ⟨[x9,(.bool false)]⟩) h) := by kernel_rfl
theorem eq : runX P cl nu an74 Tryz.f74 [x0,x1,x2] h = (xbuiltin P .len [100] [x0] h).go .pan fun t1 h => (l3 P cl nu nu x0 x1 x2 t1 (.int .i64 0) t1 h) := by kernel_rfl
end
end F74
namespace F75
noncomputable section
variable (P : Program) (cl : Cl) (nu mu : Nu) (x0 x1 : Value) (h : H)
theorem eq : runX P cl nu an75 Tryz.f75 [x0,x1] h = (xbox 121 x0 h).go .pan fun t1 h => (xfieldAddr P 121 t1 0 h).go .pan fun t2 h => (xload P 3 t2 h).go .pan fun t3 h => (cl (.f 76) [t3,x1] h).go .pan fun t4 h => .ok t4 h := by kernel_rfl
end
end F75
namespace F76
noncomputable section
variable (P : Program) (cl : Cl) (nu mu : Nu) (x0 x1 : Value) (h : H)
theorem eq : runX P cl nu an76 Tryz.f76 [x0,x1] h = (cl (.f 88) [x0] h).go .pan fun t1 h => (cl (.f 88) [x1] h).go .pan fun t2 h => ifV t1 (ifV t2 (.ok (.int .i64 0) h) (.ok (.int .i64 (-1)) h)) (ifV t2 (.ok (.int .i64 1) h) ((xbin P .lss 3 x0 x1 h).go .pan fun t3 h => ifV t3 (.ok (.int .i64 (-1)) h) ((xbin P .gtr 3 x0 x1 h).go .pan fun t4 h => ifV t4 (.ok (.int .i64 1) h) (.ok (.int .i64 0) h)))) := by kernel_rfl
end
end F76
namespace F79
noncomputable section
variable (P : Program) (cl : Cl) (nu mu : Nu) (x0 x1 x2 x13 x14 x15 x16 : Value) (h : H)
noncomputable def s := sub (bodyOf Tryz.f79)
noncomputable def k0 : Ko := kfn P Tryz.f79.results.toList
noncomputable def k1 : Ko := kblk 0 (k0 P)
def l1 := mu 3 (lC P cl nu an79 [0,13,14,15] (s [1,0,0]) (k1 P)) [(0,x0),(13,x13),(14,x14),(15,x15)] h
def k2 : Ko := kL P cl nu an79 3 [0,13,14,15] (s [1,0,0]) (k1 P)
def j2 := mu 4 (evT P cl an79 nu (s [1,0,0,1]) (k2 P cl nu)) [(0,x0),(13,x13),(14,x14),(15,x15),(16,x16)] h
def j2_1 := mu 4 (evT P cl an79 nu (s [1,0,0,1,1]) (k2 P cl nu)) [(0,x0),(13,x13),(14,x14),(15,x15),(16,x16)] h
theorem l1n : evT P cl an79 nu (s [1,0,0]) (kL P cl nu an79 3 [0,13,14,15] (s [1,0,0]) (k1 P)) [(0,x0),(13,x13),(14,x14),(15,x15)] h = (xbin P .lss 3 x15 x14 h).go .pan fun t10 h => (j2 P cl nu nu x0 x13 x14 x15 t10 h) := by kernel_rfl
def l1_eq := @id (l1 P cl nu0 nu0 x0 x13 x14 x15 h = _) (lpN (l1n P cl nu0 x0 x13 x14 x15 h))
theorem j2_eq : j2 P cl nu nu0 x0 x13 x14 x15 x16 h = ifV x16 (j2_1 P cl nu nu x0 x13 x14 x15 x16 h) (.ok (.tuple ⟨[]⟩) h) := by kernel_rfl
theorem j2_1_eq : j2_1 P cl nu nu0 x0 x13 x14 x15 x16 h = (xindexAddr P 100 x13 x15 h).go .pan fun t11 h => (xload P 121 t11 h).go .pan fun t12 h => (xalloc P 121 h).go .pan fun t13 h => (xstore P 121 t13 t12 h).go .pan fun t14 h => (xfieldAddr P 121 t13 0 h).go .pan fun t15 h => (xload P 3 t15 h).go .pan fun t16 h => (xfieldAddr P 121 t13 1 h).go .pan fun t17 h => (xload P 86 t17 h).go .pan fun t18 h => (xcallV cl x0 [t16,t18] h).go .pan fun t19 h => (xun P .not t19 h).go .pan fun t20 h => ifV t20 (.ok (.tuple ⟨[]⟩) h) ((xbin P .add 3 x15 (.int .i64 1) h).go .pan fun t21 h => (l1 P cl nu nu x0 x13 x14 t21 h)) := by kernel_rfl
theorem eq : runX P cl nu an79 Tryz.f79 [x0,x1,x2] h = (xload P 83 x1 h).ok1 fun t1 h => (xnilCheck t1 h).ok1 fun t2 h => (xfieldAddr P 102 t2 0 h).ok1 fun t3 h => (xload P 100 t3 h).ok1 fun t4 h => (xload P 38 x2 h).ok1 fun t5 h => (xcallV cl t5 [] h).go .pan fun t6 h => bif (rc (xload P 83 x1 h) (some t1) && (rc (xload P 100 t3 h) (some t4) && true)) then ((xslice P 100 t4 (some t6) none none h).ok1 fun t7 h => (cl (.f 80) [t7] h).go .pan fun t8 h => bif (lenV t8).isSome then ((xbuiltin P .len [100] [t8] h).ok1 fun t9 h => (l1 P cl nu nu x0 t8 t9 (.int .i64 0) h)) else .bad) else .bad := by kernel_rfl
end
end F79
namespace F80
noncomputable section
variable (P : Program) (cl : Cl) (nu mu : Nu) (x0 : Value) (h : H)
theorem eq : runX P cl nu an80 Tryz.f80 [x0] h = (xbin P .eql 100 x0 (.slice none 0 0) h).go .pan fun t1 h => ifV t1 (.ok (.slice none 0 0) h) ((xbuildSlice P 100 0 [] h).go .pan fun t2 h => (xbuiltin P .append [100,100] [t2,x0] h).go .pan fun t3 h => .ok t3 h) := by kernel_rfl
end
end F80
namespace F88
noncomputable section
variable (P : Program) (cl : Cl) (nu mu : Nu) (x0 : Value) (h : H)
theorem eq : runX P cl nu an88 Tryz.f88 [x0] h = (xbin P .neq 3 x0 x0 h).go .pan fun t1 h => .ok t1 h := by kernel_rfl
end
end F88
end Go.Proofs.YtialpopmeamojaaGreat.K
namespace Go.Proofs.YtialpopmeamojaaGreat.K
open Go Go.Kx
set_option maxRecDepth 100000
set_option linter.unusedVariables false
theorem mixed : Tryz.prog.follows .mixedOrders = true := by kernel_rfl
noncomputable def primO : Pr := fun f args h => match f with
  | 28 => ovP args h
  | 32 => ovP args h
  | 77 => ovP args h
  | 92 => ovP args h
  | _ => .bad
noncomputable def CLO : Cl := clS Tryz.prog tab primO
theorem ovA_ok (args args' : List Value) (ι : Io) (h : H) (w : World) (s : Sim Tryz.prog ι h w) (ha : RL ι args args') : SN Tryz.prog ι w (ovP args h) (callFunc 28 ⟨args'⟩) :=
  ovP_ok (sl := 42) (tR := 4) (e := 51) Tryz.func28 (by kernel_rfl) (by kernel_rfl) (by kernel_rfl) (by kernel_rfl) (by kernel_rfl) (rSizeOf (by kernel_rfl)) args args' ι h w s ha
theorem ovB_ok (args args' : List Value) (ι : Io) (h : H) (w : World) (s : Sim Tryz.prog ι h w) (ha : RL ι args args') : SN Tryz.prog ι w (ovP args h) (callFunc 32 ⟨args'⟩) :=
  ovP_ok (sl := 45) (tR := 4) (e := 54) Tryz.func32 (by kernel_rfl) (by kernel_rfl) (by kernel_rfl) (by kernel_rfl) (by kernel_rfl) (rSizeOf (by kernel_rfl)) args args' ι h w s ha
theorem ovC_ok (args args' : List Value) (ι : Io) (h : H) (w : World) (s : Sim Tryz.prog ι h w) (ha : RL ι args args') : SN Tryz.prog ι w (ovP args h) (callFunc 77 ⟨args'⟩) :=
  ovP_ok (sl := 100) (tR := 4) (e := 121) Tryz.func77 (by kernel_rfl) (by kernel_rfl) (by kernel_rfl) (by kernel_rfl) (by kernel_rfl) (rSizeOf (by kernel_rfl)) args args' ι h w s ha
theorem ovD_ok (args args' : List Value) (ι : Io) (h : H) (w : World) (s : Sim Tryz.prog ι h w) (ha : RL ι args args') : SN Tryz.prog ι w (ovP args h) (callFunc 92 ⟨args'⟩) :=
  ovP_ok (sl := 127) (tR := 4) (e := 146) Tryz.func92 (by kernel_rfl) (by kernel_rfl) (by kernel_rfl) (by kernel_rfl) (by kernel_rfl) (rSizeOf (by kernel_rfl)) args args' ι h w s ha
theorem primO_ok : PrOk Tryz.prog 0 primO := by
  intro f args args' ι h w hg s ha
  unfold primO
  split
  · exact ovA_ok args args' ι h w s ha
  · exact ovB_ok args args' ι h w s ha
  · exact ovC_ok args args' ι h w s ha
  · exact ovD_ok args args' ι h w s ha
  · trivial
theorem CLO_ok : ClOk Tryz.prog 0 CLO := clS_ok mixed tab_ok primO_ok
theorem cells_pos {e n : Nat} (h : n + 1 = Tryz.prog.cellsOf e) : 0 < Tryz.prog.cellsOf e := Nat.lt_of_lt_of_le (Nat.zero_lt_succ n) (Nat.le_of_eq h)
theorem TA : InsT Tryz.prog 42 3 51 := ⟨by kernel_rfl,by kernel_rfl,by kernel_rfl,by kernel_rfl,by kernel_rfl,cells_pos (n := 1) (by kernel_rfl)⟩
theorem TB : InsT Tryz.prog 45 3 54 := ⟨by kernel_rfl,by kernel_rfl,by kernel_rfl,by kernel_rfl,by kernel_rfl,cells_pos (n := 1) (by kernel_rfl)⟩
theorem TC : InsT Tryz.prog 100 3 121 := ⟨by kernel_rfl,by kernel_rfl,by kernel_rfl,by kernel_rfl,by kernel_rfl,cells_pos (n := 102) (by kernel_rfl)⟩
theorem TD : InsT Tryz.prog 127 3 146 := ⟨by kernel_rfl,by kernel_rfl,by kernel_rfl,by kernel_rfl,by kernel_rfl,cells_pos (n := 1) (by kernel_rfl)⟩
theorem bodyA (x0 x1 x2 : Value) (h : H) : CLO (.f 15) [x0,x1,x2] h = insB Tryz.prog 42 3 28 (F15.j18 Tryz.prog CLO nu0 nu0) CLO x0 x1 x2 h := by
  have e : CLO (.f 15) [x0,x1,x2] h = runX Tryz.prog CLO nu0 an15 Tryz.f15 [x0,x1,x2] h := clS_eq (by kernel_rfl) _ _
  rw [e,F15.eq]
  simp only [F15.j5_eq,F15.j8_eq,F15.j13_eq]
  rfl
theorem bodyB (x0 x1 x2 : Value) (h : H) : CLO (.f 17) [x0,x1,x2] h = insB Tryz.prog 45 3 32 (F17.j18 Tryz.prog CLO nu0 nu0) CLO x0 x1 x2 h := by
  have e : CLO (.f 17) [x0,x1,x2] h = runX Tryz.prog CLO nu0 an17 Tryz.f17 [x0,x1,x2] h := clS_eq (by kernel_rfl) _ _
  rw [e,F17.eq]
  simp only [F17.j5_eq,F17.j8_eq,F17.j13_eq]
  rfl
theorem bodyC (x0 x1 x2 : Value) (h : H) : CLO (.f 53) [x0,x1,x2] h = insB Tryz.prog 100 3 77 (F53.j18 Tryz.prog CLO nu0 nu0) CLO x0 x1 x2 h := by
  have e : CLO (.f 53) [x0,x1,x2] h = runX Tryz.prog CLO nu0 an53 Tryz.f53 [x0,x1,x2] h := clS_eq (by kernel_rfl) _ _
  rw [e,F53.eq]
  simp only [F53.j5_eq,F53.j8_eq,F53.j13_eq]
  rfl
theorem bodyD (x0 x1 x2 : Value) (h : H) : CLO (.f 82) [x0,x1,x2] h = insB Tryz.prog 127 3 92 (F82.j18 Tryz.prog CLO nu0 nu0) CLO x0 x1 x2 h := by
  have e : CLO (.f 82) [x0,x1,x2] h = runX Tryz.prog CLO nu0 an82 Tryz.f82 [x0,x1,x2] h := clS_eq (by kernel_rfl) _ _
  rw [e,F82.eq]
  simp only [F82.j5_eq,F82.j8_eq,F82.j13_eq]
  rfl
noncomputable def primI : Pr := fun f args h => match f with
  | 15 => insP Tryz.prog 42 args h
  | 17 => insP Tryz.prog 45 args h
  | 53 => insP Tryz.prog 100 args h
  | 82 => insP Tryz.prog 127 args h
  | _ => .bad
noncomputable def tabI : Tab := fun f => match f with
  | 15 => none
  | 17 => none
  | 53 => none
  | 82 => none
  | n => tab n
theorem primI_ok : PrOk Tryz.prog 0 primI := by
  intro f args args' ι h w hg s ha
  unfold primI
  split
  · exact insP_ok TA (G := 0) CLO_ok bodyA (fun args h => clS_prim (by kernel_rfl) args h) args args' ι h w s ha
  · exact insP_ok TB (G := 0) CLO_ok bodyB (fun args h => clS_prim (by kernel_rfl) args h) args args' ι h w s ha
  · exact insP_ok TC (G := 0) CLO_ok bodyC (fun args h => clS_prim (by kernel_rfl) args h) args args' ι h w s ha
  · exact insP_ok TD (G := 0) CLO_ok bodyD (fun args h => clS_prim (by kernel_rfl) args h) args args' ι h w s ha
  · trivial
theorem tabI_ok : ∀ f fn an,tabI f = some (fn,an) → fnOk Tryz.prog 0 an f fn := by
  intro f fn an h
  unfold tabI at h
  split at h
  · cases h
  · cases h
  · cases h
  · cases h
  · exact tab_ok _ _ _ h
noncomputable def CLI : Cl := clR Tryz.prog tabI primI 400
theorem CLI_ok : ClOk Tryz.prog 0 CLI := clR_ok mixed tabI_ok primI_ok 400
end Go.Proofs.YtialpopmeamojaaGreat.K
namespace Go.Proofs.YtialpopmeamojaaGreat.K
open Go Go.Kx
set_option maxRecDepth 20000
set_option linter.unusedVariables false
def ops8 : List (Int × Int × Int) := [(1,5,1),(1,2,2),(1,5,3),(5,0,0),(6,3,0),(3,2,0),(3,2,0),(4,0,0)]
def opR (a : Int × Int × Int) : List Value := [.int .i64 a.1,.int .i64 a.2.1,.string ⟨⟨[]⟩⟩,.float .f64 0,.int .i64 a.2.2]
def opsC : List (Int × Int × Int) → List Value
  | [] => []
  | a :: l => opR a ++ opsC l
def isOps : List Value → List (Int × Int × Int) → Bool
  | [],[] => true
  | .int .i64 a :: .int .i64 b :: .string ⟨⟨[]⟩⟩ :: .float .f64 0 :: .int .i64 c :: l,x :: m => decide (a = x.1) && decide (b = x.2.1) && decide (c = x.2.2) && isOps l m
  | _,_ => false
def ops8At (args : List Value) (h : H) : Bool := match args with
  | [.slice (some ⟨b,0,none⟩) 8 8] => (match h.get b with | some (.cells c 59 0 false) => isOps c ops8 | _ => false)
  | _ => false
theorem isOps_opsC : ∀ m,isOps (opsC m) m = true
  | [] => rfl
  | x :: m => by
    show (decide (x.1 = x.1) && decide (x.2.1 = x.2.1) && decide (x.2.2 = x.2.2) && isOps (opsC m) m) = true
    simp [isOps_opsC m]
theorem isOps_eq : ∀ (l : List Value) (m : List (Int × Int × Int)),isOps l m = true → l = opsC m := by
  intro l m h
  fun_induction isOps l m with
  | case1 => rfl
  | case2 a b c l x m ih =>
    simp only [Bool.and_eq_true,decide_eq_true_eq] at h
    obtain ⟨⟨⟨h1,h2⟩,h3⟩,h4⟩ := h
    subst h1; subst h2; subst h3
    rw [ih h4]; rfl
  | case3 => cases h
noncomputable def primM : Pr := fun f args h => match f with
  | 20 => bif ops8At args h then .ok (.bool true) h else .bad
  | 15 => insP Tryz.prog 42 args h
  | 17 => insP Tryz.prog 45 args h
  | 53 => insP Tryz.prog 100 args h
  | 82 => insP Tryz.prog 127 args h
  | _ => .bad
theorem pmI (args : List Value) (h : H) : primM 20 args h = bif ops8At args h then .ok (.bool true) h else .bad := by kernel_rfl
theorem pmA (args : List Value) (h : H) : primM 15 args h = insP Tryz.prog 42 args h := by kernel_rfl
theorem pmB (args : List Value) (h : H) : primM 17 args h = insP Tryz.prog 45 args h := by kernel_rfl
theorem pmC (args : List Value) (h : H) : primM 53 args h = insP Tryz.prog 100 args h := by kernel_rfl
end Go.Proofs.YtialpopmeamojaaGreat.K
